/- Several texts in one: EntA, EntB, WList, WireT, WireU, EntC, Inv, Sep, SepO, Cut, Fence, Range, Marks, Conv, EntD, EntE, EntR, WireV, WireW, WireX, WireY, WireZ, WireAA, WireAB, WireBA, WireBB, WireBC, WireBD. -/
import Derived.RangeFuncNested
import Derived.RangeFuncBound
import Derived.RangeFuncCalls
import Derived.RangeFuncLeaves
import Derived.Shelf.Abstract
import Derived.Shelf.RegionOpen
import Derived.WalkKit
import Derived.OwnWalkIn
import Derived.TacticsInMore
import Derived.LoopNIn
import Derived.LoopN
import Derived.LoopIn
import Derived.Lib.SlBytesConst
import Derived.Test.YtdmdnphbheomoaaP1
set_option linter.unusedVariables false
set_option linter.unusedSimpArgs false
set_option maxRecDepth 100000
set_option maxHeartbeats 8000000
namespace Go.Proofs.Ytdmdnphbheomoaa
/- Check of entry and of the reference. -/
section
open Go.RowKit
theorem chk_4 {f : Int} {L : List (List UInt8)} (h : f < 0 ∨ 4611686018427387904 < f ∨ 4611686018427387904 - f + 1 < (L.length : Int)) : chk f L = 4 := if_pos h
theorem chk_2 {f : Int} {L : List (List UInt8)} (h1 : 0 ≤ f) (h2 : f ≤ 4611686018427387904) (h4 : L.length = 0) : chk f L = 2 := by
  unfold chk; rw [if_neg (by omega), if_pos h4]
theorem chk_5 {f : Int} {L : List (List UInt8)} (h1 : 0 ≤ f) (h2 : f ≤ 4611686018427387904) (h3 : (L.length : Int) ≤ 4611686018427387904 - f + 1) (h5 : 1024 < L.length) : chk f L = 5 := by
  unfold chk; rw [if_neg (by omega), if_neg (by omega), if_pos h5]
theorem chk_3 {f : Int} {L : List (List UInt8)} (h1 : 0 ≤ f) (h2 : f ≤ 4611686018427387904) (h3 : (L.length : Int) ≤ 4611686018427387904 - f + 1) (h4 : ¬ L.length = 0) (h5 : ¬ 1024 < L.length) (h : L.any (fun e => decide (4096 < e.length)) = true) : chk f L = 3 := by
  unfold chk; rw [if_neg (by omega), if_neg (by omega), if_neg (by omega), if_pos h]
theorem chk_0 {f : Int} {L : List (List UInt8)} (h1 : 0 ≤ f) (h2 : f ≤ 4611686018427387904) (h3 : (L.length : Int) ≤ 4611686018427387904 - f + 1) (h4 : ¬ L.length = 0) (h5 : ¬ 1024 < L.length) (h : L.any (fun e => decide (4096 < e.length)) = false) : chk f L = 0 := by
  unfold chk; rw [if_neg (by omega), if_neg (by omega), if_neg (by omega), if_neg (by rw [h]; simp)]
theorem Txs.len_le {w : World} {v : Value} {L : List (List UInt8)} (h : Txs w v L) : L.length ≤ 9223372036854775807 := by
  obtain ⟨vs, ⟨_, A', c', _, h1, h2, _⟩, _⟩ := h
  unfold maxLen at h2
  omega
theorem Txs.at_ {w : World} {ad : Addr} {n c : Nat} {L : List (List UInt8)} (h : Txs w (.slice (some ad) n c) L) {k : Nat} (hk : k < L.length) : ∃ A c, w.cell? (ad.add k) = some (.slice A L[k].length c) ∧ Rd w 1 (.slice A L[k].length c) L[k].length (bv L[k]) := by
  obtain ⟨A', c', e, _, h2⟩ := h.open_
  cases e
  obtain ⟨u, h3, h4⟩ := h2 ad rfl k hk
  obtain ⟨A, c, rfl, _⟩ := rd_get2 h4
  exact ⟨A, c, h3, h4⟩
set_option maxRecDepth 100000 in
set_option maxHeartbeats 2000000 in
theorem check_any (f : Int) (hf : -9223372036854775808 ≤ f ∧ f ≤ 9223372036854775807) (v : Value) (L : List (List UInt8)) (w : World) (hv : Txs w v L) :
    Calls Try.prog 16 #[.agg #[.int .i64 f, v]] w fun e w' => e = .returned (.int .i64 (chk f L : Int)) ∧ Kp [] w w' := by
  have hbL := hv.len_le
  obtain ⟨A, c, rfl, hA, -⟩ := hv.open_
  have Hv := Lib.hid hv
  have HA := Lib.hid hA
  clear hA hv
  by_cases h0 : f < 0
  · have Hc := Lib.hid (chk_4 (L := L) (.inl h0))
    go_enter Try.func16, Try.ntmps16
    go_wp2
    go_ret
    exact ⟨by rw [Hc.out]; rfl, (Kp.refl [] w).alloc _⟩
  · by_cases h1 : 4611686018427387904 < f
    · have Hc := Lib.hid (chk_4 (L := L) (.inr (.inl h1)))
      go_enter Try.func16, Try.ntmps16
      go_wp2
      go_ret
      exact ⟨by rw [Hc.out]; rfl, (Kp.refl [] w).alloc _⟩
    · by_cases h2 : 4611686018427387904 - f + 1 < (L.length : Int)
      · have Hc := Lib.hid (chk_4 (L := L) (.inr (.inr h2)))
        go_enter Try.func16, Try.ntmps16
        go_wp2
        go_ret
        exact ⟨by rw [Hc.out]; rfl, (Kp.refl [] w).alloc _⟩
      · by_cases h3 : L.length = 0
        · have Hc := Lib.hid (chk_2 (f := f) (L := L) (by omega) (by omega) h3)
          have H3 := Lib.hid h3
          rw [h3] at h2 hbL ⊢
          clear h3
          go_enter Try.func16, Try.ntmps16
          go_wp2
          go_ret
          exact ⟨by rw [Hc.out]; rfl, (Kp.refl [] w).alloc _⟩
        · have h3' : ¬ (L.length : Int) = 0 := by omega
          by_cases h4 : 1024 < L.length
          · have Hc := Lib.hid (chk_5 (f := f) (L := L) (by omega) (by omega) (by omega) h4)
            have h4' : (1024 : Int) < L.length := by omega
            go_enter Try.func16, Try.ntmps16
            go_wp2
            go_ret
            exact ⟨by rw [Hc.out]; rfl, (Kp.refl [] w).alloc _⟩
          · have h4' : ¬ (1024 : Int) < L.length := by omega
            have HC3 := Lib.hid (chk_3 (f := f) (L := L) (by omega) (by omega) (by omega) h3 h4)
            have HC0 := Lib.hid (chk_0 (f := f) (L := L) (by omega) (by omega) (by omega) h3 h4)
            obtain ⟨ad, rfl⟩ := HA.out (by omega)
            go_enter Try.func16, Try.ntmps16
            go_wp2
            go_loop [37] (fun i => ∃ k : Nat, k ≤ L.length ∧ i = .int .i64 k ∧ (L.take k).any (fun e => decide (4096 < e.length)) = false) (fun i => L.length - (intOf i).toNat)
            case atStart => exact ⟨0, by omega, rfl, by simp⟩
            case round =>
              obtain ⟨k, hk, rfl, hany⟩ := hrel
              by_cases hlt : k < L.length
              · have he : L[k]? = some L[k] := List.getElem?_eq_getElem hlt
                have HS := Lib.hid (any_long_take_succ he)
                have HL := Lib.hid (any_long_of he)
                have HN := Lib.hid hany
                obtain ⟨Ae, ce, hce, -⟩ := (Hv.out.kp0 ((Kp.refl [] w).alloc (.cells #[.int .i64 f, .slice (some ad) L.length c] 24))).at_ hlt
                clear he hany
                generalize L[k] = x at *
                by_cases hx : 4096 < x.length
                · go_wp2
                  go_ret
                  exact ⟨by rw [HC3.out (HL.out hx)]; rfl, (Kp.refl [] w).alloc _⟩
                · go_wp2
                  go_round
                  case rel => exact ⟨k + 1, by omega, by go_num, by rw [HS.out, HN.out]; simp; omega⟩
                  case measure => simp [intOf]; omega
              · obtain rfl : k = L.length := by omega
                rw [List.take_length] at hany
                have HN := Lib.hid hany
                clear hany
                go_wp2
                go_ret
                exact ⟨by rw [HC0.out HN.out]; rfl, (Kp.refl [] w).alloc _⟩
set_option maxRecDepth 100000 in
set_option maxHeartbeats 2000000 in
theorem rcheck_any (f : Int) (hf : -9223372036854775808 ≤ f ∧ f ≤ 9223372036854775807) (v : Value) (L : List (List UInt8)) (w : World) (hv : Txs w v L) :
    Calls Try.prog 17 #[.agg #[.int .i64 f, v]] w fun e w' => e = .returned (.int .i64 (chk f L : Int)) ∧ Kp [] w w' := by
  have hbL := hv.len_le
  obtain ⟨A, c, rfl, hA, -⟩ := hv.open_
  have Hv := Lib.hid hv
  have HA := Lib.hid hA
  clear hA hv
  by_cases h0 : f < 0
  · have Hc := Lib.hid (chk_4 (L := L) (.inl h0))
    go_enter Try.func17, Try.ntmps17
    go_wp2
    go_ret
    exact ⟨by rw [Hc.out]; rfl, (Kp.refl [] w).alloc _⟩
  · by_cases h1 : 4611686018427387904 < f
    · have Hc := Lib.hid (chk_4 (L := L) (.inr (.inl h1)))
      go_enter Try.func17, Try.ntmps17
      go_wp2
      go_ret
      exact ⟨by rw [Hc.out]; rfl, (Kp.refl [] w).alloc _⟩
    · by_cases h2 : 4611686018427387904 - f + 1 < (L.length : Int)
      · have Hc := Lib.hid (chk_4 (L := L) (.inr (.inr h2)))
        have h2a : (0 : Int) < (L.length : Int) := by omega
        have h2b : 4611686018427387904 - ((L.length : Int) - 1) < f := by omega
        go_enter Try.func17, Try.ntmps17
        go_wp2
        go_ret
        exact ⟨by rw [Hc.out]; rfl, (Kp.refl [] w).alloc _⟩
      · by_cases h3 : L.length = 0
        · have Hc := Lib.hid (chk_2 (f := f) (L := L) (by omega) (by omega) h3)
          have H3 := Lib.hid h3
          rw [h3] at h2 hbL ⊢
          clear h3
          go_enter Try.func17, Try.ntmps17
          go_wp2
          go_ret
          exact ⟨by rw [Hc.out]; rfl, (Kp.refl [] w).alloc _⟩
        · have h3' : ¬ (L.length : Int) = 0 := by omega
          by_cases h4 : 1024 < L.length
          · have h2a : (0 : Int) < (L.length : Int) := by omega
            have h2b : ¬ 4611686018427387904 - ((L.length : Int) - 1) < f := by omega
            have Hc := Lib.hid (chk_5 (f := f) (L := L) (by omega) (by omega) (by omega) h4)
            have h4' : (1024 : Int) < L.length := by omega
            go_enter Try.func17, Try.ntmps17
            go_wp2
            go_ret
            exact ⟨by rw [Hc.out]; rfl, (Kp.refl [] w).alloc _⟩
          · have h2a : (0 : Int) < (L.length : Int) := by omega
            have h2b : ¬ 4611686018427387904 - ((L.length : Int) - 1) < f := by omega
            have h4' : ¬ (1024 : Int) < L.length := by omega
            have HC3 := Lib.hid (chk_3 (f := f) (L := L) (by omega) (by omega) (by omega) h3 h4)
            have HC0 := Lib.hid (chk_0 (f := f) (L := L) (by omega) (by omega) (by omega) h3 h4)
            obtain ⟨ad, rfl⟩ := HA.out (by omega)
            go_enter Try.func17, Try.ntmps17
            go_wp2
            go_loop [4] (fun i => ∃ k : Nat, k ≤ L.length ∧ i = .int .i64 k ∧ (L.take k).any (fun e => decide (4096 < e.length)) = false) (fun i => L.length - (intOf i).toNat)
            case atStart => exact ⟨0, by omega, rfl, by simp⟩
            case round =>
              obtain ⟨k, hk, rfl, hany⟩ := hrel
              by_cases hlt : k < L.length
              · have he : L[k]? = some L[k] := List.getElem?_eq_getElem hlt
                have HS := Lib.hid (any_long_take_succ he)
                have HL := Lib.hid (any_long_of he)
                have HN := Lib.hid hany
                obtain ⟨Ae, ce, hce, -⟩ := (Hv.out.kp0 ((Kp.refl [] w).alloc (.cells #[.int .i64 f, .slice (some ad) L.length c] 24))).at_ hlt
                clear he hany
                generalize L[k] = x at *
                by_cases hx : 4096 < x.length
                · go_wp2
                  go_ret
                  exact ⟨by rw [HC3.out (HL.out hx)]; rfl, (Kp.refl [] w).alloc _⟩
                · go_wp2
                  go_round
                  case rel => exact ⟨k + 1, by omega, by go_num, by rw [HS.out, HN.out]; simp; omega⟩
                  case measure => simp [intOf]; omega
              · obtain rfl : k = L.length := by omega
                rw [List.take_length] at hany
                have HN := Lib.hid hany
                clear hany
                go_wp2
                go_ret
                exact ⟨by rw [HC0.out HN.out]; rfl, (Kp.refl [] w).alloc _⟩
end
/- The reference's Put and One for layer 15. -/
section
open Go.RowKit
/-- A new row of bytes. -/
def NewB (bs : List UInt8) (w : World) (v : Value) (w' : World) : Prop := Ow w' 5 1 v bs.length (bv bs) ∧ Kp [] w w' ∧ ∀ g, v.ownBlock = some g → w.heap.size ≤ g
theorem NewB.rd {bs : List UInt8} {w w' : World} {v : Value} (h : NewB bs w v w') : Rd w' 1 v bs.length (bv bs) := Rd.of_own h.1
theorem NewB.nil (w w' : World) (h : Kp [] w w') : NewB [] w (.slice none 0 0) w' := ⟨World.ownsRow_nil _ _ _ _, h, by simp [Value.ownBlock]⟩
theorem NewB.base {bs : List UInt8} {w0 w w' : World} {v : Value} (k : Kp [] w0 w) (h : NewB bs w v w') : NewB bs w0 v w' := ⟨h.1, k.trans h.2.1 (by simp), fun g hg => Nat.le_trans k.size (h.2.2 g hg)⟩
theorem NewB.kp {bs : List UInt8} {w0 w w' : World} {v : Value} (h : NewB bs w0 v w) (k : Kp [] w w') : NewB bs w0 v w' := ⟨ow_kp h.1 k (by simp), h.2.1.trans k (by simp), h.2.2⟩
theorem NewB.form {bs : List UInt8} {w0 w : World} {v : Value} (h : NewB bs w0 v w) : ∃ A c, v = .slice A bs.length c := by obtain ⟨A, c, rfl, _⟩ := ow_form h.1; exact ⟨A, c, rfl⟩
/-- 'append(v, y...)' onto a new row. -/
theorem app_newB {ops : Array Oper} {rest : List Oper} {o : Oper} {a : Act} {w : World} {Q : Exit → Act → World → Prop} (hgd : o.guard = none) (s x : Operand)
    (ho : o.op = .call { callee := .builtin .append, args := #[s, x], argTypes := #[25, 25] })
    (v : Value) (xs : List UInt8) (hs : a.eval s = v) {w0 : World} (hown : NewB xs w0 v w)
    (y : Value) (ys : List UInt8) (hx : a.eval x = y) (hr : Rd w 1 y ys.length (bv ys)) (hb : xs.length + ys.length ≤ 140737488355328)
    (h : ∀ v' w', NewB (xs ++ ys) w0 v' w' → wpList Try.prog ops Q rest (a.put o.dst v') w') : wpList Try.prog ops Q (o :: rest) a w :=
  app_bytes hgd s x ho v xs hs hown.1 y ys hx hr w0 hown.2.1 hown.2.2 hb (fun v' w' h1 h2 _ h4 _ => h v' w' ⟨h1, h2, h4⟩)
def PutPost15 (k : IntKind) (f : Int) (L : List (List UInt8)) (w : World) (e : Ending) (w' : World) : Prop :=
  ∃ u, e = .returned (.tuple #[u, .int k (chk f L : Int)]) ∧ NewB (outB f L) w u w'
theorem outB_no {f : Int} {L : List (List UInt8)} (h : chk f L ≠ 0) : outB f L = [] := if_neg h
theorem outB_ok {f : Int} {L : List (List UInt8)} (h : chk f L = 0) : outB f L = formB f L := if_pos h
theorem chk_take_le {f : Int} {L : List (List UInt8)} (h : chk f L = 0) (k : Nat) : (items (L.take k)).length ≤ 4196352 := by
  obtain ⟨h1, h2, h3, h4, h5, h6⟩ := chk_zero h
  have h7 := items_length_le (L.take k) (fun e he => h6 e (List.mem_of_mem_take he))
  have h8 : (L.take k).length ≤ L.length := by rw [List.length_take]; omega
  omega
end
/- A fellow of w_list (XWireC): an empty list may share the writer's block. -/
section
open Go.RowKit
set_option maxRecDepth 100000 in
set_option maxHeartbeats 400000 in
theorem w_listE (p : Nat) (v : Value) (bs : List UInt8) (x : Value) (ns : List UInt8) (k : Nat) (w : World) (hw : Wr w p v bs) (hx : Rd w 1 x ns.length (bv ns)) (hk : 1 ≤ k ∧ k ≤ 4) (hlt : ns.length < 256 ^ k) (hn : bs.length + 4 + ns.length ≤ 140737488355328) (hnb : ∀ g, x.ownBlock = some g → ns ≠ [] → v.ownBlock ≠ some g) :
    Calls Try.prog 40 #[.pointer (some ⟨p, 0, none⟩), .int .i64 k, x] w fun e w' => e = .returned (.int .i64 0) ∧ ∃ v', Wr w' p v' (bs ++ be k ns.length ++ ns) ∧ WSt p v v' w w' := by
  obtain ⟨i0, hi, hz0, hz1, hz2⟩ := info_parts Try.infoU8
  have hc := hw.1.cell 0
  simp at hc
  have Hx := Lib.hid hx
  obtain ⟨A, c, rfl⟩ : ∃ A c, x = .slice A ns.length c := by obtain ⟨_, A, c, h, _⟩ := hx; exact ⟨A, c, h⟩
  clear hx
  have h2 : ns.length < 18446744073709551616 := by omega
  have H2 := Lib.hid h2
  clear h2
  have hS : bs.length + k ≤ 140737488355328 := by omega
  rcases (show k = 1 ∨ k = 2 ∨ k = 3 ∨ k = 4 from by omega) with rfl | rfl | rfl | rfl
  all_goals
    simp only [Nat.reducePow] at hlt
    clear hk
    go_enter Try.func40, Try.ntmps40
    go_wp2_with fail
    refine (form_any v bs.length bs _ (by omega) ns.length H2.out _ hw.2 hS).mono ?_
    rintro e w1 ⟨v1, rfl, h1, h2, h3⟩
    obtain ⟨A1, c1, rfl, _, _⟩ := ow_form h1
    obtain ⟨d1, d2, d3⟩ := wr_kept hw h2
    have hx1 : Rd w1 1 (.slice A ns.length c) ns.length (bv ns) := Hx.out.kpl h2 (fun g hg hne hm => hnb g hg (fun h => hne (by rw [h]; rfl)) (by simpa using hm))
    have Hx1 := Lib.hid hx1; clear hx1
    go_wp2_with (at_builtin; go_loud (refine wpList_app _ rfl (.tmp 34) (.tmp 35) _ rfl 5 i0 _ 1 1 Try.underlying25 hi hz0 hz1 hz2 rfl (by decide) _ _ _ rfl h1 (.slice A ns.length c) ns.length (bv ns) rfl Hx1.out (bv_one _) (by unfold maxLen; omega) (by omega) ?_))
    intro v' w2 hown1 hg1 hat1
    obtain ⟨A2, c2, rfl, _, _⟩ := ow_form hown1
    have hb1 : Blk w1 p 98 #[v] := hw.1.kp h2 (fun hm => hw.ne (by simpa using hm))
    have hb2 := hb1.kp (Kp.of_grown hg1) (fun hm => (ow_blk_ne h1 hb1 (by decide)) (by simpa using hm))
    have d4 := hb2.cell 0
    have d5 := hb2.frozen 0
    have d6 := hb2.lt
    simp at d4
    go_wp2
    go_ret
    refine ⟨rfl, _, wr_step2 hw h1 h2 h3 (by rw [bv_append]; exact hown1) hg1 hat1⟩
end
/- Walks of package wire: a reader is made, its end; the law's 'known'. -/
section
open Go.RowKit

set_option maxHeartbeats 400000 in
theorem new_reader (x : Value) (bs : List UInt8) (w : World) (hx : Rd w 1 x bs.length (bv bs)) (hn : bs.length ≤ 140737488355328) :
    Calls Try.prog 45 #[x] w fun e w' => ∃ p v, e = .returned (.pointer (some ⟨p, 0, none⟩)) ∧ w.heap.size ≤ p ∧ Rr w' p v 0 bs ∧ (∀ g, v.ownBlock = some g → w.heap.size ≤ g) ∧ Kp [] w w' := by
  go_enter Try.func45, Try.ntmps45
  go_wp2_with (go_at_call 64; refine (clone_any x bs bs.length w hx hn).mono ?_; rintro e w1 ⟨v1, rfl, h1, h2, h3⟩; obtain ⟨A1, c1, rfl, _, _⟩ := ow_form h1)
  go_ret
  have hb : Blk (w1.alloc (.cells #[.slice A1 bs.length c1, .int .i64 0] 103)) w1.heap.size 103 #[.slice A1 bs.length c1, .int .i64 ((0 : Nat) : Int)] := Blk.new _ _ _
  have ho := h1.alloc (.cells #[.slice A1 bs.length c1, .int .i64 0] 103)
  refine ⟨_, _, rfl, h2.size, ⟨hb, Rd.of_own ho, Nat.zero_le _, hn, ow_blk_ne ho hb (by decide), fun g hg => ow_lt ho hg⟩, h3, h2.alloc _⟩

set_option maxHeartbeats 400000 in
theorem r_end (p : Nat) (v : Value) (a : Nat) (bs : List UInt8) (w : World) (h : Rr w p v a bs) :
    Calls Try.prog 50 #[.pointer (some ⟨p, 0, none⟩)] w fun e w' => e = .returned (.int .i64 (if a < bs.length then 111 else 0)) ∧ ∃ n, w' = w.drewN n := by
  by_cases hlt : a < bs.length
  · rw [if_pos hlt]
    go_enter Try.func50, Try.ntmps50
    go_wp2_with (go_at_call 68; refine (r_left p _ a bs w h).mono ?_; rintro e w' ⟨rfl, nq, rfl⟩)
    go_ret
    exact ⟨rfl, nq, rfl⟩
  · rw [if_neg hlt]
    go_enter Try.func50, Try.ntmps50
    go_wp2_with (go_at_call 68; refine (r_left p _ a bs w h).mono ?_; rintro e w' ⟨rfl, nq, rfl⟩)
    go_ret
    exact ⟨rfl, nq, rfl⟩

end
/- WireOrders: the walk. -/
section
open Go.RowKit

def wrR (p : Nat) (v : Value) (bs : List UInt8) : Res where
  fp := p :: v.ownBlock.toList
  ok := fun w => Wr w p v bs
  keep := fun _ _ _ h hk hn => ⟨h.1.kp hk (hn p (by simp)), ow_kp h.2 hk (fun g hg => hn g (by simp [hg]))⟩
  lt := fun _ h b hb => by
    rcases List.mem_cons.1 hb with rfl | hb
    · exact h.1.lt
    · exact ow_lt h.2 (by simpa using hb)
def rrR (p : Nat) (v : Value) (a : Nat) (bs : List UInt8) : Res where
  fp := p :: v.ownBlock.toList
  ok := fun w => Rr w p v a bs
  keep := fun _ _ _ h hk hn => h.kp hk (hn p (by simp)) (fun g hg => hn g (by simp [hg]))
  lt := fun _ h b hb => by
    rcases List.mem_cons.1 hb with rfl | hb
    · exact h.blk.lt
    · exact h.vlt b (by simpa using hb)
theorem Held.wturn {w0 w w' : World} {l1 l2 : List Res} {p : Nat} {v v' : Value} {bs bs' : List UInt8} (h : Held w0 w (l1 ++ wrR p v bs :: l2)) (hw : Wr w' p v' bs') (hs : WSt p v v' w w') : Held w0 w' (l1 ++ wrR p v' bs' :: l2) :=
  h.turnAt (wrR p v' bs') hs.1 hw (fun b hb => by
    rcases List.mem_cons.1 hb with rfl | hb
    · exact .inl (by simp [wrR])
    · rcases hs.2 with e | ⟨g, e, hg⟩
      · rw [e] at hb; exact .inl (List.mem_cons_of_mem _ hb)
      · rw [e] at hb; simp at hb; subst hb; exact .inr hg)
theorem Held.rturn {w0 w w' : World} {l1 l2 : List Res} {p a a' : Nat} {v : Value} {bs : List UInt8} (h : Held w0 w (l1 ++ rrR p v a bs :: l2)) (hw : Rr w' p v a' bs) (hk : Kp [p] w w') : Held w0 w' (l1 ++ rrR p v a' bs :: l2) :=
  h.turnAt (rrR p v a' bs) (hk.more (fun g hg => .inl (by simp at hg; subst hg; simp [rrR]))) hw (fun _ hb => .inl hb)
theorem Held.wnew {w0 w w' : World} {L : List Res} (h : Held w0 w L) (hw : Wr w' w.heap.size (.slice none 0 0) []) (hk : Kp [] w w') : Held w0 w' (wrR w.heap.size (.slice none 0 0) [] :: L) :=
  h.new _ hk hw (fun b hb => by simp [wrR, Value.ownBlock] at hb; omega)

end
/- Put and One of entry. -/
section
open Go.RowKit
set_option maxRecDepth 100000 in
set_option maxHeartbeats 2000000 in
theorem put15_any (f : Int) (hf : -9223372036854775808 ≤ f ∧ f ≤ 9223372036854775807) (v : Value) (L : List (List UInt8)) (w : World) (hv : Txs w v L) :
    Calls Try.prog 12 #[.agg #[.int .i64 f, v]] w (PutPost15 .i64 f L w) := by
  have hbL := hv.len_le
  obtain ⟨A, c, rfl, hA, -⟩ := hv.open_
  have Hv := Lib.hid (hv.kp0 ((Kp.refl [] w).alloc (.cells #[.int .i64 f, .slice A L.length c] 24)))
  have HA := Lib.hid hA
  have B0 := Lib.hid (Blk.new w 24 #[.int .i64 f, .slice A L.length c])
  have K0 := Lib.hid ((Kp.refl [] w).alloc (.cells #[.int .i64 f, .slice A L.length c] 24))
  obtain ⟨d0, d1, -, -, -⟩ := Blk.c2 B0.out
  clear hA hv
  go_enter Try.func12, Try.ntmps12
  go_wp2_with fail
  refine (check_any f hf _ L _ Hv.out).mono ?_
  rintro e w1 ⟨rfl, k1⟩
  generalize hW : w.alloc (.cells #[.int .i64 f, .slice A L.length c] 24) = W0 at *
  generalize w.heap.size = g at *
  clear hW
  have K1 := Lib.hid k1
  have B1 := Lib.hid (B0.out.kp k1 (by simp))
  clear d0 d1 k1
  obtain ⟨d0, d1, -, -, -⟩ := Blk.c2 B1.out
  by_cases hc : chk f L = 0
  · have HC := Lib.hid hc
    have hc' : ((chk f L : Nat) : Int) = 0 := by omega
    have HI := Lib.hid (fun k => chk_take_le hc k)
    obtain ⟨h8, H8⟩ : ∃ h8, Hid (h8 = be 8 (tou64 f)) := ⟨_, Lib.hid rfl⟩
    obtain ⟨P, HP⟩ : ∃ P, Hid (P = h8 ++ be 2 L.length) := ⟨_, Lib.hid rfl⟩
    have hl8 : h8.length ≤ 8 := by rw [H8.out]; simp
    have hlP : P.length ≤ 10 := by rw [HP.out, List.length_append, be_length]; omega
    have hl1 : L.length ≤ 1024 := (chk_zero hc).2.2.2.2.1
    have H6 := Lib.hid (chk_zero hc).2.2.2.2.2
    have S1 := Lib.hid ((Held.start W0).kp K1.out)
    rw [hc']
    clear hc hc'
    go_wp2_with fail
    refine (new_writer _).mono ?_
    rintro e w2 ⟨rfl, hw, k2⟩
    have S2 := Lib.hid (S1.out.wnew hw k2)
    generalize w1.heap.size = p at *
    obtain ⟨d0, d1, -, -, -⟩ := Blk.c2 (B0.out.kp S2.out.k (by simp))
    clear hw k2
    go_wp2_with fail
    refine (w_signed p _ [] f w2 (S2.out.at_ (l1 := [])) (by simp)).mono ?_
    rintro e w3 ⟨rfl, v3, hw3, hs3⟩
    have S3 := Lib.hid (S2.out.wturn (l1 := []) hw3 hs3)
    obtain ⟨d0, d1, -, -, -⟩ := Blk.c2 (B0.out.kp S3.out.k (by simp))
    simp only [List.nil_append, ← H8.out] at S3
    clear hw3 hs3
    go_wp2_with fail
    refine (put_u16 p v3 _ L.length (by omega) w3 (S3.out.at_ (l1 := [])) (by omega)).mono ?_
    rintro e w4 ⟨rfl, v4, hw4, hs4⟩
    have S4 := Lib.hid (S3.out.wturn (l1 := []) hw4 hs4)
    obtain ⟨d0, d1, -, -, -⟩ := Blk.c2 (B0.out.kp S4.out.k (by simp))
    simp only [List.nil_append, ← HP.out] at S4
    clear hw4 hs4
    go_wp2
    go_loopw [27] (fun i wr => ∃ (k : Nat) (u : Value), k ≤ L.length ∧ i = .int .i64 k ∧ Held W0 wr [wrR p u (P ++ items (L.take k))]) (fun i _ => L.length - (intOf i).toNat)
    case atStart => exact ⟨0, v4, by omega, rfl, by simpa [items] using S4.out⟩
    case round =>
      clear S4 S3 S2 S1 d0 d1 B1 K1
      obtain ⟨k, u, hk, rfl, S⟩ := hrel
      have HS := Lib.hid S
      have hik := HI.out k
      obtain ⟨d0, d1, -, -, -⟩ := Blk.c2 (B0.out.kp S.k (by simp))
      by_cases hlt : k < L.length
      · obtain ⟨ad, rfl⟩ := HA.out (by omega)
        obtain ⟨Ae, ce, hce, hre⟩ := (Hv.out.kp0 S.k).at_ hlt
        obtain ⟨Ae0, ce0, hce0, hre0⟩ := Hv.out.at_ hlt
        have hee : (Value.slice Ae L[k].length ce) = .slice Ae0 L[k].length ce0 := by
          have := cell_kept hce0 S.k
          rw [hce] at this
          exact Option.some.inj this
        have he : L[k]? = some L[k] := List.getElem?_eq_getElem hlt
        have hnb : ∀ b, (Value.slice Ae L[k].length ce).ownBlock = some b → L[k] ≠ [] → u.ownBlock ≠ some b := fun b hb hne hu => by
          rw [hee] at hb
          have h1 := rd_lt hre0 hb (fun h => hne (bv_inj h))
          have h2 := S.base (wrR p u (P ++ items (L.take k))) (by simp) b (by simp [wrR, hu])
          omega
        have HNb := Lib.hid hnb
        have HS2 : Hid (P ++ items (L.take k) ++ be 2 L[k].length ++ L[k] = P ++ items (L.take (k + 1))) := Lib.hid (by rw [items_take_succ he]; simp [item])
        have h4 := H6.out L[k] (List.getElem_mem hlt)
        have Hre := Lib.hid hre
        have hol : (P ++ items (L.take k)).length ≤ 4196362 := by rw [List.length_append]; omega
        clear he hre hee hce0 hre0 hnb S
        generalize L[k] = x at *
        generalize P ++ items (L.take k) = o at *
        go_wp2_with fail
        refine (w_listE p u o _ x 2 _ (HS.out.at_ (l1 := [])) Hre.out ⟨by decide, by decide⟩ (by omega) (by omega) HNb.out).mono ?_
        rintro e w6 ⟨rfl, u6, hw6, hs6⟩
        have S6 := Lib.hid (HS.out.wturn (l1 := []) hw6 hs6)
        simp only [List.nil_append, HS2.out] at S6
        clear hw6 hs6
        go_wp2
        go_round
        case rel => exact ⟨k + 1, u6, by omega, by go_num, S6.out⟩
        case measure => simp [intOf]; omega
      · obtain rfl : k = L.length := by omega
        have HF : Hid (P ++ items (L.take L.length) = outB f L) := Lib.hid (by rw [List.take_length, HP.out, H8.out, outB_ok HC.out]; rfl)
        rw [HF.out] at HS
        have hol : (outB f L).length ≤ 4196362 := by rw [← HF.out, List.length_append]; omega
        have Hz := Lib.hid HC.out
        clear S HF
        obtain ⟨o, HO⟩ : ∃ o, Hid (outB f L = o) := ⟨_, Lib.hid rfl⟩
        rw [HO.out] at HS hol
        go_wp2_with fail
        refine (w_bytes p u o _ (HS.out.at_ (l1 := [])) (by omega)).mono ?_
        rintro e w7 ⟨v7, rfl, o7, k7, f7⟩
        have N7 : NewB o w v7 w7 := NewB.base (K0.out.trans HS.out.k (by simp)) ⟨o7, k7, f7⟩
        have N7 := Lib.hid N7
        clear o7 k7 f7
        go_wp2
        go_ret2
        exact ⟨_, by rw [Hz.out]; rfl, by rw [HO.out]; exact N7.out⟩
  · have HC := Lib.hid (outB_no hc)
    have hc' : ¬ ((chk f L : Nat) : Int) = 0 := by omega
    go_wp2
    go_ret2
    exact ⟨_, rfl, by rw [HC.out]; exact NewB.nil _ _ (K0.out.trans K1.out (by simp))⟩
end
/- A region that draws its order, operation by operation: what each leaves in its slot is told by a property that new memory does not disturb; each operation is walked once, from the properties of those that it waits for; whatever order is picked, all properties hold at the end. For regions that only read, make memory, and call what turns nothing old. -/
section

section
variable {P : Program} {ops : Array Oper} {Q : Exit → Act → World → Prop}

/-- The frame with the values put, from number k on. -/
def putAll (vs : Nat → Value) : List Oper → Nat → Act → Act
  | [], _, a => a
  | o :: l, k, a => putAll vs l (k + 1) (a.put o.dst (vs k))
def upd (vs : Nat → Value) (i : Nat) (v : Value) : Nat → Value := fun k => if k = i then v else vs k
/-- No two write one slot. -/
def apartB : List Oper → Bool
  | [] => true
  | o :: l => (match o.dst with | none => true | some d => l.all fun x => x.dst != some d) && apartB l
theorem putAll_late (vs : Nat → Value) (i : Nat) (v : Value) : ∀ (l : List Oper) (k : Nat) (a : Act), i < k → putAll (upd vs i v) l k a = putAll vs l k a
  | [], _, _, _ => rfl
  | o :: l, k, a, h => by
    show putAll (upd vs i v) l (k + 1) (a.put o.dst (upd vs i v k)) = putAll vs l (k + 1) (a.put o.dst (vs k))
    rw [putAll_late vs i v l (k + 1) _ (by omega)]
    congr 2
    simp [upd, show k ≠ i by omega]
theorem putAll_put (vs : Nat → Value) (x : Option Tmp) (v : Value) : ∀ (l : List Oper) (k : Nat) (a : Act), (∀ d, x = some d → ∀ o ∈ l, o.dst ≠ some d) → (putAll vs l k a).put x v = putAll vs l k (a.put x v)
  | [], _, _, _ => rfl
  | o :: l, k, a, h => by
    show (putAll vs l (k + 1) (a.put o.dst (vs k))).put x v = putAll vs l (k + 1) ((a.put x v).put o.dst (vs k))
    rw [putAll_put vs x v l (k + 1) _ (fun d hd o ho => h d hd o (List.mem_cons_of_mem _ ho)), Act.put_comm a (x := o.dst) (y := x) (vs k) v]
    intro d hd hx
    exact h d hx o (by simp) hd
theorem put_put (a : Act) (x : Option Tmp) (v u : Value) : (a.put x v).put x u = a.put x u := by
  cases x with
  | none => rfl
  | some d => simp [Act.put]
theorem putAll_upd (vs : Nat → Value) (i : Nat) (v : Value) : ∀ (l : List Oper) (k : Nat) (a : Act) (o : Oper), apartB l = true → k ≤ i → l[i - k]? = some o → (putAll vs l k a).put o.dst v = putAll (upd vs i v) l k a
  | [], _, _, _, _, _, h => by simp at h
  | x :: l, k, a, o, hB, hk, h => by
    simp only [apartB, Bool.and_eq_true] at hB
    by_cases e : k = i
    · subst e
      rw [Nat.sub_self] at h
      obtain rfl : x = o := by simpa using h
      show (putAll vs l (k + 1) (a.put x.dst (vs k))).put x.dst v = putAll (upd vs k v) l (k + 1) (a.put x.dst (upd vs k v k))
      rw [putAll_late vs k v l (k + 1) _ (by omega), putAll_put vs x.dst v l (k + 1) _ ?_, put_put]
      · simp [upd]
      · intro d hd o ho hod
        have h1 := hB.1
        rw [hd] at h1
        have := (List.all_eq_true.1 h1) o ho
        rw [hod] at this
        simp at this
    · have e2 : i - k = (i - (k + 1)) + 1 := by omega
      rw [e2, List.getElem?_cons_succ] at h
      show (putAll vs l (k + 1) (a.put x.dst (vs k))).put o.dst v = putAll (upd vs i v) l (k + 1) (a.put x.dst (upd vs i v k))
      rw [putAll_upd vs i v l (k + 1) _ o hB.2 (by omega) h]
      congr 2
      simp [upd, e]
def slotOf (a : Act) : Option Tmp → Value
  | none => undef
  | some d => a.tmps.getD d undef
def at0 (a : Act) (l : List Oper) : Nat → Value := fun k => match l[k]? with | none => undef | some o => slotOf a o.dst
theorem put_slot (a : Act) (x : Option Tmp) : a.put x (slotOf a x) = a := by
  cases x with
  | none => rfl
  | some d =>
    have : a.tmps.setIfInBounds d (a.tmps.getD d undef) = a.tmps := by
      apply Array.ext_getElem?
      intro i
      rw [Array.getElem?_setIfInBounds]
      split
      · rename_i h; subst h
        by_cases hl : d < a.tmps.size
        · simp [hl]
        · simp [hl]
      · rfl
    simp only [Act.put, slotOf]
    first | rw [this] | (simp only [this])
theorem putAll_at (a : Act) : ∀ (l : List Oper) (k : Nat) (vs : Nat → Value), (∀ j o, l[j]? = some o → vs (k + j) = slotOf a o.dst) → putAll vs l k a = a
  | [], _, _, _ => rfl
  | o :: l, k, vs, h => by
    have h0 := h 0 o rfl
    show putAll vs l (k + 1) (a.put o.dst (vs k)) = a
    rw [Nat.add_zero] at h0
    rw [h0, put_slot]
    exact putAll_at a l (k + 1) vs (fun j x hx => by rw [show k + 1 + j = k + (j + 1) from by omega]; exact h (j + 1) x (by simpa using hx))

/-- Each waits for earlier ones alone, and has no guard. -/
def earlierB : List Oper → Nat → Bool
  | [], _ => true
  | o :: l, k => (o.after.all fun e => !Region.binds .any e || decide (e.on < k)) && o.guard.isNone && earlierB l (k + 1)
theorem earlierB_spec : ∀ (l : List Oper) (k i : Nat) (o : Oper), earlierB l k = true → l[i]? = some o → (∀ e ∈ o.after, Region.binds .any e = true → e.on < k + i) ∧ o.guard = none
  | [], _, _, _, _, h => by simp at h
  | x :: l, k, i, o, hB, h => by
    simp only [earlierB, Bool.and_eq_true] at hB
    rcases i with _ | i
    · obtain rfl : x = o := by simpa using h
      refine ⟨fun e he hb => ?_, by simpa using hB.1.2⟩
      have := (Array.all_eq_true_iff_forall_mem.1 hB.1.1) e he
      simpa [hb] using this
    · have := earlierB_spec l (k + 1) i o hB.2 (by simpa using h)
      exact ⟨fun e he hb => by have := this.1 e he hb; omega, this.2⟩

/-- What is to be shown of each operation. -/
def InvStep (P : Program) (Q : Exit → Act → World → Prop) (PV : Nat → Value → World → Prop) (W0 : World) (fr : (Nat → Value) → Act) (o : Oper) (i : Nat) : Prop :=
  ∀ (vs : Nat → Value) (A : Act) (W : World), fr vs = A → Kp [] W0 W → (∀ j, waitsB .any o j = true → PV j (vs j) W) →
    ∀ K : Act → World → Prop, (∀ v W', Kp [] W W' → PV i v W' → K (A.put o.dst v) W') → o.wp P A W K (Qn Q)
def InvSteps (P : Program) (Q : Exit → Act → World → Prop) (PV : Nat → Value → World → Prop) (W0 : World) (fr : (Nat → Value) → Act) : List Oper → Nat → Prop
  | [], _ => True
  | o :: l, i => InvStep P Q PV W0 fr o i ∧ InvSteps P Q PV W0 fr l (i + 1)
theorem InvSteps.at_ {PV : Nat → Value → World → Prop} {W0 : World} {fr : (Nat → Value) → Act} : ∀ {l : List Oper} {k : Nat}, InvSteps P Q PV W0 fr l k → ∀ {i o}, l[i]? = some o → InvStep P Q PV W0 fr o (k + i)
  | [], _, _, _, _, h => by simp at h
  | x :: l, k, hs, i, o, h => by
    rcases i with _ | i
    · obtain rfl : x = o := by simpa using h
      exact hs.1
    · have := hs.2.at_ (i := i) (o := o) (by simpa using h)
      rwa [show k + 1 + i = k + (i + 1) from by omega] at this

theorem inv_any {PV : Nat → Value → World → Prop} {W0 : World} {a0 : Act} {l : List Oper} (hst : ∀ i v W W', PV i v W → Kp [] W W' → PV i v W') (hap : apartB l = true) (hea : earlierB l 0 = true)
    (hs : InvSteps P Q PV W0 (fun vs => putAll vs l 0 a0) l 0)
    (hend : ∀ vs W, Kp [] W0 W → (∀ i, i < l.length → PV i (vs i) W) → Q .normal (putAll vs l 0 a0) W) :
    ∀ (fuel : Nat) (listed : Array Bool) (vs : Nat → Value) (W : World), listed.size = l.length → (listed.toList.filter (fun b => !b)).length = fuel → Kp [] W0 W → (∀ i, listed.getD i false = true → PV i (vs i) W) →
      wpAny P .any l.toArray Q fuel listed (putAll vs l 0 a0) W := by
  have all_of : ∀ (listed : Array Bool), listed.size = l.length → Region.ready .any l.toArray listed = [] → ∀ i, i < l.length → listed.getD i false = true := by
    intro listed hsz hr i
    induction i using Nat.strongRecOn with
    | _ i ih =>
      intro hi
      cases hl : listed.getD i false with
      | true => rfl
      | false =>
        exfalso
        have hlt : i < listed.size := by omega
        have hmem : i ∈ Region.ready .any l.toArray listed := mem_ready.2 ⟨by simp [hlt] at hl ⊢; exact hl, l[i], by simp [hi], fun e he hb => by
          have := (earlierB_spec l 0 i l[i] hea (by simp [hi])).1 e he hb
          exact ih e.on (by omega) (by omega)⟩
        rw [hr] at hmem; cases hmem
  have hnil : ∀ (listed : Array Bool) vs W, listed.size = l.length → Kp [] W0 W → (∀ i, listed.getD i false = true → PV i (vs i) W) → Region.ready .any l.toArray listed = [] → Q .normal (putAll vs l 0 a0) W :=
    fun listed vs W hsz hk hp hr => hend vs W hk (fun i hi => hp i (all_of listed hsz hr i hi))
  intro fuel
  induction fuel with
  | zero =>
    intro listed vs W hsz hf hk hp
    have hr : Region.ready .any l.toArray listed = [] := by
      refine List.eq_nil_iff_forall_not_mem.2 fun i hi => ?_
      have h0 := (mem_ready.1 hi).1
      obtain ⟨_, o, ho, _⟩ := mem_ready.1 hi
      have hlt : i < listed.size := by
        have := (Array.getElem?_eq_some_iff.1 ho).1
        simp at this; omega
      have : listed[i] ∈ listed.toList.filter (fun b => !b) := by
        rw [List.mem_filter]
        simp [hlt] at h0
        refine ⟨by simp, by simp [h0]⟩
      rw [List.eq_nil_of_length_eq_zero hf] at this
      cases this
    exact ⟨hr, hnil listed vs W hsz hk hp hr⟩
  | succ fuel ih =>
    intro listed vs W hsz hf hk hp
    refine ⟨hnil listed vs W hsz hk hp, fun i hi => ?_⟩
    obtain ⟨h0, o, ho, hall⟩ := mem_ready.1 hi
    have hol : l[i]? = some o := by simpa using ho
    have hlt : i < listed.size := by
      have := (List.getElem?_eq_some_iff.1 hol).1
      omega
    have hgd := (earlierB_spec l 0 i o hea hol).2
    refine wpOp_n ?_
    unfold wpOp
    simp only [ho]
    rw [if_pos (by simp [Region.wanted, hgd])]
    refine .inl ?_
    have hstep := hs.at_ hol
    rw [Nat.zero_add] at hstep
    refine hstep vs _ W rfl hk (fun j hj => by obtain ⟨e, he, hb, rfl⟩ := waitsB_spec hj; exact hp e.on (hall e he hb)) _ fun v W' hk' hv => ?_
    rw [putAll_upd vs i v l 0 a0 o hap (Nat.zero_le _) (by simpa using hol)]
    refine ih _ _ W' (by simpa using hsz) ?_ (hk.trans hk' (by simp)) (fun j hj => ?_)
    · simp [hlt] at h0
      have h1 : listed.toList = listed.toList.take i ++ false :: listed.toList.drop (i + 1) := by
        rw [← h0]
        have := List.take_append_drop i listed.toList
        rw [List.drop_eq_getElem_cons (by simpa using hlt)] at this
        simpa using this.symm
      have h2 : (listed.setIfInBounds i true).toList = listed.toList.take i ++ true :: listed.toList.drop (i + 1) := by
        rw [Array.toList_setIfInBounds]
        conv => lhs; rw [h1]
        rw [List.set_append_right _ _ (by simp; omega)]
        simp [Nat.min_eq_left (Nat.le_of_lt hlt)]
      rw [h1] at hf
      rw [h2]
      simp only [List.filter_append, List.filter_cons, List.length_append] at hf ⊢
      simp at hf ⊢
      omega
    · by_cases e : i = j
      · subst e; simpa [upd] using hv
      · rw [getD_set_ne false e] at hj
        simp only [upd, show j ≠ i from fun h => e h.symm, if_false]
        exact hst j _ W W' (hp j hj) hk'

/-- The region's rule. -/
theorem wp_region_inv {id : Nat} {a : Act} {w : World} {l : List Oper} (PV : Nat → Value → World → Prop) (hm : P.follows .mixedOrders = true) (hap : apartB l = true) (hea : earlierB l 0 = true)
    (hst : ∀ i v W W', PV i v W → Kp [] W W' → PV i v W')
    (hs : InvSteps P Q PV w.drew (fun vs => putAll vs l 0 a) l 0)
    (hend : ∀ vs W, Kp [] w.drew W → (∀ i, i < l.length → PV i (vs i) W) → Q .normal (putAll vs l 0 a) W) : (Code.region id l.toArray true).wp P Q a w := by
  refine wp_region_any hm ?_
  have h := inv_any (P := P) (Q := Q) hst hap hea hs hend l.length (Array.replicate l.length false) (at0 a l) w.drew (by simp) (by simp) (Kp.refl _ _) (fun i hi => by
    simp [Array.getElem?_replicate] at hi
    split at hi <;> simp at hi)
  rw [putAll_at a l 0 (at0 a l) (fun j o ho => by simp [at0, ho])] at h
  simpa using h
/-- What a slot holds behind all. -/
def evA (vs : Nat → Value) : List Oper → Nat → Nat → Option Value
  | [], _, _ => none
  | o :: l, k, d => if o.dst = some d then some (vs k) else evA vs l (k + 1) d
theorem put_size (a : Act) (x : Option Tmp) (v : Value) : (a.put x v).tmps.size = a.tmps.size := by cases x <;> simp [Act.put]
theorem putAll_eval (vs : Nat → Value) : ∀ (l : List Oper) (k : Nat) (a : Act) (d : Nat), d < a.tmps.size → apartB l = true → (putAll vs l k a).eval (.tmp d) = (evA vs l k d).getD (a.eval (.tmp d))
  | [], _, _, _, _, _ => rfl
  | o :: l, k, a, d, hd, hB => by
    show (putAll vs l (k + 1) (a.put o.dst (vs k))).eval (.tmp d) = _
    simp only [apartB, Bool.and_eq_true] at hB
    rw [putAll_eval vs l (k + 1) _ d (by rw [put_size]; exact hd) hB.2]
    rw [show evA vs (o :: l) k d = (if o.dst = some d then some (vs k) else evA vs l (k + 1) d) from rfl]
    by_cases e : o.dst = some d
    · rw [if_pos e]
      have hn : evA vs l (k + 1) d = none := by
        have h1 := hB.1
        rw [e] at h1
        have : ∀ (l : List Oper) (k : Nat), (∀ x ∈ l, x.dst ≠ some d) → evA vs l k d = none := by
          intro l
          induction l with
          | nil => intro _ _; rfl
          | cons x l ih =>
            intro k h
            unfold evA
            rw [if_neg (h x (by simp))]
            exact ih (k + 1) (fun y hy => h y (by simp [hy]))
        refine this l (k + 1) fun x hx hxd => ?_
        have := (List.all_eq_true.1 h1) x hx
        rw [hxd] at this
        simp at this
      rw [hn, e]
      simp [Act.put, Act.eval, hd]
    · rw [if_neg e]
      congr 1
      cases ho : o.dst with
      | none => rfl
      | some d' =>
        have hne : d' ≠ d := fun h => e (by rw [ho, h])
        simp [Act.put, Act.eval, Array.getElem?_setIfInBounds_ne hne]
theorem eval_of {vs : Nat → Value} {l : List Oper} {a A : Act} {d : Nat} {X : Value} (hA : (fun vs => putAll vs l 0 a) vs = A) (hB : apartB l = true) (hd : d < a.tmps.size) (h : (evA vs l 0 d).getD (a.eval (.tmp d)) = X) : A.eval (.tmp d) = X := by
  subst hA
  show (putAll vs l 0 a).eval _ = X
  rw [putAll_eval vs l 0 a d hd hB, h]
/-- A slot, as the walk's steps spell it. -/
theorem slot_is {vs : Nat → Value} {l : List Oper} {a A : Act} {d : Nat} {X : Value} (hA : (fun vs => putAll vs l 0 a) vs = A) (hB : apartB l = true) (hd : d < a.tmps.size) (h : (evA vs l 0 d).getD (a.eval (.tmp d)) = X) : A.tmps[d]?.getD undef = X := by
  have := eval_of hA hB hd h
  simpa [Act.eval] using this
end
end
/- A region that draws its order, operation by operation, where operations make things and turn things of the call's own (append onto a row that was made before, a store into a block): each thing has one number (of the operation that made it, or, from the operations' count on, of what was held ahead of the region); an operation TAKES what it turns and READS what it looks at. Each operation is walked once, whatever order is picked. -/
section

section
variable {P : Program} {Q : Exit → Act → World → Prop} {Γ : Type}
def upg (gs : Nat → Γ) (i : Nat) (γ : Γ) : Nat → Γ := fun k => if k = i then γ else gs k

/-- All that is asked of the numbers: what an operation takes or reads is there when it comes up, and nobody else takes it ahead of it. -/
def sepB (l : List Oper) (m : Nat) (tk rd : Nat → List Nat) : Bool :=
  (List.range l.length).all fun i => match l[i]? with
    | none => false
    | some o => (tk i ++ rd i).all (fun s => decide (s < m) && (decide (s < i) || decide (l.length ≤ s)) && (decide (l.length ≤ s) || waitsF .any l.toArray o s)) && decide (tk i).Nodup && (tk i).all (fun s => !(rd i).contains s) &&
      (List.range l.length).all fun k => decide (k = i) || match l[k]? with
        | none => false
        | some ok => (tk k).all fun s => !(tk i).contains s && (!(rd i).contains s || waitsF .any l.toArray ok i)
structure SepOk (l : List Oper) (m : Nat) (tk rd : Nat → List Nat) : Prop where
  lt : ∀ i o s, l[i]? = some o → s ∈ tk i ∨ s ∈ rd i → s < m
  early : ∀ i o s, l[i]? = some o → s ∈ tk i ∨ s ∈ rd i → s < i ∨ l.length ≤ s
  wait : ∀ i o s, l[i]? = some o → s ∈ tk i ∨ s ∈ rd i → s < l.length → waitsF .any l.toArray o s = true
  nodup : ∀ i o, l[i]? = some o → (tk i).Nodup
  own : ∀ i o s, l[i]? = some o → s ∈ tk i → s ∉ rd i
  one : ∀ i k o ok s, l[i]? = some o → l[k]? = some ok → i ≠ k → s ∈ tk k → s ∉ tk i
  late : ∀ i k o ok s, l[i]? = some o → l[k]? = some ok → i ≠ k → s ∈ tk k → s ∈ rd i → waitsF .any l.toArray ok i = true
theorem sepB_spec {l : List Oper} {m : Nat} {tk rd : Nat → List Nat} (h : sepB l m tk rd = true) : SepOk l m tk rd := by
  have h1 : ∀ i o, l[i]? = some o → _ := fun i o ho => by
    have hi : i < l.length := (List.getElem?_eq_some_iff.1 ho).1
    have := (List.all_eq_true.1 h) i (List.mem_range.2 hi)
    rw [ho] at this
    simp only [Bool.and_eq_true] at this
    exact this
  refine ⟨fun i o s ho hs => ?_, fun i o s ho hs => ?_, fun i o s ho hs hl => ?_, fun i o ho => ?_, fun i o s ho hs hr => ?_, fun i k o ok s ho hk hne hs ht => ?_, fun i k o ok s ho hk hne hs hr => ?_⟩
  · have := (List.all_eq_true.1 (h1 i o ho).1.1.1) s (List.mem_append.2 hs)
    simp only [Bool.and_eq_true, decide_eq_true_eq] at this
    exact this.1.1
  · have := (List.all_eq_true.1 (h1 i o ho).1.1.1) s (List.mem_append.2 hs)
    simp only [Bool.and_eq_true, Bool.or_eq_true, decide_eq_true_eq] at this
    exact this.1.2
  · have := (List.all_eq_true.1 (h1 i o ho).1.1.1) s (List.mem_append.2 hs)
    simp only [Bool.and_eq_true, Bool.or_eq_true, decide_eq_true_eq] at this
    rcases this.2 with h | h
    · omega
    · exact h
  · simpa using (h1 i o ho).1.1.2
  · have := (List.all_eq_true.1 (h1 i o ho).1.2) s hs
    simp at this
    exact this hr
  · have := (List.all_eq_true.1 (h1 i o ho).2) k (List.mem_range.2 (List.getElem?_eq_some_iff.1 hk).1)
    rw [hk] at this
    simp only [Bool.or_eq_true, decide_eq_true_eq] at this
    rcases this with e | this
    · exact hne e.symm
    · have := (List.all_eq_true.1 this) s hs
      simp only [Bool.and_eq_true] at this
      have := this.1
      simp at this
      exact this ht
  · have := (List.all_eq_true.1 (h1 i o ho).2) k (List.mem_range.2 (List.getElem?_eq_some_iff.1 hk).1)
    rw [hk] at this
    simp only [Bool.or_eq_true, decide_eq_true_eq] at this
    rcases this with e | this
    · exact absurd e.symm hne
    · have := (List.all_eq_true.1 this) s hs
      simp only [Bool.and_eq_true, Bool.or_eq_true] at this
      rcases this.2 with h | h
      · simp at h; exact absurd hr h
      · exact h

/-- Is thing s there, and not taken? -/
def liveB (n : Nat) (tk : Nat → List Nat) (listed : Array Bool) (s : Nat) : Bool :=
  (decide (n ≤ s) || listed.getD s false) && (List.range n).all fun k => !(listed.getD k false) || !(tk k).contains s
def liveL (n m : Nat) (tk : Nat → List Nat) (RS : Nat → (Nat → Value) → (Nat → Γ) → List Res) (listed : Array Bool) (vs : Nat → Value) (gs : Nat → Γ) : List Res :=
  (List.range m).flatMap fun s => if liveB n tk listed s then RS s vs gs else []
theorem liveB_true {n : Nat} {tk : Nat → List Nat} {listed : Array Bool} {s : Nat} : liveB n tk listed s = true ↔ (n ≤ s ∨ listed.getD s false = true) ∧ ∀ k, k < n → listed.getD k false = true → s ∉ tk k := by
  simp only [liveB, Bool.and_eq_true, Bool.or_eq_true, decide_eq_true_eq, List.all_eq_true, List.mem_range]
  constructor
  · rintro ⟨h1, h2⟩
    refine ⟨h1, fun k hk hl hm => ?_⟩
    have := h2 k hk
    rw [hl] at this
    simp at this
    exact this hm
  · rintro ⟨h1, h2⟩
    refine ⟨h1, fun k hk => ?_⟩
    cases hl : listed.getD k false with
    | false => simp
    | true => simpa using h2 k hk hl

theorem flatMap_congr' {α β : Type} : ∀ {l : List α} {f g : α → List β}, (∀ x ∈ l, f x = g x) → l.flatMap f = l.flatMap g
  | [], _, _, _ => rfl
  | x :: l, f, g, h => by
    rw [List.flatMap_cons, List.flatMap_cons, h x (by simp), flatMap_congr' (fun y hy => h y (by simp [hy]))]
theorem flatMap_part {α β : Type} (l : List α) (f g : α → List β) : (l.flatMap fun s => f s ++ g s).Perm (l.flatMap f ++ l.flatMap g) := by
  induction l with
  | nil => exact List.Perm.refl _
  | cons x l ih =>
    simp only [List.flatMap_cons, List.append_assoc]
    exact (List.Perm.append_left (f x) ((List.Perm.append_left (g x) ih).trans (List.perm_append_comm_assoc _ _ _)))
theorem flatMap_perm {α β : Type} {l l' : List α} (h : l.Perm l') (f : α → List β) : (l.flatMap f).Perm (l'.flatMap f) := by
  induction h with
  | nil => exact List.Perm.refl _
  | cons x _ ih => simp only [List.flatMap_cons]; exact ih.append_left _
  | swap x y l => simp only [List.flatMap_cons]; exact List.perm_append_comm_assoc _ _ _
  | trans _ _ ih1 ih2 => exact ih1.trans ih2
theorem flatMap_filter_if {α β : Type} (l : List α) (p : α → Bool) (f : α → List β) : (l.flatMap fun s => if p s then f s else []) = (l.filter p).flatMap f := by
  induction l with
  | nil => rfl
  | cons x l ih =>
    by_cases h : p x = true
    · simp only [List.flatMap_cons, List.filter_cons, h, if_true, ih]
    · simp only [List.flatMap_cons, List.filter_cons, h, ih]; simp
theorem filter_perm_of {l T : List Nat} (hl : l.Nodup) (hT : T.Nodup) (hs : ∀ x ∈ T, x ∈ l) : (l.filter fun x => T.contains x).Perm T :=
  (List.perm_ext_iff_of_nodup (hl.filter _) hT).2 fun x => by
    rw [List.mem_filter]
    constructor
    · rintro ⟨_, h⟩; simpa using h
    · intro h; exact ⟨hs x h, by simpa using h⟩
/-- The things of T, apart from the rest. -/
theorem part_off {β : Type} {m : Nat} {T : List Nat} (hT : T.Nodup) (hs : ∀ x ∈ T, x < m) (p : Nat → Bool) (hp : ∀ x ∈ T, p x = true) (f : Nat → List β) :
    ((List.range m).flatMap fun s => if p s then f s else []).Perm (T.flatMap f ++ (List.range m).flatMap fun s => if p s && !T.contains s then f s else []) := by
  have h1 : ((List.range m).flatMap fun s => if p s then f s else []) = (List.range m).flatMap fun s => (if T.contains s then f s else []) ++ (if p s && !T.contains s then f s else []) := by
    congr 1
    funext s
    by_cases hc : T.contains s = true
    · have := hp s (by simpa using hc)
      simp only [this, hc, if_true, Bool.not_true, Bool.and_false, Bool.false_eq_true, if_false, List.append_nil]
    · have hc' : T.contains s = false := by simpa using hc
      simp only [hc', Bool.false_eq_true, if_false, Bool.not_false, Bool.and_true, List.nil_append]
  rw [h1]
  refine (flatMap_part _ _ _).trans (List.Perm.append_right _ ?_)
  rw [flatMap_filter_if]
  exact flatMap_perm (filter_perm_of List.nodup_range hT (fun x hx => List.mem_range.2 (hs x hx))) f

/-- What is said of s rests on the values of numbers that s waits for, and on its own. -/
def depB (l : List Oper) (m : Nat) (dp : Nat → List Nat) : Bool :=
  (List.range m).all fun s => match l[s]? with
    | none => (dp s).isEmpty
    | some o => (dp s).all fun j => decide (j = s) || (decide (j < l.length) && waitsF .any l.toArray o j)
theorem depB_spec {l : List Oper} {m : Nat} {dp : Nat → List Nat} (h : depB l m dp = true) {s : Nat} (hs : s < m) : (l.length ≤ s → dp s = []) ∧ ∀ o, l[s]? = some o → ∀ j, j ∈ dp s → j = s ∨ waitsF .any l.toArray o j = true := by
  have := (List.all_eq_true.1 h) s (List.mem_range.2 hs)
  constructor
  · intro hl
    rw [List.getElem?_eq_none hl] at this
    simpa using this
  · intro o ho j hj
    rw [ho] at this
    have := (List.all_eq_true.1 this) j hj
    simp only [Bool.or_eq_true, Bool.and_eq_true, decide_eq_true_eq] at this
    exact this.imp id (·.2)
/-- What is to be shown of each operation. -/
def SepStep (P : Program) (Q : Exit → Act → World → Prop) (PV : Nat → (Nat → Value) → (Nat → Γ) → Prop) (RS : Nat → (Nat → Value) → (Nat → Γ) → List Res) (tk rd : Nat → List Nat) (w0 : World) (a0 : Act) (fr : (Nat → Value) → Act) (ops : Array Oper) (o : Oper) (i : Nat) : Prop :=
  ∀ (vs : Nat → Value) (gs : Nat → Γ) (A : Act) (W : World) (L : List Res), fr vs = A → Held w0 W ((tk i).flatMap (fun s => RS s vs gs) ++ L) → (∀ s, s ∈ rd i → ∀ r, r ∈ RS s vs gs → r ∈ L) → (∀ j, waitsF .any ops o j = true → PV j vs gs) → (∀ j oj, ops[j]? = some oj → waitsF .any ops oj i = true → vs j = slotOf a0 oj.dst) →
    ∀ K : Act → World → Prop, (∀ γ v W', Held w0 W' (RS i (upd vs i v) (upg gs i γ) ++ L) → PV i (upd vs i v) (upg gs i γ) → K (A.put o.dst v) W') → o.wp P A W K (Qn Q)
def SepSteps (P : Program) (Q : Exit → Act → World → Prop) (PV : Nat → (Nat → Value) → (Nat → Γ) → Prop) (RS : Nat → (Nat → Value) → (Nat → Γ) → List Res) (tk rd : Nat → List Nat) (w0 : World) (a0 : Act) (fr : (Nat → Value) → Act) (ops : Array Oper) : List Oper → Nat → Prop
  | [], _ => True
  | o :: l, i => SepStep P Q PV RS tk rd w0 a0 fr ops o i ∧ SepSteps P Q PV RS tk rd w0 a0 fr ops l (i + 1)
theorem SepSteps.at_ {PV : Nat → (Nat → Value) → (Nat → Γ) → Prop} {RS : Nat → (Nat → Value) → (Nat → Γ) → List Res} {tk rd : Nat → List Nat} {w0 : World} {a0 : Act} {fr : (Nat → Value) → Act} {ops : Array Oper} : ∀ {l : List Oper} {k : Nat}, SepSteps P Q PV RS tk rd w0 a0 fr ops l k → ∀ {i o}, l[i]? = some o → SepStep P Q PV RS tk rd w0 a0 fr ops o (k + i)
  | [], _, _, _, _, h => by simp at h
  | x :: l, k, hs, i, o, h => by
    rcases i with _ | i
    · obtain rfl : x = o := by simpa using h
      exact hs.1
    · have := hs.2.at_ (i := i) (o := o) (by simpa using h)
      rwa [show k + 1 + i = k + (i + 1) from by omega] at this

theorem sep_any {PV : Nat → (Nat → Value) → (Nat → Γ) → Prop} {RS : Nat → (Nat → Value) → (Nat → Γ) → List Res} {tk rd : Nat → List Nat} {m : Nat} {w0 : World} {a0 : Act} {l : List Oper} (hsep : SepOk l m tk rd) (hnm : l.length ≤ m) (dp : Nat → List Nat) (hdp : depB l m dp = true) (hd : ∀ s vs vs' gs gs', (∀ j, j ∈ dp s → vs j = vs' j ∧ gs j = gs' j) → RS s vs gs = RS s vs' gs' ∧ (PV s vs gs → PV s vs' gs')) (hap : apartB l = true) (hea : earlierB l 0 = true)
    (hs : SepSteps P Q PV RS tk rd w0 a0 (fun vs => putAll vs l 0 a0) l.toArray l 0)
    (hend : ∀ vs gs W listed, (∀ i, i < l.length → listed.getD i false = true) → Held w0 W (liveL l.length m tk RS listed vs gs) → (∀ i, i < l.length → PV i vs gs) → Q .normal (putAll vs l 0 a0) W) :
    ∀ (fuel : Nat) (listed : Array Bool) (vs : Nat → Value) (gs : Nat → Γ) (W : World), listed.size = l.length → (listed.toList.filter (fun b => !b)).length = fuel → Closed .any l.toArray listed → Held w0 W (liveL l.length m tk RS listed vs gs) → (∀ i, listed.getD i false = true → PV i vs gs) → (∀ j oj, l[j]? = some oj → listed.getD j false = false → vs j = slotOf a0 oj.dst) →
      wpAny P .any l.toArray Q fuel listed (putAll vs l 0 a0) W := by
  have all_of : ∀ (listed : Array Bool), listed.size = l.length → Region.ready .any l.toArray listed = [] → ∀ i, i < l.length → listed.getD i false = true := by
    intro listed hsz hr i
    induction i using Nat.strongRecOn with
    | _ i ih =>
      intro hi
      cases hl : listed.getD i false with
      | true => rfl
      | false =>
        exfalso
        have hlt : i < listed.size := by omega
        have hmem : i ∈ Region.ready .any l.toArray listed := mem_ready.2 ⟨by simp [hlt] at hl ⊢; exact hl, l[i], by simp [hi], fun e he hb => by
          have := (earlierB_spec l 0 i l[i] hea (by simp [hi])).1 e he hb
          exact ih e.on (by omega) (by omega)⟩
        rw [hr] at hmem; cases hmem
  have hnil : ∀ (listed : Array Bool) vs gs W, listed.size = l.length → Held w0 W (liveL l.length m tk RS listed vs gs) → (∀ i, listed.getD i false = true → PV i vs gs) → Region.ready .any l.toArray listed = [] → Q .normal (putAll vs l 0 a0) W :=
    fun listed vs gs W hsz hS hp hr => hend vs gs W listed (all_of listed hsz hr) hS (fun i hi => hp i (all_of listed hsz hr i hi))
  intro fuel
  induction fuel with
  | zero =>
    intro listed vs gs W hsz hf hcl hS hp _
    have hr : Region.ready .any l.toArray listed = [] := by
      refine List.eq_nil_iff_forall_not_mem.2 fun i hi => ?_
      have h0 := (mem_ready.1 hi).1
      obtain ⟨_, o, ho, _⟩ := mem_ready.1 hi
      have hlt : i < listed.size := by
        have := (Array.getElem?_eq_some_iff.1 ho).1
        simp at this; omega
      have : listed[i] ∈ listed.toList.filter (fun b => !b) := by
        rw [List.mem_filter]
        simp [hlt] at h0
        refine ⟨by simp, by simp [h0]⟩
      rw [List.eq_nil_of_length_eq_zero hf] at this
      cases this
    exact ⟨hr, hnil listed vs gs W hsz hS hp hr⟩
  | succ fuel ih =>
    intro listed vs gs W hsz hf hcl hS hp hv0
    refine ⟨hnil listed vs gs W hsz hS hp, fun i hi => ?_⟩
    obtain ⟨h0, o, ho, hall⟩ := mem_ready.1 hi
    have hol : l[i]? = some o := by simpa using ho
    have hil : i < l.length := (List.getElem?_eq_some_iff.1 hol).1
    have hlt : i < listed.size := by omega
    have hli : listed.getD i false = false := by simp [hlt] at h0 ⊢; exact h0
    have hgd := (earlierB_spec l 0 i o hea hol).2
    -- what it takes and reads is there
    have hlive : ∀ s, s ∈ tk i ∨ s ∈ rd i → liveB l.length tk listed s = true := fun s hs => by
      refine liveB_true.2 ⟨?_, fun k hk hkl hm => ?_⟩
      · by_cases hsl : s < l.length
        · exact .inr (waitsF_spec (hsep.wait i o s hol hs hsl) listed hcl hall)
        · exact .inl (by omega)
      · have hkl' : l[k]? = some l[k] := List.getElem?_eq_getElem hk
        have hne : i ≠ k := by rintro rfl; rw [hli] at hkl; cases hkl
        rcases hs with hs | hs
        · exact hsep.one i k o _ s hol hkl' hne hm hs
        · have hw := hsep.late i k o _ s hol hkl' hne hm hs
          have := waitsF_spec hw listed hcl (hcl k l[k] (by simp [hk]) hkl)
          rw [hli] at this
          cases this
    have hnot : liveB l.length tk listed i = false := by
      apply Bool.eq_false_iff.2
      intro h
      rcases (liveB_true.1 h).1 with h | h
      · omega
      · rw [hli] at h; cases h
    have hnew : ∀ s, liveB l.length tk (listed.setIfInBounds i true) s = (decide (s = i) || (liveB l.length tk listed s && !(tk i).contains s)) := fun s => by
      apply Bool.eq_iff_iff.2
      rw [Bool.or_eq_true, decide_eq_true_eq, Bool.and_eq_true, liveB_true, liveB_true]
      have hni : ∀ k, k < l.length → (listed.setIfInBounds i true).getD k false = true → i ∉ tk k := fun k hk hkl hm => by
        by_cases hki : k = i
        · subst hki
          have := hsep.early k o k hol (.inl hm)
          omega
        · rw [getD_set_ne false (fun h => hki h.symm)] at hkl
          have hkl' : l[k]? = some l[k] := List.getElem?_eq_getElem hk
          have hw := hsep.wait k l[k] i hkl' (.inl hm) hil
          have := waitsF_spec hw listed hcl (hcl k l[k] (by simp [hk]) hkl)
          rw [hli] at this
          cases this
      constructor
      · rintro ⟨h1, h2⟩
        by_cases hsi : s = i
        · exact .inl hsi
        · right
          rw [getD_set_ne false (fun h => hsi h.symm)] at h1
          refine ⟨⟨h1, fun k hk hkl => h2 k hk (getD_set_true hkl)⟩, ?_⟩
          have := h2 i hil (by simp [hlt])
          simpa using this
      · rintro (rfl | ⟨⟨h1, h2⟩, h3⟩)
        · exact ⟨.inr (by simp [hlt]), hni⟩
        · refine ⟨h1.imp id getD_set_true, fun k hk hkl hm => ?_⟩
          by_cases hki : k = i
          · subst hki
            simp at h3
            exact h3 hm
          · rw [getD_set_ne false (fun h => hki h.symm)] at hkl
            exact h2 k hk hkl hm
    obtain ⟨L, hL⟩ : ∃ L, L = (List.range m).flatMap fun s => if liveB l.length tk listed s && !(tk i).contains s then RS s vs gs else [] := ⟨_, rfl⟩
    have hperm : (liveL l.length m tk RS listed vs gs).Perm ((tk i).flatMap (fun s => RS s vs gs) ++ L) := by
      rw [hL]
      exact part_off (hsep.nodup i o hol) (fun x hx => hsep.lt i o x hol (.inl hx)) _ (fun x hx => hlive x (.inl hx)) _
    have hread : ∀ s, s ∈ rd i → ∀ r, r ∈ RS s vs gs → r ∈ L := fun s hs r hr => by
      rw [hL]
      refine List.mem_flatMap.2 ⟨s, List.mem_range.2 (hsep.lt i o s hol (.inr hs)), ?_⟩
      have h1 := hlive s (.inr hs)
      have h2 : (tk i).contains s = false := by
        have : s ∉ tk i := fun h => hsep.own i o s hol h hs
        simpa using this
      simp only [h1, h2, Bool.not_false, Bool.and_true, if_true]
      exact hr
    have hsame : ∀ v γ s, s < m → s ≠ i → (l.length ≤ s ∨ listed.getD s false = true) → RS s vs gs = RS s (upd vs i v) (upg gs i γ) ∧ (PV s vs gs → PV s (upd vs i v) (upg gs i γ)) := fun v γ s hsm hsi hs => by
      refine hd s vs _ gs _ (fun j hj => ?_)
      obtain ⟨d1, d2⟩ := depB_spec hdp hsm
      by_cases hsl : s < l.length
      · have hls : listed.getD s false = true := by
          rcases hs with h | h
          · omega
          · exact h
        have hji : j ≠ i := by
          rintro rfl
          rcases d2 l[s] (List.getElem?_eq_getElem hsl) _ hj with h | h
          · exact hsi h.symm
          · have := waitsF_spec h listed hcl (hcl s l[s] (by simp [hsl]) hls)
            rw [hli] at this
            cases this
        simp [upd, upg, hji]
      · rw [d1 (by omega)] at hj
        cases hj
    have hafter : ∀ v γ, (liveL l.length m tk RS (listed.setIfInBounds i true) (upd vs i v) (upg gs i γ)).Perm (RS i (upd vs i v) (upg gs i γ) ++ L) := fun v γ => by
      unfold liveL
      have h1 := part_off (T := [i]) (by simp) (m := m) (fun x hx => by simp at hx; omega) (fun s => liveB l.length tk (listed.setIfInBounds i true) s) (fun x hx => by
        simp at hx; subst hx; rw [hnew]; simp) (fun s => RS s (upd vs i v) (upg gs i γ))
      refine h1.trans ?_
      have h2 : ([i].flatMap fun s => RS s (upd vs i v) (upg gs i γ)) = RS i (upd vs i v) (upg gs i γ) := by simp
      rw [h2, hL]
      refine List.Perm.append_left _ (List.Perm.of_eq ?_)
      apply flatMap_congr'
      intro s hsm
      have hsm := List.mem_range.1 hsm
      by_cases hsi : s = i
      · subst hsi
        simp [hnot]
      · rw [hnew]
        have h3 : [i].contains s = false := by simpa using hsi
        simp only [h3, hsi, decide_false, Bool.false_or, Bool.not_false, Bool.and_true]
        by_cases hlv : (liveB l.length tk listed s && !(tk i).contains s) = true
        · rw [if_pos hlv, if_pos hlv]
          rw [Bool.and_eq_true] at hlv
          exact (hsame v γ s hsm hsi (liveB_true.1 hlv.1).1).1.symm
        · rw [if_neg hlv, if_neg hlv]
    refine wpOp_n ?_
    unfold wpOp
    simp only [ho]
    rw [if_pos (by simp [Region.wanted, hgd])]
    refine .inl ?_
    have hstep := hs.at_ hol
    rw [Nat.zero_add] at hstep
    refine hstep vs gs _ W L rfl (hS.perm hperm) hread (fun j hj => hp j (waitsF_spec hj listed hcl hall)) (fun j oj hj hw => hv0 j oj (by simpa using hj) (by
      cases hjl : listed.getD j false with
      | false => rfl
      | true =>
        have := waitsF_spec hw listed hcl (hcl j oj hj hjl)
        rw [hli] at this
        cases this)) _ fun γ v W' hS' hv => ?_
    rw [putAll_upd vs i v l 0 a0 o hap (Nat.zero_le _) (by simpa using hol)]
    refine ih _ _ (upg gs i γ) W' (by simpa using hsz) ?_ (hcl.add hi) (hS'.perm (hafter v γ).symm) (fun j hj => ?_) (fun j oj hj hjl => ?_)
    · simp [hlt] at h0
      have h1 : listed.toList = listed.toList.take i ++ false :: listed.toList.drop (i + 1) := by
        rw [← h0]
        have := List.take_append_drop i listed.toList
        rw [List.drop_eq_getElem_cons (by simpa using hlt)] at this
        simpa using this.symm
      have h2 : (listed.setIfInBounds i true).toList = listed.toList.take i ++ true :: listed.toList.drop (i + 1) := by
        rw [Array.toList_setIfInBounds]
        conv => lhs; rw [h1]
        rw [List.set_append_right _ _ (by simp; omega)]
        simp [Nat.min_eq_left (Nat.le_of_lt hlt)]
      rw [h1] at hf
      rw [h2]
      simp only [List.filter_append, List.filter_cons, List.length_append] at hf ⊢
      simp at hf ⊢
      omega
    · by_cases e : i = j
      · subst e; exact hv
      · rw [getD_set_ne false e] at hj
        have hjm : j < m := by
          by_cases hjl : j < l.length
          · omega
          · simp [show ¬ j < listed.size by omega] at hj
        exact (hsame v γ j hjm (fun h => e h.symm) (.inr hj)).2 (hp j hj)
    · by_cases e : i = j
      · subst e
        simp [hlt] at hjl
      · rw [getD_set_ne false e] at hjl
        rw [← hv0 j oj hj hjl]
        simp [upd, show j ≠ i from fun h => e h.symm]

/-- Not taken by anyone. -/
def endB (n : Nat) (tk : Nat → List Nat) (s : Nat) : Bool := (List.range n).all fun k => !(tk k).contains s
/-- The region's rule. RS: the things by their numbers (from l.length on: those held ahead of it, I); fin: the numbers that nobody takes. -/
theorem wp_region_sep [Inhabited Γ] {id : Nat} {a : Act} {w0 w : World} {l : List Oper} (m : Nat) (fin : List Nat) (PV : Nat → (Nat → Value) → (Nat → Γ) → Prop) (RS : Nat → (Nat → Value) → (Nat → Γ) → List Res) (tk rd : Nat → List Nat) {L0 : List Res} (hS : Held w0 w L0) (hm : P.follows .mixedOrders = true)
    (hap : apartB l = true) (hea : earlierB l 0 = true) (hsep : sepB l (l.length + m) tk rd = true) (dp : Nat → List Nat) (hdp : depB l (l.length + m) dp = true) (hd : ∀ s vs vs' gs gs', (∀ j, j ∈ dp s → vs j = vs' j ∧ gs j = gs' j) → RS s vs gs = RS s vs' gs' ∧ (PV s vs gs → PV s vs' gs')) (hfin : (List.range (l.length + m)).filter (endB l.length tk) = fin)
    (hL0 : ((List.range m).flatMap fun j => RS (l.length + j) (fun _ => undef) (fun _ => default)).Perm L0)
    (hs : SepSteps P Q PV RS tk rd w0 a (fun vs => putAll vs l 0 a) l.toArray l 0)
    (hend : ∀ vs gs W, Held w0 W (fin.flatMap fun s => RS s vs gs) → (∀ i, i < l.length → PV i vs gs) → Q .normal (putAll vs l 0 a) W) : (Code.region id l.toArray true).wp P Q a w := by
  refine wp_region_any hm ?_
  have h0 : ∀ i, (Array.replicate l.length false).getD i false = false := fun i => by
    simp [Array.getElem?_replicate]
    split <;> rfl
  have h := sep_any (P := P) (Q := Q) (m := l.length + m) (sepB_spec hsep) (by omega) dp hdp hd hap hea hs (fun vs gs W listed hall hS hp => hend vs gs W (by
      have : liveL l.length (l.length + m) tk RS listed vs gs = fin.flatMap fun s => RS s vs gs := by
        unfold liveL
        rw [flatMap_filter_if, ← hfin]
        congr 1
        apply List.filter_congr
        intro s hs
        have hs := List.mem_range.1 hs
        apply Bool.eq_iff_iff.2
        rw [liveB_true]
        simp only [endB, List.all_eq_true, List.mem_range]
        constructor
        · rintro ⟨_, h⟩ k hk
          simpa using h k hk (hall k hk)
        · intro h
          refine ⟨?_, fun k hk _ => by simpa using h k hk⟩
          by_cases hsl : s < l.length
          · exact .inr (hall s hsl)
          · exact .inl (by omega)
      rw [this] at hS
      exact hS) hp) l.length (Array.replicate l.length false) (at0 a l) (fun _ => default) w.drew (by simp) (by simp) (fun j oj _ hl => by rw [h0] at hl; cases hl) (by
      refine (hS.kp ((Kp.refl [] w).drew)).perm ?_
      refine hL0.symm.trans (List.Perm.of_eq ?_)
      unfold liveL
      rw [List.range_add, List.flatMap_append]
      have h1 : ((List.range l.length).flatMap fun s => if liveB l.length tk (Array.replicate l.length false) s then RS s (at0 a l) (fun _ => default) else []) = [] := by
        rw [List.flatMap_eq_nil_iff]
        intro s hs
        have hs := List.mem_range.1 hs
        rw [if_neg]
        intro h
        rcases (liveB_true.1 h).1 with h | h
        · omega
        · rw [h0] at h; cases h
      rw [h1, List.nil_append, List.flatMap_map]
      apply flatMap_congr'
      intro j hj
      have hj := List.mem_range.1 hj
      rw [if_pos (liveB_true.2 ⟨.inl (by simp), fun k _ hk => by rw [h0] at hk; cases hk⟩)]
      refine (hd _ _ _ _ _ (fun x hx => ?_)).1
      rw [(depB_spec hdp (by omega)).1 (by omega)] at hx
      cases hx) (fun i hi => by rw [h0] at hi; cases hi) (fun j oj hj _ => by simp [at0, hj])
  rw [putAll_at a l 0 (at0 a l) (fun j o ho => by simp [at0, ho])] at h
  simpa using h
end
end
/- Operations of a region walked by XSep: appends. -/
section
open Go.RowKit
/-- An instruction that yields v. -/
theorem op_runs {P : Program} {o : Oper} {a : Act} {w w' : World} {K : Act → World → Prop} {Q : Exit → Act → World → Prop} {v : Value} (h : (execOp a.eval o).run P w = .ok (.value v) w') (hK : K (a.put o.dst v) w') : o.wp P a w K Q := by
  unfold Oper.wp
  rw [h]
  exact hK
/-- append onto a row of the list; what is appended reads. -/
theorem op_app {P : Program} {o : Oper} {a : Act} {w0 w : World} {K : Act → World → Prop} {Q : Exit → Act → World → Prop} {L : List Res} (s x : Operand) (t e : TypeId)
    (ho : o.op = .call { callee := .builtin .append, args := #[s, x], argTypes := #[t, t] })
    {size bytes : Nat} {z : Value} (hI : (P.info? e).map (fun i => (i.zero, i.size, i.bytes)) = some (some z, size, bytes)) (ht : P.underlying t = some (.slice e)) (hzs : z.cells.size = size) (hsz : 0 < size)
    (v : Value) (n : Nat) (xs : List Value) (hs : a.eval s = v) (S : Held w0 w (rowR e size v n xs :: L))
    (y : Value) (m : Nat) (news : List Value) (hx : a.eval x = y) (hr : Rd w size y m news) (h1 : ∀ u ∈ news, u.oneCell' = true)
    (h63 : n + m ≤ maxLen) (hbytes : (n + m) * bytes ≤ 140737488355328)
    (h : ∀ v' w', Held w0 w' (rowR e size v' (n + m) (xs ++ news) :: L) → K (a.put o.dst v') w') : o.wp P a w K Q := by
  obtain ⟨i0, hi, hz, hsize, hby⟩ := info_parts hI
  obtain ⟨v', w', hrun, h2, h3, h4⟩ := run_app (P := P) w t o.type e i0 z size bytes ht hi hz hsize hby hzs hsz v n xs (S.at_ (l1 := [])) y m news hr h1 h63 hbytes
  refine op_runs (v := v') (w' := w') ?_ (h v' w' (S.grow (l1 := []) h2 h3 h4))
  unfold execOp
  simp only [ho, resolve, invoke, builtin, Sem.run_bind, Sem.run_pure, Result.andThen_ok, List.map_toArray, List.map_cons, List.map_nil, hs, hx, hrun]
/-- append(nil, y...): a new thing. -/
theorem op_app_nil {P : Program} {o : Oper} {a : Act} {w0 w : World} {K : Act → World → Prop} {Q : Exit → Act → World → Prop} {L : List Res} (s x : Operand) (t e : TypeId)
    (ho : o.op = .call { callee := .builtin .append, args := #[s, x], argTypes := #[t, t] })
    {size bytes : Nat} {z : Value} (hI : (P.info? e).map (fun i => (i.zero, i.size, i.bytes)) = some (some z, size, bytes)) (ht : P.underlying t = some (.slice e)) (hzs : z.cells.size = size) (hsz : 0 < size)
    (hs : a.eval s = .slice none 0 0) (S : Held w0 w L)
    (y : Value) (m : Nat) (news : List Value) (hx : a.eval x = y) (hr : Rd w size y m news) (h1 : ∀ u ∈ news, u.oneCell' = true)
    (h63 : m ≤ maxLen) (hbytes : m * bytes ≤ 140737488355328)
    (h : ∀ v' w', Held w0 w' (rowR e size v' m news :: L) → K (a.put o.dst v') w') : o.wp P a w K Q :=
  op_app s x t e ho hI ht hzs hsz (.slice none 0 0) 0 [] hs (S.rownew (World.ownsRow_nil _ _ _ _) (Kp.refl [] w) (by simp [Value.ownBlock])) y m news hx hr h1 (by omega) (by simpa using hbytes) (fun v' w' S' => h v' w' (by simpa using S'))
/-- A row that is handed on shorter, or longer, by another slice of it. -/
def grow1 : Value → Value
  | .slice A n c => .slice A (n + 1) c
  | v => v
theorem rd_of_row {w0 w : World} {L : List Res} {e : TypeId} {s : Nat} {v : Value} {n : Nat} {xs : List Value} (S : Held w0 w L) (h : rowR e s v n xs ∈ L) : Rd w s v n xs := Rd.of_own (S.ok _ h)
end
/- Slices of bytes, cut: one run equation each, with what the cut reads. -/
section
open Go.RowKit

theorem run_size_u8 (w : World) : (sizeOf 5).run Try.prog w = .ok 1 w := by
  obtain ⟨i0, hi, hz0, hz1, hz2⟩ := info_parts Try.infoU8
  simp [sizeOf, typeInfo, hi, hz1]
theorem cut_at (w : World) (x : Value) (lo hi mx : Option Value) : (Instr.sliceAt 25 x lo hi mx).run Try.prog w = (Instr.slice 25 x lo hi mx).run Try.prog w := by
  simp [Instr.sliceAt, run_underlying Try.underlying25]
theorem elem_u8 : Try.prog.elem 25 = 5 := by kernel_rfl
theorem und_u8 : Try.prog.underlying 25 = some (.slice (Try.prog.elem 25)) := by rw [elem_u8]; exact Try.underlying25
end
/- Walking inside a round: a region's walk outside serves inside; one law for 'for .. range f', whose round is told what holds of what it is handed. -/
section
open Go.RowKit Go.Shelf

section bridge
variable {P : Program} {ops : Array Oper} {Q : Exit → Act → World → Prop} {n rl : Nat}
def plainB (l : List Oper) : Bool := l.all fun o => match o.op with | .defer _ => false | _ => true
theorem plainB_spec {l : List Oper} (h : plainB l = true) {o : Oper} (ho : o ∈ l) : ∀ c, o.op ≠ .defer c := by
  intro c hc
  have := List.all_eq_true.1 h o ho
  rw [hc] at this
  cases this
theorem oper_in {o : Oper} {a : Act} {w : World} {K : Act → World → Prop} (hd : ∀ c, o.op ≠ .defer c) (_hQ : ¬ LetsOut Q) (h : o.wp P a w K Q) : o.wpIn (Fence.wide.inRound rl) n P a w K Q := by
  refine ⟨fun _ _ => trivial, ?_⟩
  rw [Fence.inRound_round, Oper.semAt_some rl a.eval o hd]
  unfold Oper.wp at h
  generalize (execOp a.eval o).run P w = r at *
  have hn : (Fence.wide.inRound rl).depth.isSome = true → 1 ≤ n := fun h => by simp [Fence.wide] at h
  cases r with
  | ok nx w' =>
    cases nx with
    | value v => exact h
    | skip => exact h
    | defer d => exact h
    | enter f args => exact ⟨hn, CallsIn.inRound rl (callsIn_wide.2 h)⟩
    | row r args =>
      refine ⟨hn, fun c cs _ => ?_⟩
      obtain ⟨v, w2, h1, h2⟩ := h c cs
      exact ⟨v, w2, h1, stepsIn_wide.2 h2⟩
    | _ => exact h.elim
  | halt x w' => cases x <;> exact h
theorem not_lets (Q : Exit → Act → World → Prop) : ¬ LetsOut (Qn Q) := fun ⟨_, _, h⟩ => by cases h.1
theorem op_in {l : List Oper} (hp : plainB l = true) {i : Nat} {a : Act} {w : World} {K : Act → World → Prop} (h : wpOp P l.toArray (Qn Q) i K a w) : wpOpIn (Fence.wide.inRound rl) n P l.toArray Q i K a w := by
  unfold wpOp at h
  unfold wpOpIn
  split
  · rename_i ho
    simpa [ho] using h
  · rename_i o ho
    simp only [ho] at h
    have hm : o ∈ l := by
      have := Array.mem_of_getElem? ho
      simpa using this
    split
    · rename_i hw
      rw [if_pos hw] at h
      rcases h with h | ⟨_, h⟩
      · have h2 := oper_in (rl := rl) (n := n) (plainB_spec hp hm) (not_lets Q) h
        unfold Oper.wpIn at h2 ⊢
        refine ⟨h2.1, ?_⟩
        have h3 := h2.2
        generalize (o.semAt (Fence.wide.inRound rl).round a.eval).run P w = r at *
        cases r with
        | ok nx w' =>
          cases nx with
          | value v => exact h3
          | skip => exact h3
          | defer d => exact h3
          | enter f args =>
            refine ⟨h3.1, CallsIn.mono h3.2 (fun e w'' he => ?_)⟩
            cases e with
            | returned v => exact he
            | panicked ch => cases he.1
            | outgrown => exact (not_lets Q he).elim
          | row r args => exact h3
          | round r f t asg bd =>
            refine ⟨h3.1, RoundIn.mono h3.2 (fun e w'' he => ?_)⟩
            cases e with
            | returned v => exact he
            | panicked ch => cases he.1
            | outgrown => exact (not_lets Q he).elim
          | _ => exact h3.elim
        | halt x w' => cases x <;> first | exact h3.elim | cases h3.1
      · exact (not_lets Q h).elim
    · rename_i hw
      rw [if_neg hw] at h
      exact ⟨fun _ _ => trivial, h⟩
theorem any_in {l : List Oper} (hp : plainB l = true) : ∀ (fuel : Nat) (listed : Array Bool) (a : Act) (w : World), wpAny P .any l.toArray (Qn Q) fuel listed a w → wpAnyIn (Fence.wide.inRound rl) n P .any l.toArray Q fuel listed a w
  | 0, _, _, _, h => ⟨h.1, h.2.2⟩
  | fuel + 1, _, _, _, h => ⟨fun h0 => (h.1 h0).2, fun i hi => wpOpIn_mono (fun a' w' h' => any_in hp fuel _ a' w' h') (op_in hp (h.2 i hi))⟩
theorem list_in {l0 : List Oper} (hp : plainB l0 = true) : ∀ (l : List Oper) (a : Act) (w : World), (∀ o ∈ l, o ∈ l0) → wpList P l0.toArray (Qn Q) l a w → wpListIn (Fence.wide.inRound rl) n P l0.toArray Q l a w
  | [], _, _, _, h => h.2
  | o :: l, a, w, hm, h => by
    unfold wpList at h
    unfold wpListIn
    split
    · rename_i hw
      rw [if_pos hw] at h
      rcases h with h | ⟨_, h⟩
      · have hi : ∃ i : Nat, l0.toArray[i]? = some o := by
          obtain ⟨i, hi, he⟩ := List.getElem_of_mem (hm o (by simp))
          exact ⟨i, by simp [hi, he]⟩
        obtain ⟨i, hi⟩ := hi
        have h1 : wpOp P l0.toArray (Qn Q) i (wpList P l0.toArray (Qn Q) l) a w := by
          unfold wpOp
          simp only [hi]
          rw [if_pos hw]
          exact .inl h
        have h2 := op_in (rl := rl) (n := n) hp h1
        have h3 := wpOpIn_mono (fun a' w' h' => list_in hp l a' w' (fun x hx => hm x (List.mem_cons_of_mem _ hx)) h') h2
        unfold wpOpIn at h3
        simp only [hi] at h3
        rwa [if_pos hw] at h3
      · exact (not_lets Q h).elim
    · rename_i hw
      rw [if_neg hw] at h
      exact ⟨fun _ _ => trivial, list_in hp l _ _ (fun x hx => hm x (List.mem_cons_of_mem _ hx)) h⟩
/-- A region in a round, walked as outside. -/
theorem in_region {id : Nat} {l : List Oper} {a : Act} {w : World} (hp : plainB l = true) (h : wpList P l.toArray (Qn Q) l a w) : (Code.region id l.toArray false).wpIn (Fence.wide.inRound rl) n P Q a w :=
  wpIn_region_lit (list_in hp l a w (fun _ h => h) h)
end bridge
end
/- One law for 'for .. range f': the iterator tells, at each round, what holds of what it hands over; it makes memory alone between two rounds. -/
section
open Go.RowKit Go.Shelf

/-- What stays true when memory is made, and when an object that is no row of cells, from B on, is turned. -/
def Stays (B : Nat) (p : World → Prop) : Prop :=
  ∀ W W', p W → (Kp [] W W' ∨ ∃ (l : Nat) (o o' : Obj), B ≤ l ∧ W.heap[l]? = some o ∧ o.isCells = false ∧ W' = W.putObj l o') → p W'
theorem Stays.kp {B : Nat} {p : World → Prop} (h : Stays B p) {W W' : World} (hp : p W) (hk : Kp [] W W') : p W' := h W W' hp (.inl hk)
theorem Stays.put {B : Nat} {p : World → Prop} (h : Stays B p) {W : World} (hp : p W) {l : Nat} {o : Obj} (o' : Obj) (hB : B ≤ l) (hl : W.heap[l]? = some o) (ho : o.isCells = false) : p (W.putObj l o') :=
  h W _ hp (.inr ⟨l, o, o', hB, hl, ho, rfl⟩)
theorem Stays.and {B : Nat} {p q : World → Prop} (h : Stays B p) (h' : Stays B q) : Stays B (fun W => p W ∧ q W) := fun W W' hp hk => ⟨h W W' hp.1 hk, h' W W' hp.2 hk⟩
theorem Stays.pure (B : Nat) (q : Prop) : Stays B (fun _ => q) := fun _ _ h _ => h
theorem Stays.ex {B : Nat} {α : Sort _} {p : α → World → Prop} (h : ∀ x, Stays B (p x)) : Stays B (fun W => ∃ x, p x W) := fun W W' ⟨x, hx⟩ hk => ⟨x, h x W W' hx hk⟩

/-- A round, as the iterator may call it: it has made memory since W0, where the round before had ended (or the loop begun). -/
def RoundOk {α : Type} (P : Program) (n l : Nat) (encs : α → Array Value) (Z : α → World → Prop) (X : List α → α → World → World → Prop) (N : Nat) (J Jx : List α → World → Prop) : Prop :=
  ∀ pre x W0 W1, J pre W0 → Kp [] W0 W1 → X pre x W0 W1 → pre.length < N → YieldAt Fence.wide (n - 1) P l (encs x) W1 fun e W' =>
    (e = .returned (.bool true) ∧ J (pre ++ [x]) W' ∧ Z x W') ∨ (e = .returned (.bool false) ∧ Jx (pre ++ [x]) W')
/-- What is asked of an iterator (function g with what it has captured), called in w or later. -/
def SeqW {α : Type} (P : Program) (n g : Nat) (lb : Array Value) (encs : α → Array Value) (Z : α → World → Prop) (X : List α → α → World → World → Prop) (S Sp : List α → Prop) (N : Nat) (w : World) : Prop :=
  ∀ (l : Nat) (J Jx : List α → World → Prop) (W : World), Kp [] w W → (∀ s A B, J s A → Kp [] A B → J s B) → (∀ s A B, Jx s A → Kp [] A B → Jx s B) → RoundOk P n l encs Z X N J Jx → J [] W →
    CallsIn Fence.wide n P g (#[.func (.yield l) #[] #[]] ++ lb) W fun e W' => (∃ v, e = .returned v) ∧ ((∃ xs, S xs ∧ J xs W') ∨ (∃ pre, Sp pre ∧ Jx pre W'))

/-- How the body of a round may end: the loop's record l and the block D are as they were. -/
def Same2 (l D : Nat) (W W' : World) : Prop := W'.heap[l]? = W.heap[l]? ∧ W'.heap[D]? = W.heap[D]?
def roundEnd {α : Type} (l D : Nat) (Z : World → Prop) (I : List α → World → Prop) (Ix : Code → List α → World → Prop) (xs : List α) (W : World) : Exit → Act → World → Prop
  | .normal, _, W' => Same2 l D W W' ∧ Z W' ∧ I xs W'
  | .ret, _, W' => Same2 l D W W' ∧ Ix .ret xs W'
  | .exit id, _, W' => Same2 l D W W' ∧ Ix (.exit id) xs W'
  | .goto t, _, W' => Same2 l D W W' ∧ Ix (.goto t) xs W'
  | .panic _, _, _ => False
  | .outgrown, _, _ => False
def markOf (D : Nat) : Deferred := { target := .collected D, args := #[] }

variable {P : Program} {n : Nat}
set_option maxHeartbeats 1000000 in
theorem wp_range {α : Type} {g : Operand} {ps : Array Tmp} {assign body : Code} {Q : Exit → Act → World → Prop} {a : Act} {w : World} {gf : Nat} {lb : Array Value} (hg : a.eval g = .func (.func gf) #[] lb)
    (eg : ∀ args w, (callFunc gf args).run P w = .ok (.enter gf args) w) {encs : α → Array Value} {Z : α → World → Prop} {X : List α → α → World → World → Prop} {S Sp : List α → Prop} {N : Nat} (hseq : SeqW P (n - 1) gf lb encs Z X S Sp N w) (hZ : ∀ x, Stays w.heap.size (Z x))
    (hps : ∀ x, (encs x).size = ps.size)
    (I : List α → World → Prop) (Ix : Code → List α → World → Prop) (hI : ∀ pre, Stays w.heap.size (I pre)) (hIx : ∀ c pre, Stays w.heap.size (Ix c pre)) (h0 : I [] w)
    (I' : List α → α → World → Prop) (hI' : ∀ pre x, Stays w.heap.size (I' pre x)) (hprep : ∀ (pre : List α) (x : α) (W0 W1 : World), I pre W0 → Kp [] W0 W1 → X pre x W0 W1 → pre.length < N → I' pre x W1)
    (A : Array Value → List α → α → Act → World → Prop) (hA : ∀ pre x a', Stays w.heap.size (A a.tmps pre x a'))
    (hassign : ∀ (pre : List α) (x : α) (W : World), I' pre x W → ∀ K : Act → World → Prop, (∀ a' W', Kp [] W W' → A a.tmps pre x a' W' → K a' W') →
      assign.wpIn (Fence.wide.inRound (w.heap.size + 1)) (n - 1 - 1) P (Exit.then K (fun _ _ _ => False)) { tmps := (ps.zip (encs x)).foldl (fun t (p, v) => t.setIfInBounds p v) a.tmps, defers := [] } W)
    (hbody : ∀ (pre : List α) (x : α) (a' : Act) (W : World), I' pre x W → A a.tmps pre x a' W → pre.length < N → (∃ o, W.heap[w.heap.size + 1]? = some o ∧ o.isCells = false) → (∃ o, W.heap[w.heap.size]? = some o ∧ o.isCells = false) →
      body.wpIn (Fence.wide.inRound (w.heap.size + 1)) (n - 1 - 1) P (roundEnd (w.heap.size + 1) w.heap.size (Z x) I Ix (pre ++ [x]) W) a' W)
    (hdone : ∀ (xs : List α) (W : World), S xs → I xs W → W.heap[w.heap.size]? = some (.deferred (some [])) → Q .normal { a with defers := markOf w.heap.size :: a.defers } W)
    (hstop : ∀ (c : Code) (pre : List α) (W : World), Sp pre → Ix c pre W → W.heap[w.heap.size]? = some (.deferred (some [])) → c.wp P Q { a with defers := markOf w.heap.size :: a.defers } W) :
    (Code.rangeFunc g ps assign body).wp P Q a w := by
  refine (wpIn_wide (n := n)).1 (wpIn_rangeFunc ?_)
  intro fn hfn
  show ∃ (l : Nat) (mark : List Deferred) (w₁ : World) (d : Deferred) (w₁' : World) (f : FuncId) (args : Array Value) (w₂ : World), (Instr.enterLoop fn a.tmps ps assign body none).run P w = .ok (l, mark) w₁ ∧ _
  obtain ⟨rec, hrec⟩ : ∃ rec : LoopState → Option Code → Loop, rec = fun st pe => { state := st, pending := pe, fn, tmps := a.tmps, params := ps, assign, body, defers := w.heap.size } := ⟨_, rfl⟩
  obtain ⟨W1, hW1⟩ : ∃ W1, (w.alloc (.deferred (some []))).alloc (.loop (rec .ready none)) = W1 := ⟨_, rfl⟩
  have hk1 : Kp [] w W1 := by rw [← hW1]; exact ((Kp.refl [] w).alloc _).alloc _
  have hL1 : W1.heap[w.heap.size + 1]? = some (.loop (rec .ready none)) := by
    rw [← hW1]; have := World.alloc_heap_new (w.alloc (.deferred (some []))) (.loop (rec .ready none)); rwa [World.size_alloc] at this
  have hD1 : W1.heap[w.heap.size]? = some (.deferred (some [])) := by
    rw [← hW1]; exact (Below.heap_alloc _ _ _ (by simp)).trans (World.alloc_heap_new w _)
  have kept : ∀ {A B : World} {k : Nat} {o : Obj}, Kp [] A B → A.heap[k]? = some o → B.heap[k]? = some o := fun hk h => (hk.block _ (Array.getElem?_eq_some_iff.1 h).1 (by simp)).trans h
  refine ⟨w.heap.size + 1, [markOf w.heap.size], W1, { target := .fn (.func gf) lb, args := #[.func (.yield (w.heap.size + 1)) #[] #[]] }, W1, gf, #[.func (.yield (w.heap.size + 1)) #[] #[]] ++ lb, W1, ?_, ?_, fun _ _ => trivial, ?_, fun h => by simp [Fence.wide] at h, ?_⟩
  · rw [← hW1, hrec]; exact run_enterLoop_outer _ _ _ _ _
  · simp only [resolve, hg]
    simp [go_sem]
  · simp [invoke, go_sem, eg]
  · refine (hseq (w.heap.size + 1)
      (fun pre W => I pre W ∧ W.heap[w.heap.size + 1]? = some (.loop (rec .ready none)) ∧ W.heap[w.heap.size]? = some (.deferred (some [])))
      (fun pre W => ∃ c, Ix c pre W ∧ W.heap[w.heap.size + 1]? = some (.loop (rec .done (some c))) ∧ W.heap[w.heap.size]? = some (.deferred (some [])))
      W1 hk1 (fun s A B ⟨h1, h2, h3⟩ hk => ⟨(hI s).kp h1 hk, kept hk h2, kept hk h3⟩) (fun s A B ⟨c, h1, h2, h3⟩ hk => ⟨c, (hIx c s).kp h1 hk, kept hk h2, kept hk h3⟩) ?_ ⟨(hI []).kp h0 hk1, hL1, hD1⟩).mono ?_
    · rintro pre x W0 W ⟨hi0, hl0, hd0⟩ hk0 hx hlen
      have hi := hprep pre x W0 W hi0 hk0 hx hlen
      have hl := kept hk0 hl0
      have hd := kept hk0 hd0
      have hlt : w.heap.size + 1 < W.heap.size := (Array.getElem?_eq_some_iff.1 hl).1
      have hy := run_yield (P := P) (args := encs x) hl (by rw [hrec]; exact hps x)
      rw [hrec] at hy
      refine ⟨fn, _, assign, body, hy, roundIn_of_wpIn hfn (hassign pre x W hi _ fun a' Wa hka hAa => ?_)⟩
      have hla := kept hka hl
      have hda := kept hka hd
      refine ⟨Wa.putObj (w.heap.size + 1) (.loop { rec .ready none with state := .busy }), by have := run_beginRound (P := P) hla (by rw [hrec]); exact this, ?_⟩
      have hlta : w.heap.size + 1 < Wa.heap.size := (Array.getElem?_eq_some_iff.1 hla).1
      have hl2 : (Wa.putObj (w.heap.size + 1) (.loop { rec .ready none with state := .busy })).heap[w.heap.size + 1]? = some (.loop { rec .ready none with state := .busy }) := World.putObj_heap_same hlta
      have hd2 : (Wa.putObj (w.heap.size + 1) (.loop { rec .ready none with state := .busy })).heap[w.heap.size]? = some (.deferred (some [])) := (World.putObj_heap_other (by omega)).trans hda
      refine wpIn_mono (hbody pre x a' _ ((hI' pre x).put ((hI' pre x).kp hi hka) _ (by omega) hla rfl) ((hA pre x a').put hAa _ (by omega) hla rfl) hlen ⟨_, hl2, rfl⟩ ⟨_, hd2, rfl⟩) ?_
      have fin : ∀ (jump : Option Code) (W3 : World), Same2 (w.heap.size + 1) w.heap.size (Wa.putObj (w.heap.size + 1) (.loop { rec .ready none with state := .busy })) W3 →
          (Instr.endRound (w.heap.size + 1) jump).run P W3 = .ok (.bool jump.isNone) (W3.putObj (w.heap.size + 1) (.loop (rec (if jump.isNone then .ready else .done) jump))) ∧
          W3.heap[w.heap.size + 1]? = some (.loop { rec .ready none with state := .busy }) ∧
          (W3.putObj (w.heap.size + 1) (.loop (rec (if jump.isNone then .ready else .done) jump))).heap[w.heap.size + 1]? = some (.loop (rec (if jump.isNone then .ready else .done) jump)) ∧
          (W3.putObj (w.heap.size + 1) (.loop (rec (if jump.isNone then .ready else .done) jump))).heap[w.heap.size]? = some (.deferred (some [])) := fun jump W3 hs => by
        have hl3 := hs.1.trans hl2
        have hd3 := hs.2.trans hd2
        have := run_endRound (P := P) jump hl3
        rw [hrec] at this ⊢
        exact ⟨this, by rw [hrec] at hl3; exact hl3, World.putObj_heap_same (Array.getElem?_eq_some_iff.1 hl3).1, (World.putObj_heap_other (by omega)).trans hd3⟩
      rintro e a3 W3 hp
      cases e with
      | normal =>
        obtain ⟨hs, hk3, hi3⟩ := hp
        obtain ⟨hr, hl3, hl4, hd4⟩ := fin none W3 hs
        exact ⟨_, _, hr, .inl ⟨rfl, ⟨(hI _).put hi3 _ (by omega) hl3 rfl, hl4, hd4⟩, (hZ x).put hk3 _ (by omega) hl3 rfl⟩⟩
      | ret =>
        obtain ⟨hs, hi3⟩ := hp
        obtain ⟨hr, hl3, hl4, hd4⟩ := fin (some .ret) W3 hs
        exact ⟨_, _, hr, .inr ⟨rfl, .ret, (hIx _ _).put hi3 _ (by omega) hl3 rfl, hl4, hd4⟩⟩
      | exit id =>
        obtain ⟨hs, hi3⟩ := hp
        obtain ⟨hr, hl3, hl4, hd4⟩ := fin (some (.exit id)) W3 hs
        exact ⟨_, _, hr, .inr ⟨rfl, .exit id, (hIx _ _).put hi3 _ (by omega) hl3 rfl, hl4, hd4⟩⟩
      | goto t =>
        obtain ⟨hs, hi3⟩ := hp
        obtain ⟨hr, hl3, hl4, hd4⟩ := fin (some (.goto t)) W3 hs
        exact ⟨_, _, hr, .inr ⟨rfl, .goto t, (hIx _ _).put hi3 _ (by omega) hl3 rfl, hl4, hd4⟩⟩
      | panic ch => exact hp.elim
      | outgrown => exact hp.elim
    · rintro e W2 ⟨⟨v, rfl⟩, (⟨xs, hS, hi, hl, hd⟩ | ⟨pre, hSp, c, hi, hl, hd⟩)⟩
      · exact ⟨none, _, by have := run_endLoop (P := P) hl (by rw [hrec]; simp); rw [hrec] at this; exact this, hdone _ _ hS ((hI _).put hi _ (by omega) hl rfl) ((World.putObj_heap_other (by omega)).trans hd)⟩
      · exact ⟨some c, _, by have := run_endLoop (P := P) hl (by rw [hrec]; simp); rw [hrec] at this; exact this, wpIn_wide.2 (hstop c pre _ hSp ((hIx c pre).put hi _ (by omega) hl rfl) ((World.putObj_heap_other (by omega)).trans hd))⟩
end
/- Leaving a function that held ranges over functions; what is held stays through such a loop's own steps. -/
section
open Go.RowKit Go.Shelf

theorem calls_marks {P : Program} {f : FuncId} {fn : Func} {c : Code} {args : Array Value} {w : World} {R : Ending → World → Prop} (hf : P.funcs[f]? = some fn) (hb : fn.body = some c)
    (h : c.wp P (bodyPostM Fence.wide 3 P fn R) { tmps := args ++ Array.replicate (fn.ntmps - args.size) undef, defers := [] } w) : Calls P f args w R :=
  callsIn_wide.1 (callsIn_of_wp_marks hf hb trivial (wpIn_wide.2 h) rfl)
theorem Kp.putObj {w : World} (l : Nat) (o : Obj) : Kp [l] w (w.putObj l o) :=
  ⟨rfl, rfl, rfl, by simp, fun k _ hn => World.putObj_heap_other (fun e => hn (by simp [e]))⟩
/-- The marks of the loops that were left are taken up. -/
theorem leaves_marks {P : Program} {fn : Func} {tmps : Array Value} {R : Ending → World → Prop} : ∀ (ds : List Nat) (w : World), ds.Nodup → (∀ D ∈ ds, w.heap[D]? = some (.deferred (some []))) →
    (∀ W, Kp ds w W → ∃ v, (results fn tmps).run P W = .ok v W ∧ R (.returned v) W) → LeavesInM Fence.wide 3 P fn tmps R (ds.map markOf) .returning w
  | [], w, _, _, h => h w (Kp.refl [] w)
  | D :: ds, w, hn, hd, h => by
    obtain ⟨h1, h2⟩ := List.nodup_cons.1 hn
    refine ⟨by simp, .inl ⟨D, _, rfl, run_takeDeferred (hd D (by simp)), leaves_marks ds _ h2 (fun D' hD' => ?_) (fun W hk => h W ?_)⟩⟩
    · exact (World.putObj_heap_other (fun e => h1 (by rw [← e]; exact hD'))).trans (hd D' (by simp [hD']))
    · exact ((Kp.putObj D (.deferred none)).more (T := D :: ds) (fun g hg => .inl (by simp at hg; simp [hg]))).trans hk (fun g hg => .inl (by simp [hg]))
theorem ret_marks {P : Program} {fn : Func} {R : Ending → World → Prop} {a : Act} {w : World} (ds : List Nat) (ha : a.defers = ds.map markOf) (hn : ds.Nodup) (hd : ∀ D ∈ ds, w.heap[D]? = some (.deferred (some [])))
    (h : ∀ W, Kp ds w W → ∃ v, (results fn a.tmps).run P W = .ok v W ∧ R (.returned v) W) : bodyPostM Fence.wide 3 P fn R .ret a w := by
  show LeavesInM Fence.wide 3 P fn a.tmps R a.defers .returning w
  rw [ha]
  exact leaves_marks ds w hn hd h

theorem run_eql_func_nil {P : Program} (w : World) (t : TypeId) {d : TypeDesc} (h : P.underlying t = some d) (hd : (match d with | .func .. => true | _ => false) = true) (f : Fn) (a b : Array Value) : (binOp .eql t (.func f a b) .nilFunc).run P w = .ok (.bool false) w := by
  cases d <;> first | (cases hd; done) | skip
  have h1 : ∀ d, (Op.equalIn (d + 1) t (.func f a b) .nilFunc).run P w = .ok false w := fun d => by simp [Op.equalIn, run_underlying h]
  simp only [binOp]
  simp [Op.equal, Op.maxDepth, h1 9999]
/-- All its blocks are rows of cells. -/
def Cellular (r : Res) : Prop := ∀ W, r.ok W → ∀ b ∈ r.fp, ∃ o : Obj, W.heap[b]? = some o ∧ o.isCells = true
theorem cellular_row (e : TypeId) (s : Nat) (v : Value) (n : Nat) (xs : List Value) : Cellular (rowR e s v n xs) := by
  intro W h b hb
  have hb : v.ownBlock = some b := by simpa [rowR] using hb
  rcases h.2 with ⟨rfl, _⟩ | ⟨g, cap, cur, rfl, _, hg, _⟩
  · simp [Value.ownBlock] at hb
  · have : g = b := by simpa [Value.ownBlock] using hb
    subst this
    exact ⟨_, hg, rfl⟩
theorem cellular_blk (g : Nat) (t : TypeId) (cs : Array Value) : Cellular (blkR g t cs) := by
  intro W h b hb
  have hb : b = g := by simpa [blkR] using hb
  subst hb
  exact ⟨_, h, rfl⟩
/-- Rows of cells, or blocks below B: what an object from B on is not. -/
def Cells (B : Nat) (L : List Res) : Prop := ∀ r, r ∈ L → Cellular r ∨ ∀ b ∈ r.fp, b < B
theorem Cells.nil {B : Nat} : Cells B [] := by simp [Cells]
theorem Cells.cons {B : Nat} {L : List Res} {r : Res} (hr : Cellular r) (h : Cells B L) : Cells B (r :: L) := fun s hs => by
  rcases List.mem_cons.1 hs with rfl | hs
  · exact .inl hr
  · exact h s hs
theorem Cells.row {B : Nat} {L : List Res} {e : TypeId} {s : Nat} {v : Value} {n : Nat} {xs : List Value} (h : Cells B L) : Cells B (rowR e s v n xs :: L) := h.cons (cellular_row _ _ _ _ _)
theorem Cells.blk {B : Nat} {L : List Res} {g : Nat} {t : TypeId} {cs : Array Value} (h : Cells B L) : Cells B (blkR g t cs :: L) := h.cons (cellular_blk _ _ _)
theorem Cells.tail {B : Nat} {L : List Res} {r : Res} (h : Cells B (r :: L)) : Cells B L := fun s hs => h s (List.mem_cons_of_mem _ hs)
/-- What is held in a world lies below its end. -/
theorem Cells.of {w0 W : World} {L : List Res} (S : Held w0 W L) : Cells W.heap.size L := fun r hr => .inr fun b hb => r.lt W (S.ok r hr) b hb
theorem Cells.not {B : Nat} {L : List Res} (h : Cells B L) {w0 W : World} (S : Held w0 W L) {l : Nat} {o : Obj} (hB : B ≤ l) (hl : W.heap[l]? = some o) (ho : o.isCells = false) : ∀ r ∈ L, l ∉ r.fp := by
  intro r hr hm
  rcases h r hr with h | h
  · obtain ⟨o', h1, h2⟩ := h W (S.ok r hr) l hm
    rw [hl] at h1
    cases h1
    rw [ho] at h2
    cases h2
  · have := h l hm
    omega
/-- An object that is no row of cells.. -/
def objR (l : Nat) (o : Obj) : Res where
  fp := [l]
  ok := fun w => w.heap[l]? = some o
  keep := fun _ _ _ h hk hn => (hk.block l (Array.getElem?_eq_some_iff.1 h).1 (hn l (by simp))).trans h
  lt := fun _ h b hb => by simp at hb; subst hb; exact (Array.getElem?_eq_some_iff.1 h).1
theorem Held.withObj {w0 W : World} {L : List Res} (S : Held w0 W L) {l : Nat} {o : Obj} (hB : w0.heap.size ≤ l) (hl : W.heap[l]? = some o) (hn : ∀ r ∈ L, l ∉ r.fp) : Held w0 W (objR l o :: L) :=
  ⟨S.k, fun r hr => by
    rcases List.mem_cons.1 hr with rfl | hr
    · exact hl
    · exact S.ok r hr, fun r hr b hb => by
    rcases List.mem_cons.1 hr with rfl | hr
    · have : b = l := by simpa [objR] using hb
      omega
    · exact S.base r hr b hb, List.pairwise_cons.2 ⟨fun r hr b hb hb' => by
    have : b = l := by simpa [objR] using hb
    subst this
    exact hn r hr hb', S.apart⟩⟩
/-- What a call holds of its own, behind what was held. -/
theorem Held.join {w0 w1 w2 : World} {L L' : List Res} (S : Held w0 w1 L) (T : Held w1 w2 L') : Held w0 w2 (L ++ L') :=
  ⟨S.k.trans T.k (by simp), fun r hr => (List.mem_append.1 hr).elim (fun h => r.keep w1 w2 [] (S.ok r h) T.k (by simp)) (T.ok r), fun r hr b hb => (List.mem_append.1 hr).elim (fun h => S.base r h b hb) (fun h => Nat.le_trans S.k.size (T.base r h b hb)),
    List.pairwise_append.2 ⟨S.apart, T.apart, fun r hr s hs b hb hb' => by
      have h1 := r.lt w1 (S.ok r hr) b hb
      have h2 := T.base s hs b hb'
      omega⟩⟩
theorem Held.sub {w0 w : World} {L L' : List Res} (S : Held w0 w L) (h : L'.Sublist L) : Held w0 w L' :=
  ⟨S.k, fun r hr => S.ok r (h.subset hr), fun r hr => S.base r (h.subset hr), S.apart.sublist h⟩
/-- The mark of a loop that was left. -/
def obD (D : Nat) : Res := objR D (.deferred (some []))
/-- Both objects of the loop beside what is held. -/
theorem Held.withTwo {w0 W : World} {L : List Res} (S : Held w0 W L) {B : Nat} (hc : Cells B L) (h0 : w0.heap.size ≤ B) {l D : Nat} {o d : Obj} (hB : B ≤ l) (hD : B ≤ D) (hne : l ≠ D) (hl : W.heap[l]? = some o) (ho : o.isCells = false) (hd : W.heap[D]? = some d) (hd0 : d.isCells = false) :
    Held w0 W (objR l o :: objR D d :: L) :=
  (S.withObj (Nat.le_trans h0 hD) hd (hc.not S hD hd hd0)).withObj (Nat.le_trans h0 hB) hl (fun r hr => by
    rcases List.mem_cons.1 hr with rfl | hr
    · simpa [objR] using hne
    · exact hc.not S hB hl ho r hr)
theorem Held.same2 {w0 W W' : World} {L : List Res} {l D : Nat} {o d : Obj} (S : Held w0 W' (objR l o :: objR D d :: L)) (hl : W.heap[l]? = some o) (hd : W.heap[D]? = some d) : Same2 l D W W' :=
  ⟨(S.at_ (l1 := [])).trans hl.symm, (S.at_ (l1 := [_])).trans hd.symm⟩
theorem Held.stays {w0 : World} {L : List Res} {B : Nat} (hB : w0.heap.size ≤ B) (hc : Cells B L) : Stays B (fun W => Held w0 W L) := by
  intro W W' S h
  rcases h with hk | ⟨l, o, o', hl, hlo, ho, rfl⟩
  · exact S.kp hk
  · have hn := hc.not S hl hlo ho
    exact ⟨S.k.trans (Kp.putObj l o') (fun g hg => by simp at hg; right; omega), fun r hr => r.keep W _ [l] (S.ok r hr) (Kp.putObj l o') (fun b hb hm => by simp at hm; subst hm; exact hn r hr hb), S.base, S.apart⟩
theorem cell_put {W : World} {a : Addr} {u : Value} (h : W.cell? a = some u) {l : Nat} {o : Obj} (o' : Obj) (hl : W.heap[l]? = some o) (ho : o.isCells = false) : (W.putObj l o').cell? a = some u := by
  have hne : a.block ≠ l := by
    intro e
    unfold World.cell? at h
    rw [e, hl] at h
    cases o <;> first | (cases ho; done) | simp at h
  exact (World.cell?_of_block (World.putObj_heap_other hne)).trans h
theorem rd_put {W : World} {s n : Nat} {v : Value} {xs : List Value} (h : Rd W s v n xs) {l : Nat} {o : Obj} (o' : Obj) (hl : W.heap[l]? = some o) (ho : o.isCells = false) : Rd (W.putObj l o') s v n xs := by
  obtain ⟨h1, A, c, h2, h3, h4, h5, h6⟩ := h
  exact ⟨h1, A, c, h2, h3, h4, h5, fun ad had j u hu => cell_put (h6 ad had j u hu) o' hl ho⟩
theorem stays_cell (B : Nat) (a : Addr) (u : Value) : Stays B (fun W => W.cell? a = some u) := fun W W' h hk => by
  rcases hk with hk | ⟨l, o, o', _, hl, ho, rfl⟩
  · exact cell_kept h hk
  · exact cell_put h o' hl ho
theorem stays_rd (B s : Nat) (v : Value) (n : Nat) (xs : List Value) : Stays B (fun W => Rd W s v n xs) := fun W W' h hk => by
  rcases hk with hk | ⟨l, o, o', _, hl, ho, rfl⟩
  · exact rd_old h hk
  · exact rd_put h o' hl ho
end
/- '[]byte("..")' of a constant: what it yields, and that it reads. -/
section
open Go.RowKit
theorem rd_txt (w : World) (e : TypeId) (cs : Array Value) (l : List UInt8) (fr : Nat × Nat) (h : cs.toList = bv l) (hn : l.length ≤ 4096) {g : Nat} (hg : g = w.heap.size) : Rd (w.alloc (.cells cs e fr)) 1 (.slice (some ⟨g, 0, none⟩) l.length l.length) l.length (bv l) := by
  subst hg
  refine ⟨by rw [bv_length]; omega, _, _, rfl, Nat.le_refl _, by unfold maxLen; omega, (fun h => by cases h), fun ad had j u hu => ?_⟩
  cases had
  have h1 := World.cell?_alloc_mark w cs e fr j
  rw [← h, Array.getElem?_toList] at hu
  rw [hu] at h1
  by_cases hj : j = 0
  · subst hj; simpa [Addr.add] using h1
  · simpa [Addr.add, hj] using h1
theorem conv_txt (w : World) (C : Array Value) (n c g : Nat) (hg : g = w.heap.size) : (convert 25 25 (.slice (some ⟨g, 0, none⟩) n c)).run Try.prog (w.alloc (.cells C 5)) = .ok (.slice (some ⟨g, 0, none⟩) n c) (w.alloc (.cells C 5 (C.size, C.size + 1))) := by
  subst hg
  exact Lib.run_convert_bytes_const (P := Try.prog) w 25 5 C n c Try.underlying25 Try.underlying5
/-- What reads only. -/
def rdR (v : Value) (n : Nat) (xs : List Value) : Res where
  fp := v.ownBlock.toList
  ok := fun w => Rd w 1 v n xs ∧ ∀ g, v.ownBlock = some g → g < w.heap.size
  keep := fun _ _ _ h hk hn => ⟨h.1.kp hk (fun g hg => hn g (by simp [hg])), fun g hg => Nat.lt_of_lt_of_le (h.2 g hg) hk.size⟩
  lt := fun _ h b hb => h.2 b (by simpa using hb)
end
/- The law's lent: texts in memory of their own, with marks behind. -/
section
open Go.RowKit
theorem cut_u8c (A : Option Addr) (n c k : Nat) (h : Int) (hh : h = k) (hk : k ≤ c) (w : World) : (Instr.sliceAt 25 (.slice A n c) none (some (.int .i64 h)) none).run Try.prog w = .ok (.slice A k c) w := by
  subst hh
  rw [cut_at, run_slice_h w 25 A n c und_u8 .i64 k (by omega) (by omega), elem_u8, run_size_u8]
  simp only [Result.andThen_ok, Int.toNat_natCast]
  congr 1
  by_cases e : c = 0
  · simp [sliced, e]
  · cases A with
    | none => simp [sliced, e]
    | some ad => simp [sliced, e, Addr.add]
theorem cut_u8 (A : Option Addr) (n c k : Nat) (h : Int) (hh : h = k) (hk : k ≤ n) (hc : n ≤ c) (w : World) : (Instr.sliceAt 25 (.slice A n c) none (some (.int .i64 h)) none).run Try.prog w = .ok (.slice A k c) w := cut_u8c A n c k h hh (by omega) w
theorem run_size_bytes (w : World) : (sizeOf 25).run Try.prog w = .ok 1 w := by
  obtain ⟨i0, hi, hz0, hz1, hz2⟩ := info_parts Try.infoBytes
  simp [sizeOf, typeInfo, hi, hz1]
theorem cut_at_texts (w : World) (x : Value) (lo hi mx : Option Value) : (Instr.sliceAt 22 x lo hi mx).run Try.prog w = (Instr.slice 22 x lo hi mx).run Try.prog w := by
  simp [Instr.sliceAt, run_underlying Try.underlying22]
theorem elem_texts : Try.prog.elem 22 = 25 := by kernel_rfl
theorem und_texts : Try.prog.underlying 22 = some (.slice (Try.prog.elem 22)) := by rw [elem_texts]; exact Try.underlying22
theorem cut_textsc (A : Option Addr) (n c k : Nat) (h : Int) (hh : h = k) (hk : k ≤ c) (w : World) : (Instr.sliceAt 22 (.slice A n c) none (some (.int .i64 h)) none).run Try.prog w = .ok (.slice A k c) w := by
  subst hh
  rw [cut_at_texts, run_slice_h w 22 A n c und_texts .i64 k (by omega) (by omega), elem_texts, run_size_bytes]
  simp only [Result.andThen_ok, Int.toNat_natCast]
  congr 1
  by_cases e : c = 0
  · simp [sliced, e]
  · cases A with
    | none => simp [sliced, e]
    | some ad => simp [sliced, e, Addr.add]
theorem cut_texts (A : Option Addr) (n c k : Nat) (h : Int) (hh : h = k) (hk : k ≤ n) (hc : n ≤ c) (w : World) : (Instr.sliceAt 22 (.slice A n c) none (some (.int .i64 h)) none).run Try.prog w = .ok (.slice A k c) w := cut_textsc A n c k h hh (by omega) w
/-- Texts with a mark behind each. -/
def markR : List (List UInt8) → List Value → List Res
  | l :: ls, B :: Bs => rowR 5 1 (grow1 B) (l.length + 1) (bv (l ++ [165])) :: markR ls Bs
  | _, _ => []
theorem markR_snoc : ∀ (ls : List (List UInt8)) (Bs : List Value) (l : List UInt8) (B : Value), ls.length = Bs.length → markR (ls ++ [l]) (Bs ++ [B]) = markR ls Bs ++ [rowR 5 1 (grow1 B) (l.length + 1) (bv (l ++ [165]))]
  | [], [], _, _, _ => rfl
  | _ :: ls, _ :: Bs, l, B, h => by simp only [List.cons_append, markR, markR_snoc ls Bs l B (by simpa using h)]
  | [], _ :: _, _, _, h => by simp at h
  | _ :: _, [], _, _, h => by simp at h
theorem markR_mem : ∀ (ls : List (List UInt8)) (Bs : List Value) (i : Nat) (l : List UInt8) (B : Value), ls[i]? = some l → Bs[i]? = some B → rowR 5 1 (grow1 B) (l.length + 1) (bv (l ++ [165])) ∈ markR ls Bs
  | l0 :: ls, B0 :: Bs, 0, l, B, h1, h2 => by cases h1; cases h2; exact List.mem_cons_self ..
  | l0 :: ls, B0 :: Bs, i + 1, l, B, h1, h2 => List.mem_cons_of_mem _ (markR_mem ls Bs i l B h1 h2)
  | [], _, _, _, _, h1, _ => by simp at h1
  | _ :: _, [], _, _, _, _, h2 => by simp at h2
theorem grow1_form {w : World} {B : Value} {n : Nat} {xs : List Value} (h : Ow w 5 1 (grow1 B) (n + 1) xs) : ∃ A c, B = .slice A n c ∧ n + 1 ≤ c := by
  obtain ⟨A, c, e, h1, _⟩ := ow_form h
  cases B <;> simp only [grow1] at e <;> try cases e
  exact ⟨_, _, rfl, h1⟩
/-- A marked text reads as the text. -/
theorem mark_rd {w : World} {B : Value} {l : List UInt8} (h : Ow w 5 1 (grow1 B) (l.length + 1) (bv (l ++ [165]))) : Rd w 1 B l.length (bv l) := by
  obtain ⟨A, c, rfl, hc⟩ := grow1_form h
  obtain ⟨h1, A', c', e, h2, h3, h4, h5⟩ := Rd.of_own h
  simp only [grow1] at e
  cases e
  refine ⟨by rw [bv_length]; omega, A, c, rfl, by omega, h3, (fun hA => ?_), (fun ad had j u hu => h5 ad had j u ?_)⟩
  · have := h4 hA; omega
  · rw [bv_append]
    have hj := (List.getElem?_eq_some_iff.1 hu).1
    rw [List.getElem?_append_left hj]
    exact hu
def mk4 : List UInt8 := [109, 97, 114, 107]
/-- What lent leaves. -/
def LentPost (L : List (List UInt8)) (w : World) (e : Ending) (w' : World) : Prop :=
  ∃ g c Bs M, e = .returned (.slice (some ⟨g, 0, none⟩) L.length c) ∧ Bs.length = L.length ∧ Held w w' (rowR 25 1 (.slice (some ⟨g, 0, none⟩) (L.length + 1) c) (L.length + 1) (Bs ++ [M]) :: rdR M 4 (bv mk4) :: markR L Bs)
set_option maxRecDepth 100000 in
set_option maxHeartbeats 4000000 in
theorem lent15_any (v0 : Value) (L : List (List UInt8)) (w : World) (hv : Txs w v0 L) (hL : L.length ≤ 1073741824) (hb : ∀ e ∈ L, e.length ≤ 140737488355200) :
    Calls Try.prog 11 #[v0] w (LentPost L w) := by
  obtain ⟨A, c, rfl, hA, -⟩ := hv.open_
  have Hv := Lib.hid hv
  have HA := Lib.hid hA
  have Hb := Lib.hid hb
  clear hA hv hb
  go_enter Try.func11, Try.ntmps11
  go_wp2
  go_loopw [3, 4] (fun v i wr => ∃ (k : Nat) (Bs : List Value), k ≤ L.length ∧ i = .int .i64 k ∧ Bs.length = k ∧ Held w wr (rowR 25 1 v k Bs :: markR (L.take k) Bs)) (fun _ i _ => L.length - (intOf i).toNat)
  case atStart => exact ⟨0, [], by omega, rfl, rfl, (Held.start w).rownew (World.ownsRow_nil _ _ _ _) (Kp.refl [] w) (by simp [Value.ownBlock])⟩
  case round =>
    obtain ⟨k, Bs, hk, rfl, hBs, S⟩ := hrel
    have HS := Lib.hid S
    have HBs := Lib.hid hBs
    clear S hBs
    by_cases hlt : k < L.length
    · obtain ⟨ad, rfl⟩ := HA.out (by omega)
      obtain ⟨Ax, cx, hcx, hrx⟩ := Hv.out.at_ hlt
      have C1 := Lib.hid (fun V (kk : Kp [] w V) => cell_kept hcx kk)
      have RX := Lib.hid (fun V (kk : Kp [] w V) => rd_old hrx kk)
      have he : L[k]? = some L[k] := List.getElem?_eq_getElem hlt
      have HT := Lib.hid (take_succ_of he)
      have hxl := Hb.out L[k] (List.getElem_mem hlt)
      clear hcx hrx he
      generalize L[k] = x at *
      go_wp2
      -- SEP lent15
      refine wp_region_sep (Γ := Unit) 2 [0, 1, 2, 3, 4, 6, 8, 9, 10, 11, 12, 13, 14, 15, 16, 18]
        (fun i vs gs => match i with | 0 => vs 0 = u3 | 1 => vs 1 = .slice (some ad) L.length c | 2 => vs 2 = .int .i64 (k : Int) | 3 => vs 3 = .pointer (some (ad.add k)) | 4 => vs 4 = .slice Ax x.length cx | 8 => vs 8 = .slice (some ad) L.length c | 9 => vs 9 = .int .i64 (k : Int) | 10 => vs 10 = .pointer (some (ad.add k)) | 11 => vs 11 = .slice Ax x.length cx | 12 => vs 12 = .int .i64 (x.length : Int) | 13 => ∃ A c, vs 13 = .slice A x.length c | 16 => vs 16 = vs 15 | _ => True)
        (fun i vs gs => match i with | 5 => [rowR 5 1 (vs 5) x.length (bv x)] | 6 => [rowR 5 1 (vs 6) 1 (bv [165])] | 7 => [rowR 5 1 (vs 7) (x.length + 1) (bv (x ++ [165]))] | 13 => [rowR 5 1 (grow1 (vs 13)) (x.length + 1) (bv (x ++ [165]))] | 14 => [rowR 25 1 (vs 14) 1 [vs 13]] | 15 => [rowR 25 1 (vs 15) (k + 1) (Bs ++ [vs 13])] | 17 => [rowR 25 1 u3 k Bs] | 18 => markR (L.take k) Bs | _ => [])
        (fun i => match i with | 7 => [5] | 13 => [7] | 15 => [17] | _ => []) (fun i => match i with | 7 => [6] | 15 => [14] | _ => []) HS.out (by kernel_rfl) (by kernel_rfl) (by kernel_rfl) (by kernel_rfl) (fun i => match i with | 0 => [0] | 1 => [1] | 2 => [2] | 3 => [3] | 4 => [4] | 5 => [5] | 6 => [6] | 7 => [7] | 8 => [8] | 9 => [9] | 10 => [10] | 11 => [11] | 12 => [12] | 13 => [13] | 14 => [13, 14] | 15 => [13, 15] | 16 => [15, 16] | _ => []) (by kernel_rfl) ?_ (by kernel_rfl) ?_ ?_ ?_
      · intro s vs vs' gs gs' h
        iterate 19 (rcases s with _ | s; · (first | exact ⟨rfl, id⟩ | (simp only [List.mem_cons, List.not_mem_nil, or_false, forall_eq_or_imp, forall_eq] at h; simp [h])))
        exact ⟨rfl, id⟩
      · simp only [List.range, List.range.loop, List.flatMap_cons, List.flatMap_nil, List.append_nil, List.cons_append, List.nil_append]
        exact List.Perm.refl _
      · refine ⟨?_, ?_, ?_, ?_, ?_, ?_, ?_, ?_, ?_, ?_, ?_, ?_, ?_, ?_, ?_, ?_, ?_, trivial⟩
        · intro vs gs A' W LF hA S hR hd hu K hK
          replace hK := hK default
          have e3 : A'.tmps[3]?.getD undef = vs 16 := slot_is hA (by kernel_rfl) (Nat.le_of_ble_eq_true (by kernel_rfl)) (by kernel_rfl)
          rw [show vs 16 = u3 from hu 16 _ rfl (by kernel_rfl)] at e3
          go_step
          exact hK _ _ S rfl
        · intro vs gs A' W LF hA S hR hd hu K hK
          replace hK := hK default
          have e0 : A'.tmps[0]?.getD undef = .slice (some ad) L.length c := slot_is hA (by kernel_rfl) (Nat.le_of_ble_eq_true (by kernel_rfl)) (by kernel_rfl)
          go_step
          exact hK _ _ S rfl
        · intro vs gs A' W LF hA S hR hd hu K hK
          replace hK := hK default
          have e4 : A'.tmps[4]?.getD undef = .int .i64 (k : Int) := slot_is hA (by kernel_rfl) (Nat.le_of_ble_eq_true (by kernel_rfl)) (by kernel_rfl)
          go_step
          exact hK _ _ S rfl
        · intro vs gs A' W LF hA S hR hd hu K hK
          replace hK := hK default
          have f1 : vs 1 = .slice (some ad) L.length c := hd 1 (by kernel_rfl)
          have e12 : A'.tmps[12]?.getD undef = vs 1 := slot_is hA (by kernel_rfl) (Nat.le_of_ble_eq_true (by kernel_rfl)) (by kernel_rfl)
          rw [f1] at e12
          have f2 : vs 2 = .int .i64 (k : Int) := hd 2 (by kernel_rfl)
          have e13 : A'.tmps[13]?.getD undef = vs 2 := slot_is hA (by kernel_rfl) (Nat.le_of_ble_eq_true (by kernel_rfl)) (by kernel_rfl)
          rw [f2] at e13
          go_step
          exact hK _ _ S rfl
        · intro vs gs A' W LF hA S hR hd hu K hK
          replace hK := hK default
          have f3 : vs 3 = .pointer (some (ad.add k)) := hd 3 (by kernel_rfl)
          have e14 : A'.tmps[14]?.getD undef = vs 3 := slot_is hA (by kernel_rfl) (Nat.le_of_ble_eq_true (by kernel_rfl)) (by kernel_rfl)
          rw [f3] at e14
          have q := C1.out _ S.k
          go_step
          exact hK _ _ S rfl
        · intro vs gs A' W LF hA S hR hd hu K hK
          replace hK := hK default
          have f4 : vs 4 = .slice Ax x.length cx := hd 4 (by kernel_rfl)
          have e15 : A'.tmps[15]?.getD undef = vs 4 := slot_is hA (by kernel_rfl) (Nat.le_of_ble_eq_true (by kernel_rfl)) (by kernel_rfl)
          rw [f4] at e15
          exact op_app_nil (.const (.slice none 0 0)) (.tmp 15) 25 5 rfl Try.infoU8 Try.underlying25 rfl (by decide) rfl S (.slice Ax x.length cx) x.length (bv x) (by simpa [Act.eval] using e15) (RX.out _ S.k) (bv_one _) (by unfold maxLen; omega) (by omega) (fun v' w' S' => hK v' w' S' trivial)
        · intro vs gs A' W LF hA S hR hd hu K hK
          replace hK := hK default
          go_step
          exact hK _ _ (S.rownew (ow_new W 5 1 1 #[.int .u8 165] rfl (by decide)) ((Kp.refl [] W).alloc _) (fun g hg => Nat.le_of_eq (Option.some.inj hg))) trivial
        · intro vs gs A' W LF hA S hR hd hu K hK
          replace hK := hK default
          have e16 : A'.tmps[16]?.getD undef = vs 5 := slot_is hA (by kernel_rfl) (Nat.le_of_ble_eq_true (by kernel_rfl)) (by kernel_rfl)
          have e17 : A'.tmps[17]?.getD undef = vs 6 := slot_is hA (by kernel_rfl) (Nat.le_of_ble_eq_true (by kernel_rfl)) (by kernel_rfl)
          refine op_app (.tmp 16) (.tmp 17) 25 5 rfl Try.infoU8 Try.underlying25 rfl (by decide) (vs 5) x.length (bv x) (by simpa [Act.eval] using e16) S (vs 6) 1 (bv [165]) (by simpa [Act.eval] using e17) (rd_of_row (e := 5) S (List.mem_cons_of_mem _ (hR 6 (List.mem_singleton.2 rfl) _ (List.mem_singleton.2 rfl)))) (bv_one _) (by unfold maxLen; omega) (by omega) (fun v' w' S' => hK v' w' (by rw [← bv_append] at S'; exact S') trivial)
        · intro vs gs A' W LF hA S hR hd hu K hK
          replace hK := hK default
          have e0 : A'.tmps[0]?.getD undef = .slice (some ad) L.length c := slot_is hA (by kernel_rfl) (Nat.le_of_ble_eq_true (by kernel_rfl)) (by kernel_rfl)
          go_step
          exact hK _ _ S rfl
        · intro vs gs A' W LF hA S hR hd hu K hK
          replace hK := hK default
          have e4 : A'.tmps[4]?.getD undef = .int .i64 (k : Int) := slot_is hA (by kernel_rfl) (Nat.le_of_ble_eq_true (by kernel_rfl)) (by kernel_rfl)
          go_step
          exact hK _ _ S rfl
        · intro vs gs A' W LF hA S hR hd hu K hK
          replace hK := hK default
          have f8 : vs 8 = .slice (some ad) L.length c := hd 8 (by kernel_rfl)
          have e19 : A'.tmps[19]?.getD undef = vs 8 := slot_is hA (by kernel_rfl) (Nat.le_of_ble_eq_true (by kernel_rfl)) (by kernel_rfl)
          rw [f8] at e19
          have f9 : vs 9 = .int .i64 (k : Int) := hd 9 (by kernel_rfl)
          have e20 : A'.tmps[20]?.getD undef = vs 9 := slot_is hA (by kernel_rfl) (Nat.le_of_ble_eq_true (by kernel_rfl)) (by kernel_rfl)
          rw [f9] at e20
          go_step
          exact hK _ _ S rfl
        · intro vs gs A' W LF hA S hR hd hu K hK
          replace hK := hK default
          have f10 : vs 10 = .pointer (some (ad.add k)) := hd 10 (by kernel_rfl)
          have e21 : A'.tmps[21]?.getD undef = vs 10 := slot_is hA (by kernel_rfl) (Nat.le_of_ble_eq_true (by kernel_rfl)) (by kernel_rfl)
          rw [f10] at e21
          have q := C1.out _ S.k
          go_step
          exact hK _ _ S rfl
        · intro vs gs A' W LF hA S hR hd hu K hK
          replace hK := hK default
          have f11 : vs 11 = .slice Ax x.length cx := hd 11 (by kernel_rfl)
          have e22 : A'.tmps[22]?.getD undef = vs 11 := slot_is hA (by kernel_rfl) (Nat.le_of_ble_eq_true (by kernel_rfl)) (by kernel_rfl)
          rw [f11] at e22
          go_step
          exact hK _ _ S rfl
        · intro vs gs A' W LF hA S hR hd hu K hK
          replace hK := hK default
          have e18 : A'.tmps[18]?.getD undef = vs 7 := slot_is hA (by kernel_rfl) (Nat.le_of_ble_eq_true (by kernel_rfl)) (by kernel_rfl)
          have f12 : vs 12 = .int .i64 (x.length : Int) := hd 12 (by kernel_rfl)
          have e23 : A'.tmps[23]?.getD undef = vs 12 := slot_is hA (by kernel_rfl) (Nat.le_of_ble_eq_true (by kernel_rfl)) (by kernel_rfl)
          rw [f12] at e23
          have S1 : Held w W (rowR 5 1 (vs 7) (x.length + 1) (bv (x ++ [165])) :: LF) := S
          obtain ⟨A7, c7, h7, h7a, h7b⟩ := ow_form (S1.at_ (l1 := []))
          clear S1
          rw [h7] at e18
          have q := fun w => cut_u8 A7 (x.length + 1) c7 x.length (x.length : Int) rfl (by omega) h7a w
          go_step
          refine hK _ _ ?_ ⟨A7, c7, rfl⟩
          have S2 : Held w W (rowR 5 1 (vs 7) (x.length + 1) (bv (x ++ [165])) :: LF) := S
          rw [h7] at S2
          exact S2
        · intro vs gs A' W LF hA S hR hd hu K hK
          replace hK := hK default
          have f13 : ∃ A c, vs 13 = .slice A x.length c := hd 13 (by kernel_rfl)
          have e24 : A'.tmps[24]?.getD undef = vs 13 := slot_is hA (by kernel_rfl) (Nat.le_of_ble_eq_true (by kernel_rfl)) (by kernel_rfl)
          obtain ⟨A1, c1, hq⟩ := f13
          rw [hq] at e24
          go_step
          have S2 := S.rownew (ow_new W 25 1 1 #[.slice A1 x.length c1] rfl (by decide)) ((Kp.refl [] W).alloc _) (fun g hg => Nat.le_of_eq (Option.some.inj hg))
          rw [← hq] at S2 ⊢
          exact hK _ _ S2 trivial
        · intro vs gs A' W LF hA S hR hd hu K hK
          replace hK := hK default
          have f0 : vs 0 = u3 := hd 0 (by kernel_rfl)
          have e11 : A'.tmps[11]?.getD undef = vs 0 := slot_is hA (by kernel_rfl) (Nat.le_of_ble_eq_true (by kernel_rfl)) (by kernel_rfl)
          rw [f0] at e11
          have e25 : A'.tmps[25]?.getD undef = vs 14 := slot_is hA (by kernel_rfl) (Nat.le_of_ble_eq_true (by kernel_rfl)) (by kernel_rfl)
          have hone : (vs 13).oneCell' = true := by obtain ⟨A, c, h⟩ := (hd 13 (by kernel_rfl) : ∃ A c, vs 13 = .slice A x.length c); rw [h]; rfl
          exact op_app (.tmp 11) (.tmp 25) 22 25 rfl Try.infoBytes Try.underlying22 rfl (by decide) u3 k Bs (by simpa [Act.eval] using e11) S (vs 14) 1 [vs 13] (by simpa [Act.eval] using e25) (rd_of_row (e := 25) S (List.mem_cons_of_mem _ (hR 14 (List.mem_singleton.2 rfl) _ (List.mem_singleton.2 rfl)))) (by simpa using hone) (by unfold maxLen; omega) (by omega) (fun v' w' S' => hK v' w' S' trivial)
        · intro vs gs A' W LF hA S hR hd hu K hK
          replace hK := hK default
          have e26 : A'.tmps[26]?.getD undef = vs 15 := slot_is hA (by kernel_rfl) (Nat.le_of_ble_eq_true (by kernel_rfl)) (by kernel_rfl)
          go_step
          exact hK _ _ S rfl
      · intro vs gs W S hp
        have S : Held w W (rowR 5 1 (vs 6) 1 (bv [165]) :: rowR 5 1 (grow1 (vs 13)) (x.length + 1) (bv (x ++ [165])) :: rowR 25 1 (vs 14) 1 [vs 13] :: rowR 25 1 (vs 15) (k + 1) (Bs ++ [vs 13]) :: markR (L.take k) Bs) := by simpa only [List.flatMap_cons, List.flatMap_nil, List.append_nil, List.nil_append, List.cons_append, List.append_assoc] using S
        have p0 : vs 0 = u3 := hp 0 (Nat.le_of_ble_eq_true rfl)
        have p1 : vs 1 = .slice (some ad) L.length c := hp 1 (Nat.le_of_ble_eq_true rfl)
        have p2 : vs 2 = .int .i64 (k : Int) := hp 2 (Nat.le_of_ble_eq_true rfl)
        have p3 : vs 3 = .pointer (some (ad.add k)) := hp 3 (Nat.le_of_ble_eq_true rfl)
        have p4 : vs 4 = .slice Ax x.length cx := hp 4 (Nat.le_of_ble_eq_true rfl)
        have p8 : vs 8 = .slice (some ad) L.length c := hp 8 (Nat.le_of_ble_eq_true rfl)
        have p9 : vs 9 = .int .i64 (k : Int) := hp 9 (Nat.le_of_ble_eq_true rfl)
        have p10 : vs 10 = .pointer (some (ad.add k)) := hp 10 (Nat.le_of_ble_eq_true rfl)
        have p11 : vs 11 = .slice Ax x.length cx := hp 11 (Nat.le_of_ble_eq_true rfl)
        have p12 : vs 12 = .int .i64 (x.length : Int) := hp 12 (Nat.le_of_ble_eq_true rfl)
        have p13 : ∃ A c, vs 13 = .slice A x.length c := hp 13 (Nat.le_of_ble_eq_true rfl)
        have p16 : vs 16 = vs 15 := hp 16 (Nat.le_of_ble_eq_true rfl)
        clear hp
        have S2 := (S.drop.sub (.cons_cons _ (.cons _ (List.Sublist.refl _)))).perm ((List.Perm.swap _ _ _).trans (List.Perm.cons _ (List.perm_append_singleton _ _).symm))
        have HS2 := Lib.hid S2
        clear S S2
        simp only [putAll, p0, p1, p2, p3, p4, p8, p9, p10, p11, p12, p16, Act.put, List.setIfInBounds_toArray, List.set_cons_succ, List.set_cons_zero]
        go_wp2
        go_roundw
        case rel => exact ⟨k + 1, Bs ++ [vs 13], by omega, by go_num, by simp [HBs.out], by rw [HT.out, markR_snoc _ _ _ _ (by rw [List.length_take, HBs.out]; omega)]; exact HS2.out⟩
        case measure => simp [intOf]; omega
      -- END lent15
    · obtain rfl : k = L.length := by omega
      obtain ⟨i0, hi, hz0, hz1, hz2⟩ := info_parts Try.infoBytes
      rw [List.take_length] at HS
      have kc := conv_txt
      have K4 : Kp [] wr (wr.alloc (.cells #[.int .u8 109, .int .u8 97, .int .u8 114, .int .u8 107] 5 (4, 5))) := (Kp.refl [] wr).alloc _
      have R4 : Rd (wr.alloc (.cells #[.int .u8 109, .int .u8 97, .int .u8 114, .int .u8 107] 5 (4, 5))) 1 (.slice (some ⟨wr.heap.size, 0, none⟩) 4 4) 4 (bv mk4) := rd_txt wr _ _ mk4 _ rfl (by decide) rfl
      have S2 := HS.out.new (rdR (.slice (some ⟨wr.heap.size, 0, none⟩) 4 4) 4 (bv mk4)) K4 ⟨R4, fun g hg => by rw [← Option.some.inj hg, World.size_alloc]; exact Nat.lt_succ_self _⟩ (fun b hb => by
        have hb : b = wr.heap.size := by simpa [rdR, Value.ownBlock] using hb
        omega)
      have S3 := Lib.hid (S2.alloc (.cells #[.slice (some ⟨wr.heap.size, 0, none⟩) 4 4] 25))
      have HR := Lib.hid (rd_new (wr.alloc (.cells #[.int .u8 109, .int .u8 97, .int .u8 114, .int .u8 107] 5 (4, 5))) 25 (.slice (some ⟨wr.heap.size, 0, none⟩) 4 4))
      rw [World.size_alloc] at HR
      clear S2 R4 K4
      go_wp2_with (at_builtin; refine wpList_app _ rfl (.tmp 27) (.tmp 30) _ rfl 25 i0 _ 1 24 Try.underlying22 hi hz0 hz1 hz2 rfl (by decide) u3 L.length Bs rfl (S3.out.at_ (l1 := [_])) (.slice (some ⟨wr.heap.size + 1, 0, none⟩) 1 1) 1 [.slice (some ⟨wr.heap.size, 0, none⟩) 4 4] rfl HR.out (by simp [Value.oneCell']) (by unfold maxLen; omega) (by omega) ?_; intro v7 w7 o7 g7 h7; have S7 := Lib.hid (S3.out.grow (l1 := [_]) o7 g7 h7); obtain ⟨g8, c7, hv7, hcc, _⟩ := ow_some o7 (by omega); subst hv7; have q := fun V => cut_texts (some ⟨g8, 0, none⟩) (L.length + 1) c7 L.length (L.length : Int) rfl (by omega) hcc V; clear o7 g7 h7)
      go_ret
      exact ⟨g8, c7, Bs, _, rfl, HBs.out, S7.out.perm (List.Perm.swap _ _ _)⟩
end
/- The reference's Same of layer 15; the law's kept. -/
section
open Go.RowKit
set_option maxRecDepth 100000 in
set_option maxHeartbeats 2000000 in
theorem same15_any (x y : Value) (L M : List (List UInt8)) (w : World) (hx : Txs w x L) (hy : Txs w y M) :
    Calls Try.prog 36 #[x, y] w fun e w' => e = .returned (.bool (L == M)) ∧ Kp [] w w' := by
  have hbL : L.length ≤ 9223372036854775807 := by
    obtain ⟨vs, ⟨_, A', c', _, h1, h2, _⟩, _⟩ := hx
    unfold maxLen at h2
    omega
  obtain ⟨A, c, rfl, hA, hat⟩ := hx.open_
  obtain ⟨B, d, rfl, hB, hbt⟩ := hy.open_
  have HA := Lib.hid hA
  have HB := Lib.hid hB
  have Hx := Lib.hid hx
  have Hy := Lib.hid hy
  clear hx hy hA hB hat hbt
  by_cases hlen : L.length = M.length
  · have hll := Lib.hid hlen
    have hl3 : ((L.length : Int) != (M.length : Int)) = false := by rw [hlen]; simp
    clear hlen
    go_enter Try.func36, Try.ntmps36
    go_wp2
    go_loopw [5] (fun i wr => ∃ k : Nat, k ≤ L.length ∧ i = .int .i64 k ∧ L.take k = M.take k ∧ Kp [] w wr) (fun i _ => L.length - (intOf i).toNat)
    case atStart => exact ⟨0, Nat.zero_le _, rfl, by simp, Kp.refl _ _⟩
    case round =>
      obtain ⟨k, hk, rfl, hpre, hkp⟩ := hrel
      have Hpre := Lib.hid hpre
      clear hpre
      by_cases hlt : k < L.length
      · obtain ⟨ad, rfl⟩ := HA.out (by omega)
        obtain ⟨bd, rfl⟩ := HB.out (by have := hll.out; omega)
        have hltM : k < M.length := by have := hll.out; omega
        have HX : Hid (∃ u, ∀ V, Kp [] w V → V.cell? (ad.add k) = some u ∧ Rd V 1 u L[k].length (bv L[k])) := Lib.hid (by
          obtain ⟨A', c', e, _, h⟩ := Hx.out.open_
          cases e
          obtain ⟨u, h1, h2⟩ := h ad rfl k hlt
          exact ⟨u, fun V kk => ⟨cell_kept h1 kk, rd_old h2 kk⟩⟩)
        have HY : Hid (∃ u, ∀ V, Kp [] w V → V.cell? (bd.add k) = some u ∧ Rd V 1 u M[k].length (bv M[k])) := Lib.hid (by
          obtain ⟨A', c', e, _, h⟩ := Hy.out.open_
          cases e
          obtain ⟨u, h1, h2⟩ := h bd rfl k hltM
          exact ⟨u, fun V kk => ⟨cell_kept h1 kk, rd_old h2 kk⟩⟩)
        obtain ⟨u1, hu1⟩ := HX.out
        obtain ⟨u2, hu2⟩ := HY.out
        have RX := Lib.hid (fun (V : World) (kk : Kp [] w V) => (hu1 V kk).2)
        have RY := Lib.hid (fun (V : World) (kk : Kp [] w V) => (hu2 V kk).2)
        have C1 := Lib.hid (fun (V : World) (kk : Kp [] w V) => (hu1 V kk).1)
        have C2 := Lib.hid (fun (V : World) (kk : Kp [] w V) => (hu2 V kk).1)
        have HnL : Hid (L.take (k + 1) = L.take k ++ [L[k]] ∧ M.take (k + 1) = M.take k ++ [M[k]]) := Lib.hid ⟨take_succ_of (List.getElem?_eq_getElem hlt), take_succ_of (List.getElem?_eq_getElem hltM)⟩
        have HnE : Hid (L[k] ≠ M[k] → (L == M) = false) := Lib.hid (fun hne => by
          apply Bool.eq_false_iff.2
          intro he
          have := eq_of_beq he
          subst this
          exact hne rfl)
        clear HX HY hu1 hu2
        generalize L[k] = a at *
        generalize M[k] = b at *
        go_wp2
        refine wp_region_lexf [] [] (fun V : World => Kp [] w V) (by kernel_rfl) (by kernel_rfl) (hkp.drew) (fun σ hne f hf hsur => ?_); have Hsur := Lib.hid hsur; clear hsur
        have hfa := fun y => C1.out _ (hf y)
        have hfb := fun y => C2.out _ (hf y)
        clear hf
        by_cases hab : a = b
        · subst hab
          have hkd : (a == a) = true := beq_self_eq_true a
          go_wp2_with (first
            | (refine lex_qk (.string ⟨a.toArray⟩) rfl rfl (fun V hV => exec_convT rfl rfl (strB (RX.out V hV))) ?_; intro K hK; go_simp; refine hK _ _ ?_; clear hK K)
            | (refine lex_qk (.string ⟨a.toArray⟩) rfl rfl (fun V hV => exec_convT rfl rfl (strB (RY.out V hV))) ?_; intro K hK; go_simp; refine hK _ _ ?_; clear hK K)
            | (refine lex_qq Hsur.out rfl rfl rfl ?_; intro K hK; go_big_quiet_op; go_big_quiet_on) | (refine lex_skipk rfl ?_; intro K hK; go_simp; refine hK _ _ ?_; clear hK K) | (refine lex_e rfl rfl ?_; intro K hK; go_step) | (refine lex_nil ?_)
            | ((with_reducible apply And.intro); · (intro hl; first | (exact ls_absurd hl rfl) | exact hkp.drew)))
          go_roundw
          case rel => exact ⟨k + 1, by omega, by go_num, by rw [HnL.out.1, HnL.out.2, Hpre.out], hkp.drew⟩
          case measure => simp [intOf]; omega
        · have hkd : (a == b) = false := beq_false_of_ne hab
          go_wp2_with (first
            | (refine lex_qk (.string ⟨a.toArray⟩) rfl rfl (fun V hV => exec_convT rfl rfl (strB (RX.out V hV))) ?_; intro K hK; go_simp; refine hK _ _ ?_; clear hK K)
            | (refine lex_qk (.string ⟨b.toArray⟩) rfl rfl (fun V hV => exec_convT rfl rfl (strB (RY.out V hV))) ?_; intro K hK; go_simp; refine hK _ _ ?_; clear hK K)
            | (refine lex_qq Hsur.out rfl rfl rfl ?_; intro K hK; go_big_quiet_op; go_big_quiet_on) | (refine lex_skipk rfl ?_; intro K hK; go_simp; refine hK _ _ ?_; clear hK K) | (refine lex_e rfl rfl ?_; intro K hK; go_step) | (refine lex_nil ?_)
            | ((with_reducible apply And.intro); · (intro hl; first | (exact ls_absurd hl rfl) | exact hkp.drew)))
          go_ret
          exact ⟨by rw [HnE.out hab]; rfl, hkp.drew⟩
      · obtain rfl : k = L.length := by omega
        have he : L = M := by
          have := Hpre.out
          rwa [List.take_length, hll.out, List.take_length] at this
        subst he
        go_wp2
        go_ret
        exact ⟨by simp, hkp⟩
  · have hne : (L == M) = false := by
      apply Bool.eq_false_iff.2
      intro he
      have := eq_of_beq he
      subst this
      exact hlen rfl
    have Hne := Lib.hid hne
    clear hne
    have hl2 : ¬ (L.length : Int) = (M.length : Int) := by omega
    go_enter Try.func36, Try.ntmps36
    go_wp2
    go_ret
    all_goals first
      | exact ⟨by rw [Hne.out]; rfl, Kp.refl _ _⟩
      | (exfalso; simp at *; omega)
/-- What is held of lent texts. -/
structure Lent (w : World) (g c : Nat) (Bs : List Value) (M : Value) (L : List (List UInt8)) : Prop where
  len : Bs.length = L.length
  row : Ow w 25 1 (.slice (some ⟨g, 0, none⟩) (L.length + 1) c) (L.length + 1) (Bs ++ [M])
  mark : Rd w 1 M 4 (bv mk4)
  texts : ∀ (i : Nat) (l : List UInt8) (B : Value), L[i]? = some l → Bs[i]? = some B → Ow w 5 1 (grow1 B) (l.length + 1) (bv (l ++ [165]))
theorem Lent.txs {w : World} {g c : Nat} {Bs : List Value} {M : Value} {L : List (List UInt8)} (h : Lent w g c Bs M L) : Txs w (.slice (some ⟨g, 0, none⟩) L.length c) L := by
  obtain ⟨h1, A, c', e, h2, h3, h4, h5⟩ := Rd.of_own h.row
  cases e
  refine ⟨Bs, ⟨by rw [h.len]; omega, _, c, rfl, by omega, h3, (fun hA => by cases hA), fun ad had j u hu => h5 ad had j u ?_⟩, fun i hi => ?_⟩
  · rw [List.getElem?_append_left (List.getElem?_eq_some_iff.1 hu).1]
    exact hu
  · have hB : Bs[i]? = some (Bs[i]'(by rw [h.len]; exact hi)) := List.getElem?_eq_getElem _
    exact ⟨_, hB, mark_rd (h.texts i _ _ (List.getElem?_eq_getElem hi) hB)⟩
theorem Lent.of {w0 w : World} {g c : Nat} {Bs : List Value} {M : Value} {L : List (List UInt8)} {LL : List Res} (hB : Bs.length = L.length) (S : Held w0 w LL)
    (h1 : rowR 25 1 (.slice (some ⟨g, 0, none⟩) (L.length + 1) c) (L.length + 1) (Bs ++ [M]) ∈ LL) (h2 : rdR M 4 (bv mk4) ∈ LL) (h3 : ∀ r, r ∈ markR L Bs → r ∈ LL) : Lent w g c Bs M L :=
  ⟨hB, S.ok _ h1, (S.ok _ h2).1, fun i l B hl hb => S.ok (rowR 5 1 (grow1 B) (l.length + 1) (bv (l ++ [165]))) (h3 _ (markR_mem L Bs i l B hl hb))⟩
theorem Lent.at_ {w : World} {g c : Nat} {Bs : List Value} {M : Value} {L : List (List UInt8)} (h : Lent w g c Bs M L) {k : Nat} (hk : k < L.length) : ∃ gb cb, w.cell? ⟨g, k, none⟩ = some (.slice (some ⟨gb, 0, none⟩) L[k].length cb) ∧ L[k].length + 1 ≤ cb ∧ Ow w 5 1 (.slice (some ⟨gb, 0, none⟩) (L[k].length + 1) cb) (L[k].length + 1) (bv (L[k] ++ [165])) := by
  have hB : Bs[k]? = some (Bs[k]'(by rw [h.len]; exact hk)) := List.getElem?_eq_getElem _
  have ho := h.texts k _ _ (List.getElem?_eq_getElem hk) hB
  have hc := h.row.cellAt k (by omega)
  rw [List.getElem?_append_left (by rw [h.len]; exact hk), hB] at hc
  obtain ⟨A, cb, e, hcb⟩ := grow1_form ho
  rw [e] at ho hc
  simp only [grow1] at ho
  obtain ⟨gb, c', e2, _, _⟩ := ow_some ho (by omega)
  injection e2 with e2 _ _
  subst e2
  exact ⟨gb, cb, hc, hcb, ho⟩
set_option maxRecDepth 100000 in
set_option maxHeartbeats 2000000 in
theorem kept15_any (g c : Nat) (Bs : List Value) (M y : Value) (L : List (List UInt8)) (w : World) (hm : Lent w g c Bs M L) (hy : Txs w y L) (hL : L.length ≤ 1073741824) (hb : ∀ e ∈ L, e.length ≤ 140737488355200) :
    Calls Try.prog 18 #[.slice (some ⟨g, 0, none⟩) L.length c, y] w fun e w' => e = .returned (.bool true) ∧ Kp [] w w' := by
  obtain ⟨A, cy, rfl, hA, -⟩ := hy.open_
  have Hm := Lib.hid hm
  have Hy := Lib.hid hy
  have HA := Lib.hid hA
  have Hb := Lib.hid hb
  obtain ⟨hcc, hcm⟩ : L.length + 1 ≤ c ∧ c ≤ maxLen := by
    obtain ⟨_, _, hcr, hcc, hcm⟩ := ow_form hm.row
    injection hcr with _ _ hcr
    rw [hcr]
    exact ⟨hcc, hcm⟩
  unfold maxLen at hcm
  clear hm hy hA hb
  go_enter Try.func18, Try.ntmps18
  go_wp2
  go_loopw [5] (fun i wr => ∃ k : Nat, k ≤ L.length ∧ i = .int .i64 k ∧ Kp [] w wr) (fun i _ => L.length - (intOf i).toNat)
  case atStart => exact ⟨0, by omega, rfl, Kp.refl _ _⟩
  case round =>
    obtain ⟨k, hk, rfl, hkp⟩ := hrel
    by_cases hlt : k < L.length
    · obtain ⟨ad, rfl⟩ := HA.out (by omega)
      obtain ⟨Ax, cx, hcx, -⟩ := Hy.out.at_ hlt
      obtain ⟨gb, cb, hcb, hbc, hob⟩ := Hm.out.at_ hlt
      have hxl := Hb.out L[k] (List.getElem_mem hlt)
      have C1 := Lib.hid (fun V (kk : Kp [] w V) => cell_kept hcx kk)
      have C2 := Lib.hid (fun V (kk : Kp [] w V) => cell_kept hcb kk)
      have hc3 := hob.cellAt L[k].length (by omega)
      rw [show (bv (L[k] ++ [165]))[L[k].length]? = some (.int .u8 165) by rw [bv_append, List.getElem?_append_right (by rw [bv_length]; omega), bv_length]; simp [bv]] at hc3
      have C3 := Lib.hid (fun V (kk : Kp [] w V) => cell_kept hc3 kk)
      clear hcx hcb hob hc3
      generalize L[k] = x at *
      have q := fun V => cut_u8c (some ⟨gb, 0, none⟩) x.length cb (x.length + 1) ((x.length : Int) + 1) (by omega) (by omega) V
      go_wp2
      refine wp_region_lexf [] [] (fun V : World => Kp [] w V) (by kernel_rfl) (by kernel_rfl) (hkp.drew) (fun σ hne f hf hsur => ?_); have Hsur := Lib.hid hsur; clear hsur
      have hfa := fun y => C1.out _ (hf y)
      have hfb := fun y => C2.out _ (hf y)
      have hfc := fun y => C3.out _ (hf y)
      clear hf
      go_wp2_with (first
        | (refine lex_qq Hsur.out rfl rfl rfl ?_; intro K hK; go_big_quiet_op; go_big_quiet_on) | (refine lex_skipk rfl ?_; intro K hK; go_simp; refine hK _ _ ?_; clear hK K) | (refine lex_e rfl rfl ?_; intro K hK; go_step) | (refine lex_nil ?_)
        | ((with_reducible apply And.intro); · (intro hl; first | (exact ls_absurd hl rfl) | exact hkp.drew)))
      go_roundw
      case rel => exact ⟨k + 1, by omega, by go_num, hkp.drew⟩
      case measure => simp [intOf]; omega
    · obtain rfl : k = L.length := by omega
      have hq := Hm.out.row.cellAt L.length (by omega)
      rw [List.getElem?_append_right (by rw [Hm.out.len]; omega), Hm.out.len, Nat.sub_self] at hq
      have C1 := Lib.hid (fun V (kk : Kp [] w V) => cell_kept (show w.cell? ⟨g, L.length, none⟩ = some M from hq) kk)
      have RM := Lib.hid (fun V (kk : Kp [] w V) => rd_old Hm.out.mark kk)
      have q := fun V => cut_textsc (some ⟨g, 0, none⟩) L.length c (L.length + 1) ((L.length : Int) + 1) (by omega) (by omega) V
      clear hq
      go_wp2_with fail
      refine (same15_any _ _ L L _ (Hm.out.txs.kp0 hkp) (Hy.out.kp0 hkp)).mono ?_
      rintro e w1 ⟨rfl, k1⟩
      have K1 := Lib.hid (hkp.trans k1 (by simp))
      rw [beq_self_eq_true]
      have hc1 := C1.out _ K1.out
      have kv := strB (RM.out _ K1.out)
      clear k1
      go_wp2
      go_ret
      exact ⟨rfl, K1.out⟩
end
/- Same of entry: slices.EqualFunc over bytes.Equal. -/
section
open Go.RowKit
end
/- Walks of the reference for layer 1, and of the law's helpers: Number, Eight, List; lent, left, spoil. -/
section
open Go.RowKit


end
/- Walks for layer 1's laws: the reference's List; 'puts'. -/
section
open Go.RowKit

end
/- 'puts': what is written, by the program and by the document. -/
section
open Go.RowKit

-- PUTS
end
/- 'puts', the other kinds. -/
section
open Go.RowKit

end
/- 'puts', the kinds that lend. -/
section
open Go.RowKit

end
/- 'puts', all kinds; its loop. -/
section
open Go.RowKit

end
/- WireWrites: what comes in; what the call holds. -/
section
open Go.RowKit

end
/- WireReads: the reference's reader. -/
section
open Go.RowKit

set_option maxHeartbeats 400000 in
theorem r_signed (p : Nat) (v : Value) (a : Nat) (bs : List UInt8) (hk : a + 8 ≤ bs.length) (w : World) (h : Rr w p v a bs) :
    Calls Try.prog 48 #[.pointer (some ⟨p, 0, none⟩)] w fun e w' => e = .returned (.tuple #[.int .i64 (wrap64 (num ((bs.drop a).take 8))), .int .i64 0]) ∧ Kp [p] w w' ∧ Rr w' p v (a + 8) bs := by
  go_enter Try.func48, Try.ntmps48
  go_wp2_with (go_at_call 70; refine (take_u64 p v a bs w h hk).mono ?_; rintro e w' ⟨rfl, k1, h1⟩)
  go_ret2
  exact ⟨rfl, k1, h1⟩
set_option maxHeartbeats 400000 in
theorem r_signed_end (p : Nat) (v : Value) (a : Nat) (bs : List UInt8) (hk : bs.length < a + 8) (w : World) (h : Rr w p v a bs) :
    Calls Try.prog 48 #[.pointer (some ⟨p, 0, none⟩)] w fun e w' => e = .returned (.tuple #[.int .i64 0, .int .i64 110]) ∧ Kp [] w w' := by
  go_enter Try.func48, Try.ntmps48
  go_wp2_with (go_at_call 70; refine (take_u64_end p v a bs w h hk).mono ?_; rintro e w' ⟨rfl, k1⟩)
  go_ret2
  exact ⟨rfl, k1⟩
end
/- WireReads: Raw, List. -/
section
open Go.RowKit

theorem eg_raw_in : ∀ args w, (callFunc 75 args).run Try.prog w = .ok (.enter 75 args) w := fun _ _ => by kernel_rfl
set_option maxRecDepth 100000 in
set_option maxHeartbeats 800000 in
theorem raw_in (g : Nat) (x0 x : Value) (k : Nat) (bs : List UInt8) (w : World) (hx : Rd w 1 x k (bv bs)) (hk : k ≤ 140737488355328) (hg : Blk w g 25 #[x0]) :
    Calls Try.prog 75 #[x, .pointer (some ⟨g, 0, none⟩)] w fun e w' => e = .returned (.int .i64 0) ∧ ∃ v, Ow w' 5 1 v k (bv bs) ∧ Blk w' g 25 #[v] ∧ Kp [g] w w' ∧ ∀ b, v.ownBlock = some b → w.heap.size ≤ b := by
  go_enter Try.func75, Try.ntmps75
  go_wp2_with fail
  refine (clone_any x bs k w hx hk).mono ?_
  rintro e w1 ⟨v1, rfl, o1, k1, f1⟩
  have hg1 := hg.kp k1 (by simp)
  have hc1 := hg1.cell 0
  have hz1 := hg1.frozen 0
  have hl1 := hg1.lt
  simp at hc1
  obtain ⟨A1, c1, rfl, _, _⟩ := ow_form o1
  have Hg1 := Lib.hid hg1
  clear hg1
  go_wp2
  go_ret
  refine ⟨rfl, _, ow_kp o1 ((Kp.refl [g] _).setCell (.inl (by simp)) _) (fun b hb hm => ?_), by simpa using Hg1.out.set_ 0 _, (k1.more (by simp)).setCell (.inl (by simp)) _, f1⟩
  have h1 := f1 b hb
  have h2 := hg.lt
  simp at hm
  omega

set_option maxRecDepth 100000 in
set_option maxHeartbeats 800000 in
theorem r_raw (p : Nat) (v : Value) (a : Nat) (bs : List UInt8) (k : Nat) (w : World) (h : Rr w p v a bs) (hk : a + k ≤ bs.length) :
    Calls Try.prog 69 #[.pointer (some ⟨p, 0, none⟩), .int .i64 k] w fun e w' => ∃ u, e = .returned (.tuple #[u, .int .i64 0]) ∧ Ow w' 5 1 u k (bv ((bs.drop a).take k)) ∧ Kp [p] w w' ∧ Rr w' p v (a + k) bs ∧ ∀ b, u.ownBlock = some b → w.heap.size ≤ b := by
  have hp := h.blk.lt
  have hlen := h.len
  have hnext : Calls Try.prog 65 #[.pointer (some ⟨p, 0, none⟩), .int .i64 k, .func (.func 75) #[] #[.pointer (some ⟨w.heap.size, 0, none⟩)]] (w.alloc (.cells #[.slice none 0 0] 25))
      fun e w' => e = .returned (.int .i64 0) ∧ ∃ u, w'.cell? ⟨w.heap.size, 0, none⟩ = some u ∧ Ow w' 5 1 u k (bv ((bs.drop a).take k)) ∧ Kp [p] w w' ∧ Rr w' p v (a + k) bs ∧ ∀ b, u.ownBlock = some b → w.heap.size ≤ b :=
    next_ok p v a bs k hk _ _ _ (h.alloc _) _ eg_raw_in (fun A c W hkp hr hrd => by
      have hb : Blk W w.heap.size 25 #[.slice none 0 0] := (Blk.new w _ _).kp hkp (by simp; omega)
      have k1 : Kp [p] w W := ((Kp.refl [p] w).alloc _).trans hkp (fun g hg => .inl hg)
      refine (raw_in w.heap.size _ _ k _ W hrd (by omega) hb).mono ?_
      rintro e w' ⟨rfl, u, hu, hb', hkk, hf⟩
      refine ⟨rfl, u, by simpa using hb'.cell 0, hu, k1.trans hkk (fun g hg => .inr (by simp at hg; omega)), hr.kp hkk (by simp; omega) (fun g hg hm => by simp at hm; subst hm; have := h.vlt _ hg; omega), fun b hb => ?_⟩
      have := hf b hb
      have := k1.size
      omega)
  have Hn := Lib.hid hnext
  clear hnext
  generalize (bs.drop a).take k = cs at *
  go_enter Try.func69, Try.ntmps69
  go_wp2_with (first
    | (go_at_call 65; refine Hn.out.mono ?_; rintro e w' ⟨rfl, u, hc, hu, hkp, hr, hf⟩; obtain ⟨A1, c1, rfl, _, _⟩ := ow_form hu))
  go_ret2
  exact ⟨_, rfl, hu, hkp, hr, hf⟩

end
/- WireReads: the reference's Raw; List. -/
section
open Go.RowKit

end
/- WireReads: List. -/
section
open Go.RowKit

theorem r_leftn (p : Nat) (v : Value) (a : Nat) (bs : List UInt8) (m : Nat) (hm : bs.length = a + m) (w : World) (h : Rr w p v a bs) :
    Calls Try.prog 68 #[.pointer (some ⟨p, 0, none⟩)] w fun e w' => e = .returned (.int .i64 m) ∧ ∃ n, w' = w.drewN n := by
  have := r_left p v a bs w h
  rwa [show (bs.length : Int) - a = m by omega] at this

set_option maxRecDepth 100000 in
set_option maxHeartbeats 1000000 in
theorem wlist_in (p gm gr go : Nat) (v x x0 : Value) (a m most : Nat) (bs cs : List UInt8) (w : World) (h : Rr w p v a bs) (hm : bs.length = a + m) (hmost : most ≤ 9223372036854775807) (hcs : cs.length ≤ 8)
    (hx : Rd w 1 x cs.length (bv cs)) (hgm : Blk w gm 3 #[.int .i64 most]) (hgr : Blk w gr 76 #[.pointer (some ⟨p, 0, none⟩)]) (hgo : Blk w go 25 #[x0]) (hne : p ≠ go) (hvo : v.ownBlock ≠ some go)
    (h1 : num cs ≤ most) (h2 : num cs ≤ m) :
    Calls Try.prog 66 #[x, .pointer (some ⟨gm, 0, none⟩), .pointer (some ⟨gr, 0, none⟩), .pointer (some ⟨go, 0, none⟩)] w fun e w' =>
      e = .returned (.int .i64 0) ∧ ∃ u, Ow w' 5 1 u (num cs) (bv ((bs.drop a).take (num cs))) ∧ Blk w' go 25 #[u] ∧ Kp [p, go] w w' ∧ Rr w' p v (a + num cs) bs ∧ ∀ b, u.ownBlock = some b → w.heap.size ≤ b := by
  have hnum := number_any x cs hcs w hx
  have hlen := h.len
  have hcm := hgm.cell 0
  have hcr := hgr.cell 0
  simp at hcm hcr
  have hraw := r_raw p v a bs (num cs)
  generalize num cs = N at *
  have Hraw := Lib.hid hraw
  have Hnum := Lib.hid hnum
  have hN : ¬ (most < N) := by omega
  have hN2 : ¬ (m < N) := by omega
  clear hraw hnum
  go_enter Try.func66, Try.ntmps66
  go_wp2_with (first
    | (go_at_call 67; refine Hnum.out.mono ?_; rintro e w' ⟨rfl, rfl⟩)
    | (go_at_call 68; refine (r_leftn p v a bs m hm w h).mono ?_; rintro e w' ⟨rfl, nq, rfl⟩))
  refine (Hraw.out (w.drewN nq) (h.drewN nq) (by omega)).mono ?_
  rintro e w2 ⟨u, rfl, o2, k2, r2, f2⟩
  have hgo2 : Blk w2 go 25 #[x0] := (hgo.drewN nq).kp k2 (by simpa using Ne.symm hne)
  have hc2 := hgo2.cell 0
  have hz2 := hgo2.frozen 0
  have hl2 := hgo2.lt
  simp at hc2
  obtain ⟨A2, c2, rfl, _, _⟩ := ow_form o2
  have Hgo2 := Lib.hid hgo2
  clear hgo2
  go_wp2
  go_ret
  have hgol := hgo.lt
  refine ⟨rfl, _, ow_kp o2 ((Kp.refl [go] _).setCell (.inl (by simp)) _) (fun b hb hm => ?_), by simpa using Hgo2.out.set_ 0 _, ?_, r2.set (Ne.symm hne) hvo 0 _, f2⟩
  · have := f2 b hb
    simp at hm this
    omega
  · exact ((((Kp.refl [p, go] w).drewN nq).trans k2 (fun g hg => .inl (by simp at hg; simp [hg]))).setCell (.inl (by simp)) _)

set_option maxRecDepth 100000 in
set_option maxHeartbeats 1000000 in
theorem list_in_long (gm gr go : Nat) (x : Value) (most : Nat) (cs : List UInt8) (w : World) (hmost : most ≤ 9223372036854775807) (hcs : cs.length ≤ 8)
    (hx : Rd w 1 x cs.length (bv cs)) (hgm : Blk w gm 3 #[.int .i64 most]) (h1 : most < num cs) :
    Calls Try.prog 66 #[x, .pointer (some ⟨gm, 0, none⟩), .pointer (some ⟨gr, 0, none⟩), .pointer (some ⟨go, 0, none⟩)] w fun e w' => e = .returned (.int .i64 3) ∧ w = w' := by
  have hnum := number_any x cs hcs w hx
  have hcm := hgm.cell 0
  simp at hcm
  generalize num cs = N at *
  have Hnum := Lib.hid hnum
  clear hnum
  go_enter Try.func66, Try.ntmps66
  go_wp2_with (first
    | (go_at_call 67; refine Hnum.out.mono ?_; rintro e w' ⟨rfl, rfl⟩))
  go_ret
  exact ⟨rfl, rfl⟩

set_option maxRecDepth 100000 in
set_option maxHeartbeats 1000000 in
theorem list_in_end (p gm gr go : Nat) (v x : Value) (a m most : Nat) (bs cs : List UInt8) (w : World) (h : Rr w p v a bs) (hm : bs.length = a + m) (hmost : most ≤ 9223372036854775807) (hcs : cs.length ≤ 8)
    (hx : Rd w 1 x cs.length (bv cs)) (hgm : Blk w gm 3 #[.int .i64 most]) (hgr : Blk w gr 76 #[.pointer (some ⟨p, 0, none⟩)])
    (h1 : num cs ≤ most) (h2 : m < num cs) :
    Calls Try.prog 66 #[x, .pointer (some ⟨gm, 0, none⟩), .pointer (some ⟨gr, 0, none⟩), .pointer (some ⟨go, 0, none⟩)] w fun e w' => e = .returned (.int .i64 110) ∧ ∃ n, w' = w.drewN n := by
  have hnum := number_any x cs hcs w hx
  have hlen := h.len
  have hcm := hgm.cell 0
  have hcr := hgr.cell 0
  simp at hcm hcr
  generalize num cs = N at *
  have Hnum := Lib.hid hnum
  have hN : ¬ (most < N) := by omega
  clear hnum
  go_enter Try.func66, Try.ntmps66
  go_wp2_with (first
    | (go_at_call 67; refine Hnum.out.mono ?_; rintro e w' ⟨rfl, rfl⟩)
    | (go_at_call 68; refine (r_leftn p v a bs m hm w h).mono ?_; rintro e w' ⟨rfl, nq, rfl⟩))
  go_ret
  exact ⟨rfl, nq, rfl⟩
end
end Go.Proofs.Ytdmdnphbheomoaa
