/- Several texts in one: CrcJ, CrcK, CrcL, Inv, Fence, Range, App, Equal, Marks, InvG, Reg, InvS, Sep, SepO, Ops, Join. -/
import Derived.Lib.SmallJoins
import Derived.RangeFuncNested
import Derived.RangeFuncBound
import Derived.RangeFuncCalls
import Derived.RangeFuncLeaves
import Derived.Shelf.Abstract
import Derived.Shelf.RegionOpen
import Derived.WalkKit
import Derived.OwnWalkIn
import Derived.TacticsInMore
import Derived.LoopNIn
import Derived.LoopN
import Derived.LoopIn
import Derived.Great.BuildSlice
import Derived.Test.YtgldgkdnnimglaaP1
set_option linter.unusedVariables false
set_option linter.unusedSimpArgs false
set_option maxRecDepth 100000
set_option maxHeartbeats 8000000
namespace Go.Proofs.Ytgldgkdnnimglaa
/- Walks of package crc: Append, New. -/
section
open Go.RowKit

theorem Try.infoSum : (Try.prog.info? 23).map (fun i => (i.zero, i.size, i.bytes)) = some (some (.int .u32 0), 1, 4) := by kernel_rfl
/-- What stands while a Sums goes on. -/
structure Sg (w wr : World) (p : Nat) (v0 v : Value) (bs : List UInt8) : Prop where
  sm : Sm wr p v bs
  kp : Kp (p :: v0.ownBlock.toList) w wr
  at_ : v.ownBlock = v0.ownBlock ∨ ∃ g, v.ownBlock = some g ∧ w.heap.size ≤ g
theorem Sg.start {w : World} {p : Nat} {v : Value} {bs : List UInt8} (h : Sm w p v bs) : Sg w w p v v bs := ⟨h, Kp.refl _ _, .inl rfl⟩
theorem Sg.step {w wr w1 : World} {p n m : Nat} {v0 v v' : Value} {bs : List UInt8} {b : UInt8} {o : Obj} (h : Sg w wr p v0 v bs) (hn : n = bs.length) (hm : m = more (crc bs) [b])
    (ho : Ow w1 23 1 v' (n + 1) (smv bs ++ [.int .u32 (m : Int)])) (hg : (wr.drew.alloc o).grownBy w1 v.ownBlock) (hat : v'.ownBlock = v.ownBlock ∨ v'.ownBlock = some (wr.drew.heap.size + 1)) :
    Sg w ((w1.setCell ⟨p, 1, none⟩ v').setCell ⟨p, 0, none⟩ (.int .i64 ((n : Int) + 1))) p v0 v' (bs ++ [b]) ∧ Blk w1 p 66 #[.int .i64 n, v] := by
  subst hn
  have k1 : Kp v.ownBlock.toList wr w1 := by
    have : Kp [] wr (wr.drew.alloc o) := ((Kp.refl [] wr).drew).alloc o
    refine (this.more (T := v.ownBlock.toList) (by simp)).grown hg (fun g hg => .inl (by simp [hg]))
  have hb : Blk w1 p 66 #[.int .i64 bs.length, v] := h.sm.1.kp k1 (fun hm => h.sm.ne (by simpa using hm))
  rw [hm, ← smv_snoc] at ho
  have hne := ow_blk_ne ho hb (by decide)
  have k2 : Kp [p] w1 ((w1.setCell ⟨p, 1, none⟩ v').setCell ⟨p, 0, none⟩ (.int .i64 ((bs.length : Int) + 1))) := ((Kp.refl [p] w1).setCell (.inl (by simp)) _).setCell (.inl (by simp)) _
  have hl : (bs ++ [b]).length = bs.length + 1 := by simp
  refine ⟨⟨⟨?_, ?_⟩, ?_, ?_⟩, hb⟩
  · rw [hl]
    have h2 := (hb.set_ 1 v').set_ 0 (.int .i64 ((bs.length : Int) + 1))
    exact h2
  · rw [hl]
    exact ow_kp ho k2 (fun g hg hm => by simp at hm; subst hm; exact hne hg)
  · refine (h.kp.trans k1 (fun g hg => ?_)).trans k2 (fun g hg => .inl (by simp at hg; simp [hg]))
    rcases h.at_ with e | ⟨g', e, hlt⟩
    · left; rw [e] at hg; exact List.mem_cons_of_mem _ hg
    · rw [e] at hg; simp at hg; subst hg; exact .inr hlt
  · have hsz := h.kp.size
    rcases hat with e | e
    · rw [e]; exact h.at_
    · exact .inr ⟨_, e, by simp; omega⟩

set_option maxRecDepth 100000 in
set_option maxHeartbeats 2000000 in
theorem append_any (p : Nat) (v0 : Value) (bs : List UInt8) (x : Value) (L : List (List UInt8)) (S : List Nat) (w : World) (h : Sm w p v0 bs) (hx : TxsIn w x L S) (hS : ∀ g, g ∈ S → g ∉ p :: v0.ownBlock.toList) (hb : bs.length + L.flatten.length ≤ 1073741824) (hLl : L.length ≤ 1073741824) :
    Calls Try.prog 34 #[.pointer (some ⟨p, 0, none⟩), x] w fun e w' => e = .returned (.int .i64 0) ∧ ∃ v, Sg w w' p v0 v (bs ++ L.flatten) := by
  obtain ⟨i0, hi, hz0, hz1, hz2⟩ := info_parts Try.infoSum
  obtain ⟨A, c, rfl, hA, -⟩ := hx.txs.open_
  obtain ⟨vs, hx1, hx2, hx3⟩ := hx
  have HA := Lib.hid hA
  have Hx1 := Lib.hid (fun (wr : World) (hk : Kp (p :: v0.ownBlock.toList) w wr) => hx1.kpl hk (fun g hg hne => hS g (hx3 g hg (fun e => by
    subst e
    exact hne (List.eq_nil_of_length_eq_zero (by simpa using hx1.1))))))
  have Hx2 := Lib.hid (fun (i : Nat) (hi : i < L.length) => hx2 i hi)
  have HS := Lib.hid hS
  have S0 := Sg.start h
  clear hA hx1 hx2 hx3 hS h
  go_enter Try.func34, Try.ntmps34
  go_wp2
  go_loopw [12] (fun t wr => ∃ (j : Nat) (v : Value), j ≤ L.length ∧ t = .int .i64 j ∧ Sg w wr p v0 v (bs ++ (L.take j).flatten)) (fun t _ => L.length - (intOf t).toNat)
  case atStart => exact ⟨0, v0, by omega, rfl, by simpa using S0⟩
  case round =>
    clear S0
    obtain ⟨j, v, hj, rfl, G⟩ := hrel
    by_cases hlt : j < L.length
    · obtain ⟨ad, rfl⟩ := HA.out (by omega)
      obtain ⟨u, hvu, hru, hub⟩ := Hx2.out j hlt
      obtain ⟨-, _, _, hv, -, -, -, h4⟩ := Hx1.out wr G.kp
      cases hv
      have hcell := h4 ad rfl j u hvu
      have Hu : Hid (∀ W, Kp (p :: v0.ownBlock.toList) w W → Rd W 1 u L[j].length (bv L[j])) := Lib.hid (fun W hk => hru.kpl hk (fun g hg hne => HS.out g (hub g hg (bv_ne hne))))
      obtain ⟨Au, cu, rfl, -, -, hnu, -⟩ := rd_get hru
      have Hfl := Lib.hid (crc_flat_succ L j hlt)
      have hfle : (bs ++ (L.take (j + 1)).flatten).length ≤ 1073741824 := by
        have e : L.flatten = (L.take (j + 1)).flatten ++ (L.drop (j + 1)).flatten := by rw [← List.flatten_append, List.take_append_drop]
        have := congrArg List.length e
        rw [List.length_append] at this
        rw [List.length_append]; omega
      rw [Hfl.out, ← List.append_assoc, List.length_append] at hfle
      have Hnu := Lib.hid hnu
      have Hnext : Hid (bs ++ (L.take (j + 1)).flatten = bs ++ (L.take j).flatten ++ L[j]) := Lib.hid (by rw [Hfl.out, List.append_assoc])
      clear hnu hru hub hvu h4 Hfl
      generalize bs ++ (L.take j).flatten = X at *
      generalize L[j] = l at *
      have hll : l.length ≤ maxLen := by unfold maxLen; omega
      unfold maxLen at hll
      have G' := Lib.hid G
      clear G
      go_wp2
      go_loopw [18] (fun t wr => ∃ (i : Nat) (v : Value), i ≤ l.length ∧ t = .int .i64 i ∧ Sg w wr p v0 v (X ++ l.take i)) (fun t _ => l.length - (intOf t).toNat)
      case atStart => exact ⟨0, v, by omega, rfl, by simpa using G'.out⟩
      case round =>
        clear G'
        obtain ⟨i, v1, hi2, rfl, G⟩ := hrel
        by_cases hil : i < l.length
        · have hru := Hu.out _ G.kp
          obtain ⟨_, _, hv, -, -, hA1, -⟩ := rd_get hru
          cases hv
          obtain ⟨au, rfl⟩ : ∃ a, Au = some a := by
            cases Au with
            | none => have := hA1 rfl; omega
            | some a => exact ⟨a, rfl⟩
          have hlc : l.length ≤ cu := by obtain ⟨_, _, _, hv, h1, _⟩ := hru; cases hv; exact h1
          have Hcut := Lib.hid (hru.cut (a := i) (k := 1) (by omega) (by omega))
          have htk : l.take (i + 1) = l.take i ++ [l[i]] := List.take_succ_eq_append_getElem hil
          have hd1 : (l.drop i).take 1 = [l[i]] := by rw [List.drop_eq_getElem_cons hil]; rfl
          rw [bv_drop, hd1] at Hcut
          have Htk : Hid (X ++ l.take (i + 1) = X ++ l.take i ++ [l[i]]) := Lib.hid (by rw [htk, List.append_assoc])
          have hbl : (X ++ l.take i).length ≤ 1073741824 := by rw [List.length_append, List.length_take]; omega
          generalize l[i] = b at *
          generalize X ++ l.take i = Y at *
          clear hru hA1 htk hd1
          have hc0 := G.sm.1.cell 0
          have hc1 := G.sm.1.cell 1
          simp at hc0 hc1
          have G' := Lib.hid G
          have Hsum := Lib.hid (sum_any p v1 Y Y.length (Nat.le_refl _) hbl wr.drew G.sm)
          rw [List.take_length] at Hsum
          have Hmo : Hid (∀ W, Rd W 1 (.slice (some (au.add i)) 1 (cu - i)) 1 (bv [b]) → Calls Try.prog 16 #[.int .u32 (crc Y), .slice (some (au.add i)) 1 (cu - i)] W fun e w' => e = .returned (.int .u32 (more (crc Y) [b])) ∧ W = w') := Lib.hid (fun W h => more_any (crc Y) (crc_lt Y) _ 1 [b] W h)
          have Hq := Lib.hid (show more (crc Y) [b] = more (crc Y) [b] from rfl)
          have hS9 : (fun W : World => W.cell? ⟨p, 0, none⟩ = some (.int .i64 Y.length) ∧ W.cell? ⟨p, 1, none⟩ = some v1) wr.drew := ⟨hc0, hc1⟩
          clear G
          generalize hm : more (crc Y) [b] = m at Hmo
          have Hm := Lib.hid hm
          clear hm
          generalize crc Y = cy at Hsum Hmo
          go_wp2_with fail
          refine wp_region_lexf [10, 16, 17, 18, 21] [21] (fun W : World => W.cell? ⟨p, 0, none⟩ = some (.int .i64 Y.length) ∧ W.cell? ⟨p, 1, none⟩ = some v1) (by kernel_rfl) (by kernel_rfl) hS9 (fun σ hne f hf hsur => ?_); have Hsur := Lib.hid hsur; clear hsur
          have hfa := fun y => (hf y).1
          have hfb := fun y => (hf y).2
          clear hf
          have k3 : Kp [] wr (wr.drew.alloc (.cells #[.int .u32 (m : Int)] 23)) := ((Kp.refl [] wr).drew).alloc _
          have hS9b : (fun W : World => W.cell? ⟨p, 0, none⟩ = some (.int .i64 Y.length) ∧ W.cell? ⟨p, 1, none⟩ = some v1) (wr.drew.alloc (.cells #[.int .u32 (m : Int)] 23)) := ⟨by have := (G'.out.sm.1.kp k3 (by simp)).cell 0; simpa using this, by have := (G'.out.sm.1.kp k3 (by simp)).cell 1; simpa using this⟩
          have Hmo2 := Lib.hid (Hmo.out wr.drew (show Rd wr.drew 1 (.slice (some (au.add i)) 1 (cu - i)) 1 (bv [b]) from Hcut.out))
          have K3 := Lib.hid k3
          have HS9 := Lib.hid hS9
          have HS9b := Lib.hid hS9b
          have H63 := Lib.hid (show Y.length + 1 ≤ maxLen by unfold maxLen; omega)
          have H47 := Lib.hid (show (Y.length + 1) * 4 ≤ 140737488355328 by omega)
          clear k3 hS9 hS9b
          go_wp2_with (first
            | (refine lex_app rfl rfl (.tmp 25) (.tmp 38) _ rfl 23 i0 _ 1 4 Try.underlying64 hi hz0 hz1 hz2 rfl (by decide) v1 Y.length (smv Y) rfl (ow_kp G'.out.sm.2 K3.out (by simp)) (.slice (some ⟨wr.heap.size, 0, none⟩) 1 1) 1 [.int .u32 (m : Int)] rfl (rd_new _ _ _) (one_bv _ rfl) H63.out H47.out ?_; go_loud (intro v2 w2 o2 g2 a2; obtain ⟨A2, c2, rfl, _, _⟩ := ow_form o2; obtain ⟨St, bl⟩ := G'.out.step rfl Hm.out.symm o2 g2 (by simpa using a2); have St' := Lib.hid St; have hc0 := bl.cell 0; have hc1 := bl.cell 1; simp at hc0 hc1; have hf0 := bl.frozen 0; have hf1 := bl.frozen 1; have hlt2 := bl.lt; have s2 := And.intro hc0 hc1; clear St bl o2 g2 a2))
            | (refine lex_qq Hsur.out rfl rfl rfl ?_; intro K hK; go_big_quiet_op; go_big_quiet_on) | (refine lex_skipk rfl ?_; intro K hK; go_simp; refine hK _ _ ?_; clear hK K) | (refine lex_e rfl rfl ?_; intro K hK; go_step) | (refine lex_nil ?_)
            | (go_at_call 49; ((with_reducible refine Hsum.out.mono ?_); rintro e w1 ⟨rfl, rfl⟩))
            | (go_at_call 16; ((with_reducible refine Hmo2.out.mono ?_); rintro e w1 ⟨rfl, rfl⟩))
            | ((with_reducible apply And.intro); · (intro hl; first | (exact ls_absurd hl rfl) | (exact HS9.out)))
            | ((with_reducible apply And.intro); · (intro hl; first | (exact ls_absurd hl rfl) | (exact HS9b.out)))
            | ((with_reducible apply And.intro); · (intro hl; first | (exact ls_absurd hl rfl) | (exact s2))))
          go_roundw
          case rel => exact ⟨i + 1, _, by omega, by go_num, by rw [Htk.out]; exact St'.out⟩
          case measure => simp [intOf]; omega
        · obtain rfl : i = l.length := by omega
          rw [List.take_length] at G
          have G' := Lib.hid G
          clear G
          go_wp2
          go_roundw
          case rel => exact ⟨j + 1, v1, by omega, by go_num, by rw [Hnext.out]; exact G'.out⟩
          case measure => simp [intOf]; omega
    · obtain rfl : j = L.length := by omega
      rw [List.take_length] at G
      have G' := Lib.hid G
      clear G
      go_wp2
      go_ret
      exact ⟨rfl, v, G'.out⟩
set_option maxHeartbeats 400000 in
theorem new_any (x : Value) (L : List (List UInt8)) (S : List Nat) (w : World) (hx : TxsIn w x L S) (hS : ∀ g, g ∈ S → g < w.heap.size) (hb : L.flatten.length ≤ 1073741824) (hLl : L.length ≤ 1073741824) :
    Calls Try.prog 31 #[x] w fun e w' => ∃ p v, e = .returned (.pointer (some ⟨p, 0, none⟩)) ∧ Sm w' p v L.flatten ∧ Kp [] w w' ∧ w.heap.size ≤ p ∧ ∀ g, v.ownBlock = some g → w.heap.size ≤ g := by
  have k0 : Kp [] w (w.alloc (.cells #[.int .i64 0, .slice none 0 0] 66)) := (Kp.refl [] w).alloc _
  have h0 : Sm (w.alloc (.cells #[.int .i64 0, .slice none 0 0] 66)) w.heap.size (.slice none 0 0) [] := ⟨Blk.new _ _ _, World.ownsRow_nil _ _ _ _⟩
  have H := Lib.hid (append_any w.heap.size (.slice none 0 0) [] x L S _ h0 (hx.kp k0 (by simp)) (fun g hg hm => by
    have := hS g hg
    simp [Value.ownBlock] at hm; omega) (by simpa using hb) hLl)
  obtain ⟨A, c, rfl, -, -⟩ := hx.txs.open_
  clear hx h0
  go_enter Try.func31, Try.ntmps31
  go_wp2_with (go_at_call 34; refine H.out.mono ?_; rintro e w1 ⟨rfl, v, G⟩)
  go_ret
  refine ⟨w.heap.size, v, rfl, by simpa using G.sm, k0.trans G.kp (fun g hg => .inr (by simp [Value.ownBlock] at hg; omega)), Nat.le_refl _, fun g hg => ?_⟩
  rcases G.at_ with e | ⟨g', e, hlt⟩
  · rw [e] at hg; simp [Value.ownBlock] at hg
  · rw [e] at hg; cases hg; simp at hlt; omega
end
/- Walks of the law's helpers for layer 2: works. -/
section
open Go.RowKit

set_option maxHeartbeats 400000 in
theorem all_any (p : Option Addr) (n : Int) (w : World) : Calls Try.prog 32 #[.pointer p, .int .i64 n] w fun e w' => e = .returned (.func (.func 48) #[] #[.pointer (some ⟨w.heap.size, 0, none⟩), .pointer (some ⟨w.heap.size + 1, 0, none⟩)]) ∧
    w' = (w.alloc (.cells #[.pointer p] 47)).alloc (.cells #[.int .i64 n] 3) := by
  go_enter Try.func32, Try.ntmps32
  go_wp2
  go_ret
  exact ⟨rfl, rfl⟩
theorem eq_func_nil (w : World) (f : Fn) (xs ys : Array Value) : (binOp .eql 54 (.func f xs ys) .nilFunc).run Try.prog w = .ok (.bool false) w := by kernel_rfl
theorem Sum_nine (v : Value) (w : World) (h : Txs w v [[49, 50, 51, 52, 53, 54, 55, 56, 57]]) : Calls Try.prog 14 #[v] w fun e w' => e = .returned (.int .u32 3808858755) ∧ w = w' := by
  have := Sum_any v _ w h (by decide)
  rwa [show crc [[49, 50, 51, 52, 53, 54, 55, 56, 57]].flatten = 3808858755 from by decide +kernel] at this
theorem Sum_four (v : Value) (w : World) (h : Txs w v [[49, 50, 51, 52]]) : Calls Try.prog 14 #[v] w fun e w' => e = .returned (.int .u32 4131058926) ∧ w = w' := by
  have := Sum_any v _ w h (by decide)
  rwa [show crc [[49, 50, 51, 52]].flatten = 4131058926 from by decide +kernel] at this
theorem More_five (v : Value) (w : World) (h : Rd w 1 v 5 (bv [53, 54, 55, 56, 57])) : Calls Try.prog 16 #[.int .u32 4131058926, v] w fun e w' => e = .returned (.int .u32 3808858755) ∧ w = w' := by
  have := more_any 4131058926 (by decide) v 5 _ w h
  rwa [show more 4131058926 [53, 54, 55, 56, 57] = 3808858755 from by decide +kernel] at this
theorem Mask_five (w : World) : Calls Try.prog 24 #[.int .u32 5] w fun e w' => e = .returned (.int .u32 2727144152) ∧ w = w' := by
  have := Mask_any 5 (by decide) w
  rwa [show mask 5 = 2727144152 from by decide +kernel] at this
theorem Unmask_five (w : World) : Calls Try.prog 26 #[.int .u32 2727144152] w fun e w' => e = .returned (.int .u32 5) ∧ w = w' := by
  have := Unmask_any 2727144152 (by decide) w
  rwa [show unmask 2727144152 = 5 from by decide +kernel] at this
theorem Carry_one (w : World) : Calls Try.prog 19 #[.int .u32 1, .int .i64 1] w fun e w' => e = .returned (.int .u32 4067132163) ∧ Kp [] w w' := by
  have := carry_any 1 (by decide) 1 (by decide) w
  rwa [show carry 1 (1 : Int).toNat = 4067132163 from by decide +kernel] at this
theorem Range_nine (p : Nat) (v : Value) (w : World) (h : Sm w p v [49, 50, 51, 52, 53, 54, 55, 56, 57]) : Calls Try.prog 36 #[.pointer (some ⟨p, 0, none⟩), .int .i64 0, .int .i64 9] w fun e w' => e = .returned (.tuple #[.int .u32 3808858755, .bool true]) ∧ Kp [] w w' := by
  have := s_range p v _ 0 9 (by decide) (by decide) (by decide) w h
  rwa [show crc ((([49, 50, 51, 52, 53, 54, 55, 56, 57] : List UInt8).drop 0).take (9 - 0)) = 3808858755 from by decide +kernel] at this
/-- The row of a constant: marked behind its end. -/
theorem rd_mark (w : World) (e : TypeId) (cs : Array Value) (l : List UInt8) (fr : Nat × Nat) (h : cs.toList = bv l) (hn : l.length ≤ 4096) {g : Nat} (hg : g = w.heap.size) : Rd (w.alloc (.cells cs e fr)) 1 (.slice (some ⟨g, 0, none⟩) l.length l.length) l.length (bv l) := by
  subst hg
  refine ⟨by rw [bv_length]; omega, _, _, rfl, Nat.le_refl _, by unfold maxLen; omega, (fun h => by cases h), fun ad had j u hu => ?_⟩
  cases had
  have h1 := World.cell?_alloc_mark w cs e fr j
  rw [← h, Array.getElem?_toList] at hu
  rw [hu] at h1
  by_cases hj : j = 0
  · subst hj; simpa [Addr.add] using h1
  · simpa [Addr.add, hj] using h1
/-- '[]byte("..")' of a constant. -/
theorem conv_const (w : World) (C : Array Value) (n c g : Nat) (hg : g = w.heap.size) : (convert 22 22 (.slice (some ⟨g, 0, none⟩) n c)).run Try.prog (w.alloc (.cells C 5)) = .ok (.slice (some ⟨g, 0, none⟩) n c) (w.alloc (.cells C 5 (C.size, C.size + 1))) := by
  subst hg
  exact Lib.run_convert_bytes_const (P := Try.prog) w 22 5 C n c Try.underlying22 Try.underlying5
abbrev c4 : Array Value := #[.int .u8 49, .int .u8 50, .int .u8 51, .int .u8 52]
abbrev c5 : Array Value := #[.int .u8 53, .int .u8 54, .int .u8 55, .int .u8 56, .int .u8 57]
abbrev c9 : Array Value := #[.int .u8 49, .int .u8 50, .int .u8 51, .int .u8 52, .int .u8 53, .int .u8 54, .int .u8 55, .int .u8 56, .int .u8 57]
theorem rdm4 {w : World} {g : Nat} (hg : g = w.heap.size) : Rd (w.alloc (.cells c4 5 (4, 5))) 1 (.slice (some ⟨g, 0, none⟩) 4 4) 4 (bv [49, 50, 51, 52]) := rd_mark w _ _ [49, 50, 51, 52] _ rfl (by decide) hg
theorem rdm5 {w : World} {g : Nat} (hg : g = w.heap.size) : Rd (w.alloc (.cells c5 5 (5, 6))) 1 (.slice (some ⟨g, 0, none⟩) 5 5) 5 (bv [53, 54, 55, 56, 57]) := rd_mark w _ _ [53, 54, 55, 56, 57] _ rfl (by decide) hg
theorem rdm9 {w : World} {g : Nat} (hg : g = w.heap.size) : Rd (w.alloc (.cells c9 5 (9, 10))) 1 (.slice (some ⟨g, 0, none⟩) 9 9) 9 (bv [49, 50, 51, 52, 53, 54, 55, 56, 57]) := rd_mark w _ _ [49, 50, 51, 52, 53, 54, 55, 56, 57] _ rfl (by decide) hg
set_option maxRecDepth 100000 in
set_option maxHeartbeats 2000000 in
theorem works_true (w : World) : Calls Try.prog 12 #[] w fun e w' => e = .returned (.bool true) ∧ Kp [] w w' := by
  have kc := conv_const
  have kf := eq_func_nil
  have r4 : Rd (w.alloc (.cells c4 5 (4, 5))) 1 (.slice (some ⟨w.heap.size, 0, none⟩) 4 4) 4 (bv [49, 50, 51, 52]) := rd_mark w _ _ [49, 50, 51, 52] _ rfl (by decide) rfl
  have r5 : Rd ((w.alloc (.cells c4 5 (4, 5))).alloc (.cells c5 5 (5, 6))) 1 (.slice (some ⟨w.heap.size + 1, 0, none⟩) 5 5) 5 (bv [53, 54, 55, 56, 57]) := rd_mark _ _ _ [53, 54, 55, 56, 57] _ rfl (by decide) (by simp)
  have t2 := txsIn2 22 (r4.alloc (.cells c5 5 (5, 6))) r5
  rw [show ((w.alloc (.cells c4 5 (4, 5))).alloc (.cells c5 5 (5, 6))).heap.size = w.heap.size + 1 + 1 from by simp] at t2
  have HN := Lib.hid (new_any _ _ _ _ t2 (fun g hg => by
    simp only [fpB, Value.ownBlock] at hg
    simp at hg ⊢
    omega) (by decide) (by decide))
  have k0 : Kp [] w ((((w.alloc (.cells c4 5 (4, 5))).alloc (.cells c5 5 (5, 6)))).alloc (.cells #[.slice (some ⟨w.heap.size, 0, none⟩) 4 4, .slice (some ⟨w.heap.size + 1, 0, none⟩) 5 5] 22)) := (((Kp.refl [] w).alloc _).alloc _).alloc _
  have K0 := Lib.hid k0
  clear r4 r5 t2 k0
  go_enter Try.func12, Try.ntmps12
  go_wp2_with fail
  refine HN.out.mono ?_
  rintro e w1 ⟨p, v, rfl, hs, k1, -, -⟩
  have Hs := Lib.hid (show Sm w1 p v [49, 50, 51, 52, 53, 54, 55, 56, 57] from hs)
  have K1 := Lib.hid (K0.out.trans k1 (by simp))
  clear hs k1 HN K0
  go_wp2_with (first
    | (go_at_call 32; ((with_reducible refine (all_any (some ⟨p, 0, none⟩) 4 w1).mono ?_); rintro e w' ⟨rfl, rfl⟩))
    | (go_at_call 36; ((with_reducible refine (Range_nine p v _ ((Hs.out.kp0 ((Kp.refl [] w1).alloc _)).kp0 ((Kp.refl [] _).alloc _))).mono ?_); rintro e w3 ⟨rfl, k3⟩)))
  go_wp2_with (first
    | (go_at_call 14; ((with_reducible refine (Sum_nine _ _ (txs1 22 (by simp) (rdm9 rfl))).mono ?_); rintro e w' ⟨rfl, rfl⟩))
    | (go_at_call 14; ((with_reducible refine (Sum_four _ _ (txs1 22 (by simp) (rdm4 (by simp)))).mono ?_); rintro e w' ⟨rfl, rfl⟩))
    | (go_at_call 16; ((with_reducible refine (More_five _ _ (rdm5 (by simp))).mono ?_); rintro e w' ⟨rfl, rfl⟩))
    | (go_at_call 24; ((with_reducible refine (Mask_five _).mono ?_); rintro e w' ⟨rfl, rfl⟩))
    | (go_at_call 26; ((with_reducible refine (Unmask_five _).mono ?_); rintro e w' ⟨rfl, rfl⟩))
    | (go_at_call 19; ((with_reducible refine (Carry_one _).mono ?_); rintro e w5 ⟨rfl, k5⟩)))
  go_ret
  refine ⟨rfl, Kp.trans (S := []) ?_ k5 (by simp)⟩
  repeat (refine Kp.alloc ?_ _)
  exact ((K1.out.alloc _).alloc _).trans k3 (by simp)
end
/- Walks of the law's helpers for layer 2: lent, kept, long. -/
section
open Go.RowKit

set_option maxRecDepth 100000 in
set_option maxHeartbeats 800000 in
theorem clent_any (x : Value) (bs : List UInt8) (n : Nat) (w : World) (hx : Rd w 1 x n (bv bs)) (hn : n + 2 ≤ 140737488355328) :
    Calls Try.prog 13 #[x] w fun e w' => ∃ g c, e = .returned (.slice (some ⟨g, 0, none⟩) n c) ∧ Ow w' 5 1 (.slice (some ⟨g, 0, none⟩) (n + 2) c) (n + 2) (bv (bs ++ [165, 90])) ∧ Kp [] w w' ∧ w.heap.size ≤ g := by
  obtain ⟨i0, hi, hz0, hz1, hz2⟩ := info_parts Try.infoU8
  obtain ⟨A, c, rfl⟩ := rd_form hx
  have hl : bs.length = n := by have := hx.1; rw [bv_length] at this; omega
  have k0 : Kp [] w (w.alloc (.cells #[] 5)) := (Kp.refl [] w).alloc _
  have H0 := Lib.hid (ow_new w 5 1 0 #[] rfl (by decide))
  have Hx := Lib.hid (rd_old hx k0)
  have K0 := Lib.hid k0
  have Hl := Lib.hid hl
  clear hx k0 hl
  go_enter Try.func13, Try.ntmps13
  go_wp2_with (at_builtin; refine wpList_app _ rfl (.tmp 3) (.tmp 4) _ rfl 5 i0 _ 1 1 Try.underlying22 hi hz0 hz1 hz2 rfl (by decide) _ 0 [] rfl H0.out (.slice A n c) n (bv bs) rfl Hx.out (bv_one _) (by unfold maxLen; omega) (by omega) ?_)
  intro v1 w1 hown1 hg1 hat1
  have k1 := K0.out.grown hg1 (fun g hg => .inr (by simp [Value.ownBlock] at hg; omega))
  have hown1 : Ow w1 5 1 v1 n (bv bs) := by simpa using hown1
  have hv1 : ∀ g, v1.ownBlock = some g → w.heap.size ≤ g := fun g hg => by
    rcases hat1 with e | e
    · rw [e] at hg; simp [Value.ownBlock] at hg; omega
    · rw [e] at hg; simp at hg; omega
  have H1 := Lib.hid hown1
  have K1 := Lib.hid k1
  have Hv := Lib.hid hv1
  clear hown1 hg1 hat1 k1 hv1
  have H2 := Lib.hid (rd_lit w1 5 #[.int .u8 165, .int .u8 90] [165, 90] rfl (by decide))
  go_wp2_with (at_builtin; refine wpList_app _ rfl (.tmp 5) (.tmp 6) _ rfl 5 i0 _ 1 1 Try.underlying22 hi hz0 hz1 hz2 rfl (by decide) _ n (bv bs) rfl (ow_kp H1.out ((Kp.refl [] w1).alloc _) (by simp)) (.slice (some ⟨w1.heap.size, 0, none⟩) 2 2) 2 (bv [165, 90]) rfl H2.out (bv_one _) (by unfold maxLen; omega) (by omega) ?_)
  intro v2 w2 hown2 hg2 hat2
  rw [← bv_append] at hown2
  obtain ⟨g, c2, rfl, hc1, hc2⟩ := ow_some hown2 (by omega)
  have K2 := Lib.hid ((K1.out.alloc _).grown hg2 (fun g' hg' => .inr (Hv.out g' hg')))
  have H3 := Lib.hid hown2
  have hge : w.heap.size ≤ g := by
    rcases hat2 with e | e
    · exact Hv.out g (by rw [← e]; rfl)
    · simp [Value.ownBlock] at e; have := K1.out.size; omega
  clear hown2 hg2 hat2
  go_wp2
  go_ret
  exact ⟨g, c2, rfl, H3.out, K2.out, hge⟩

/-- The shorter slice of a longer row. -/
theorem rd_ow_take {w : World} {e : TypeId} {g c n m : Nat} {bs cs : List UInt8} (h : Ow w e 1 (.slice (some ⟨g, 0, none⟩) m c) m (bv (bs ++ cs))) (hl : bs.length = n) (hm : n ≤ m) : Rd w 1 (.slice (some ⟨g, 0, none⟩) n c) n (bv bs) := by
  obtain ⟨h1, A, c', hv, h2, h3, h4, h5⟩ := Rd.of_own h
  cases hv
  refine ⟨by rw [bv_length]; omega, _, _, rfl, by omega, h3, (fun h => by cases h), fun ad had j u hu => ?_⟩
  refine h5 ad had j u ?_
  have hj : j < (bv bs).length := (List.getElem?_eq_some_iff.1 hu).1
  rw [bv_append, List.getElem?_append_left hj]
  exact hu
set_option maxRecDepth 100000 in
set_option maxHeartbeats 800000 in
theorem ckept_any (g c n : Nat) (y : Value) (bs : List UInt8) (w : World) (hm : Ow w 5 1 (.slice (some ⟨g, 0, none⟩) (n + 2) c) (n + 2) (bv (bs ++ [165, 90]))) (hy : Rd w 1 y n (bv bs)) (hn : n + 2 ≤ 140737488355328) :
    Calls Try.prog 18 #[.slice (some ⟨g, 0, none⟩) n c, y] w fun e w' => e = .returned (.bool true) ∧ w = w' := by
  have hl : bs.length = n := by have := hy.1; rw [bv_length] at this; omega
  obtain ⟨Ay, cy, rfl⟩ := rd_form hy
  obtain ⟨_, _, hv, hc1, hc2⟩ := ow_form hm
  cases hv
  have hs1 := strB (rd_ow_take hm hl (by omega))
  have hs2 := strB hy
  have hc3 := hm.cellAt n (by omega)
  have hc4 := hm.cellAt (n + 1) (by omega)
  rw [bv_get, List.getElem?_append_right (by omega)] at hc3 hc4
  rw [hl, Nat.sub_self] at hc3
  rw [hl, show n + 1 - n = 1 by omega] at hc4
  have Hm := Lib.hid hm
  have Hy := Lib.hid hy
  have Hl := Lib.hid hl
  clear hm hy hl
  unfold maxLen at hc2
  simp at hc3 hc4
  go_enter Try.func18, Try.ntmps18
  go_wp2
  go_ret
  exact ⟨rfl, rfl⟩
end
/- A region that draws its order, operation by operation: what each leaves in its slot is told by a property that new memory does not disturb; each operation is walked once, from the properties of those that it waits for; whatever order is picked, all properties hold at the end. For regions that only read, make memory, and call what turns nothing old. -/
section

section
variable {P : Program} {ops : Array Oper} {Q : Exit → Act → World → Prop}

/-- The frame with the values put, from number k on. -/
def putAll (vs : Nat → Value) : List Oper → Nat → Act → Act
  | [], _, a => a
  | o :: l, k, a => putAll vs l (k + 1) (a.put o.dst (vs k))
def upd (vs : Nat → Value) (i : Nat) (v : Value) : Nat → Value := fun k => if k = i then v else vs k
/-- No two write one slot. -/
def apartB : List Oper → Bool
  | [] => true
  | o :: l => (match o.dst with | none => true | some d => l.all fun x => x.dst != some d) && apartB l
theorem putAll_late (vs : Nat → Value) (i : Nat) (v : Value) : ∀ (l : List Oper) (k : Nat) (a : Act), i < k → putAll (upd vs i v) l k a = putAll vs l k a
  | [], _, _, _ => rfl
  | o :: l, k, a, h => by
    show putAll (upd vs i v) l (k + 1) (a.put o.dst (upd vs i v k)) = putAll vs l (k + 1) (a.put o.dst (vs k))
    rw [putAll_late vs i v l (k + 1) _ (by omega)]
    congr 2
    simp [upd, show k ≠ i by omega]
theorem putAll_put (vs : Nat → Value) (x : Option Tmp) (v : Value) : ∀ (l : List Oper) (k : Nat) (a : Act), (∀ d, x = some d → ∀ o ∈ l, o.dst ≠ some d) → (putAll vs l k a).put x v = putAll vs l k (a.put x v)
  | [], _, _, _ => rfl
  | o :: l, k, a, h => by
    show (putAll vs l (k + 1) (a.put o.dst (vs k))).put x v = putAll vs l (k + 1) ((a.put x v).put o.dst (vs k))
    rw [putAll_put vs x v l (k + 1) _ (fun d hd o ho => h d hd o (List.mem_cons_of_mem _ ho)), Act.put_comm a (x := o.dst) (y := x) (vs k) v]
    intro d hd hx
    exact h d hx o (by simp) hd
theorem put_put (a : Act) (x : Option Tmp) (v u : Value) : (a.put x v).put x u = a.put x u := by
  cases x with
  | none => rfl
  | some d => simp [Act.put]
theorem putAll_upd (vs : Nat → Value) (i : Nat) (v : Value) : ∀ (l : List Oper) (k : Nat) (a : Act) (o : Oper), apartB l = true → k ≤ i → l[i - k]? = some o → (putAll vs l k a).put o.dst v = putAll (upd vs i v) l k a
  | [], _, _, _, _, _, h => by simp at h
  | x :: l, k, a, o, hB, hk, h => by
    simp only [apartB, Bool.and_eq_true] at hB
    by_cases e : k = i
    · subst e
      rw [Nat.sub_self] at h
      obtain rfl : x = o := by simpa using h
      show (putAll vs l (k + 1) (a.put x.dst (vs k))).put x.dst v = putAll (upd vs k v) l (k + 1) (a.put x.dst (upd vs k v k))
      rw [putAll_late vs k v l (k + 1) _ (by omega), putAll_put vs x.dst v l (k + 1) _ ?_, put_put]
      · simp [upd]
      · intro d hd o ho hod
        have h1 := hB.1
        rw [hd] at h1
        have := (List.all_eq_true.1 h1) o ho
        rw [hod] at this
        simp at this
    · have e2 : i - k = (i - (k + 1)) + 1 := by omega
      rw [e2, List.getElem?_cons_succ] at h
      show (putAll vs l (k + 1) (a.put x.dst (vs k))).put o.dst v = putAll (upd vs i v) l (k + 1) (a.put x.dst (upd vs i v k))
      rw [putAll_upd vs i v l (k + 1) _ o hB.2 (by omega) h]
      congr 2
      simp [upd, e]
def slotOf (a : Act) : Option Tmp → Value
  | none => undef
  | some d => a.tmps.getD d undef
def at0 (a : Act) (l : List Oper) : Nat → Value := fun k => match l[k]? with | none => undef | some o => slotOf a o.dst
theorem put_slot (a : Act) (x : Option Tmp) : a.put x (slotOf a x) = a := by
  cases x with
  | none => rfl
  | some d =>
    have : a.tmps.setIfInBounds d (a.tmps.getD d undef) = a.tmps := by
      apply Array.ext_getElem?
      intro i
      rw [Array.getElem?_setIfInBounds]
      split
      · rename_i h; subst h
        by_cases hl : d < a.tmps.size
        · simp [hl]
        · simp [hl]
      · rfl
    simp only [Act.put, slotOf]
    first | rw [this] | (simp only [this])
theorem putAll_at (a : Act) : ∀ (l : List Oper) (k : Nat) (vs : Nat → Value), (∀ j o, l[j]? = some o → vs (k + j) = slotOf a o.dst) → putAll vs l k a = a
  | [], _, _, _ => rfl
  | o :: l, k, vs, h => by
    have h0 := h 0 o rfl
    show putAll vs l (k + 1) (a.put o.dst (vs k)) = a
    rw [Nat.add_zero] at h0
    rw [h0, put_slot]
    exact putAll_at a l (k + 1) vs (fun j x hx => by rw [show k + 1 + j = k + (j + 1) from by omega]; exact h (j + 1) x (by simpa using hx))

/-- Each waits for earlier ones alone, and has no guard. -/
def earlierB : List Oper → Nat → Bool
  | [], _ => true
  | o :: l, k => (o.after.all fun e => !Region.binds .any e || decide (e.on < k)) && o.guard.isNone && earlierB l (k + 1)
theorem earlierB_spec : ∀ (l : List Oper) (k i : Nat) (o : Oper), earlierB l k = true → l[i]? = some o → (∀ e ∈ o.after, Region.binds .any e = true → e.on < k + i) ∧ o.guard = none
  | [], _, _, _, _, h => by simp at h
  | x :: l, k, i, o, hB, h => by
    simp only [earlierB, Bool.and_eq_true] at hB
    rcases i with _ | i
    · obtain rfl : x = o := by simpa using h
      refine ⟨fun e he hb => ?_, by simpa using hB.1.2⟩
      have := (Array.all_eq_true_iff_forall_mem.1 hB.1.1) e he
      simpa [hb] using this
    · have := earlierB_spec l (k + 1) i o hB.2 (by simpa using h)
      exact ⟨fun e he hb => by have := this.1 e he hb; omega, this.2⟩

/-- What is to be shown of each operation. -/
def InvStep (P : Program) (Q : Exit → Act → World → Prop) (PV : Nat → Value → World → Prop) (W0 : World) (fr : (Nat → Value) → Act) (o : Oper) (i : Nat) : Prop :=
  ∀ (vs : Nat → Value) (A : Act) (W : World), fr vs = A → Kp [] W0 W → (∀ j, waitsB .any o j = true → PV j (vs j) W) →
    ∀ K : Act → World → Prop, (∀ v W', Kp [] W W' → PV i v W' → K (A.put o.dst v) W') → o.wp P A W K (Qn Q)
def InvSteps (P : Program) (Q : Exit → Act → World → Prop) (PV : Nat → Value → World → Prop) (W0 : World) (fr : (Nat → Value) → Act) : List Oper → Nat → Prop
  | [], _ => True
  | o :: l, i => InvStep P Q PV W0 fr o i ∧ InvSteps P Q PV W0 fr l (i + 1)
theorem InvSteps.at_ {PV : Nat → Value → World → Prop} {W0 : World} {fr : (Nat → Value) → Act} : ∀ {l : List Oper} {k : Nat}, InvSteps P Q PV W0 fr l k → ∀ {i o}, l[i]? = some o → InvStep P Q PV W0 fr o (k + i)
  | [], _, _, _, _, h => by simp at h
  | x :: l, k, hs, i, o, h => by
    rcases i with _ | i
    · obtain rfl : x = o := by simpa using h
      exact hs.1
    · have := hs.2.at_ (i := i) (o := o) (by simpa using h)
      rwa [show k + 1 + i = k + (i + 1) from by omega] at this

theorem inv_any {PV : Nat → Value → World → Prop} {W0 : World} {a0 : Act} {l : List Oper} (hst : ∀ i v W W', PV i v W → Kp [] W W' → PV i v W') (hap : apartB l = true) (hea : earlierB l 0 = true)
    (hs : InvSteps P Q PV W0 (fun vs => putAll vs l 0 a0) l 0)
    (hend : ∀ vs W, Kp [] W0 W → (∀ i, i < l.length → PV i (vs i) W) → Q .normal (putAll vs l 0 a0) W) :
    ∀ (fuel : Nat) (listed : Array Bool) (vs : Nat → Value) (W : World), listed.size = l.length → (listed.toList.filter (fun b => !b)).length = fuel → Kp [] W0 W → (∀ i, listed.getD i false = true → PV i (vs i) W) →
      wpAny P .any l.toArray Q fuel listed (putAll vs l 0 a0) W := by
  have all_of : ∀ (listed : Array Bool), listed.size = l.length → Region.ready .any l.toArray listed = [] → ∀ i, i < l.length → listed.getD i false = true := by
    intro listed hsz hr i
    induction i using Nat.strongRecOn with
    | _ i ih =>
      intro hi
      cases hl : listed.getD i false with
      | true => rfl
      | false =>
        exfalso
        have hlt : i < listed.size := by omega
        have hmem : i ∈ Region.ready .any l.toArray listed := mem_ready.2 ⟨by simp [hlt] at hl ⊢; exact hl, l[i], by simp [hi], fun e he hb => by
          have := (earlierB_spec l 0 i l[i] hea (by simp [hi])).1 e he hb
          exact ih e.on (by omega) (by omega)⟩
        rw [hr] at hmem; cases hmem
  have hnil : ∀ (listed : Array Bool) vs W, listed.size = l.length → Kp [] W0 W → (∀ i, listed.getD i false = true → PV i (vs i) W) → Region.ready .any l.toArray listed = [] → Q .normal (putAll vs l 0 a0) W :=
    fun listed vs W hsz hk hp hr => hend vs W hk (fun i hi => hp i (all_of listed hsz hr i hi))
  intro fuel
  induction fuel with
  | zero =>
    intro listed vs W hsz hf hk hp
    have hr : Region.ready .any l.toArray listed = [] := by
      refine List.eq_nil_iff_forall_not_mem.2 fun i hi => ?_
      have h0 := (mem_ready.1 hi).1
      obtain ⟨_, o, ho, _⟩ := mem_ready.1 hi
      have hlt : i < listed.size := by
        have := (Array.getElem?_eq_some_iff.1 ho).1
        simp at this; omega
      have : listed[i] ∈ listed.toList.filter (fun b => !b) := by
        rw [List.mem_filter]
        simp [hlt] at h0
        refine ⟨by simp, by simp [h0]⟩
      rw [List.eq_nil_of_length_eq_zero hf] at this
      cases this
    exact ⟨hr, hnil listed vs W hsz hk hp hr⟩
  | succ fuel ih =>
    intro listed vs W hsz hf hk hp
    refine ⟨hnil listed vs W hsz hk hp, fun i hi => ?_⟩
    obtain ⟨h0, o, ho, hall⟩ := mem_ready.1 hi
    have hol : l[i]? = some o := by simpa using ho
    have hlt : i < listed.size := by
      have := (List.getElem?_eq_some_iff.1 hol).1
      omega
    have hgd := (earlierB_spec l 0 i o hea hol).2
    refine wpOp_n ?_
    unfold wpOp
    simp only [ho]
    rw [if_pos (by simp [Region.wanted, hgd])]
    refine .inl ?_
    have hstep := hs.at_ hol
    rw [Nat.zero_add] at hstep
    refine hstep vs _ W rfl hk (fun j hj => by obtain ⟨e, he, hb, rfl⟩ := waitsB_spec hj; exact hp e.on (hall e he hb)) _ fun v W' hk' hv => ?_
    rw [putAll_upd vs i v l 0 a0 o hap (Nat.zero_le _) (by simpa using hol)]
    refine ih _ _ W' (by simpa using hsz) ?_ (hk.trans hk' (by simp)) (fun j hj => ?_)
    · simp [hlt] at h0
      have h1 : listed.toList = listed.toList.take i ++ false :: listed.toList.drop (i + 1) := by
        rw [← h0]
        have := List.take_append_drop i listed.toList
        rw [List.drop_eq_getElem_cons (by simpa using hlt)] at this
        simpa using this.symm
      have h2 : (listed.setIfInBounds i true).toList = listed.toList.take i ++ true :: listed.toList.drop (i + 1) := by
        rw [Array.toList_setIfInBounds]
        conv => lhs; rw [h1]
        rw [List.set_append_right _ _ (by simp; omega)]
        simp [Nat.min_eq_left (Nat.le_of_lt hlt)]
      rw [h1] at hf
      rw [h2]
      simp only [List.filter_append, List.filter_cons, List.length_append] at hf ⊢
      simp at hf ⊢
      omega
    · by_cases e : i = j
      · subst e; simpa [upd] using hv
      · rw [getD_set_ne false e] at hj
        simp only [upd, show j ≠ i from fun h => e h.symm, if_false]
        exact hst j _ W W' (hp j hj) hk'

/-- The region's rule. -/
theorem wp_region_inv {id : Nat} {a : Act} {w : World} {l : List Oper} (PV : Nat → Value → World → Prop) (hm : P.follows .mixedOrders = true) (hap : apartB l = true) (hea : earlierB l 0 = true)
    (hst : ∀ i v W W', PV i v W → Kp [] W W' → PV i v W')
    (hs : InvSteps P Q PV w.drew (fun vs => putAll vs l 0 a) l 0)
    (hend : ∀ vs W, Kp [] w.drew W → (∀ i, i < l.length → PV i (vs i) W) → Q .normal (putAll vs l 0 a) W) : (Code.region id l.toArray true).wp P Q a w := by
  refine wp_region_any hm ?_
  have h := inv_any (P := P) (Q := Q) hst hap hea hs hend l.length (Array.replicate l.length false) (at0 a l) w.drew (by simp) (by simp) (Kp.refl _ _) (fun i hi => by
    simp [Array.getElem?_replicate] at hi
    split at hi <;> simp at hi)
  rw [putAll_at a l 0 (at0 a l) (fun j o ho => by simp [at0, ho])] at h
  simpa using h
/-- What a slot holds behind all. -/
def evA (vs : Nat → Value) : List Oper → Nat → Nat → Option Value
  | [], _, _ => none
  | o :: l, k, d => if o.dst = some d then some (vs k) else evA vs l (k + 1) d
theorem put_size (a : Act) (x : Option Tmp) (v : Value) : (a.put x v).tmps.size = a.tmps.size := by cases x <;> simp [Act.put]
theorem putAll_eval (vs : Nat → Value) : ∀ (l : List Oper) (k : Nat) (a : Act) (d : Nat), d < a.tmps.size → apartB l = true → (putAll vs l k a).eval (.tmp d) = (evA vs l k d).getD (a.eval (.tmp d))
  | [], _, _, _, _, _ => rfl
  | o :: l, k, a, d, hd, hB => by
    show (putAll vs l (k + 1) (a.put o.dst (vs k))).eval (.tmp d) = _
    simp only [apartB, Bool.and_eq_true] at hB
    rw [putAll_eval vs l (k + 1) _ d (by rw [put_size]; exact hd) hB.2]
    rw [show evA vs (o :: l) k d = (if o.dst = some d then some (vs k) else evA vs l (k + 1) d) from rfl]
    by_cases e : o.dst = some d
    · rw [if_pos e]
      have hn : evA vs l (k + 1) d = none := by
        have h1 := hB.1
        rw [e] at h1
        have : ∀ (l : List Oper) (k : Nat), (∀ x ∈ l, x.dst ≠ some d) → evA vs l k d = none := by
          intro l
          induction l with
          | nil => intro _ _; rfl
          | cons x l ih =>
            intro k h
            unfold evA
            rw [if_neg (h x (by simp))]
            exact ih (k + 1) (fun y hy => h y (by simp [hy]))
        refine this l (k + 1) fun x hx hxd => ?_
        have := (List.all_eq_true.1 h1) x hx
        rw [hxd] at this
        simp at this
      rw [hn, e]
      simp [Act.put, Act.eval, hd]
    · rw [if_neg e]
      congr 1
      cases ho : o.dst with
      | none => rfl
      | some d' =>
        have hne : d' ≠ d := fun h => e (by rw [ho, h])
        simp [Act.put, Act.eval, Array.getElem?_setIfInBounds_ne hne]
theorem eval_of {vs : Nat → Value} {l : List Oper} {a A : Act} {d : Nat} {X : Value} (hA : (fun vs => putAll vs l 0 a) vs = A) (hB : apartB l = true) (hd : d < a.tmps.size) (h : (evA vs l 0 d).getD (a.eval (.tmp d)) = X) : A.eval (.tmp d) = X := by
  subst hA
  show (putAll vs l 0 a).eval _ = X
  rw [putAll_eval vs l 0 a d hd hB, h]
/-- A slot, as the walk's steps spell it. -/
theorem slot_is {vs : Nat → Value} {l : List Oper} {a A : Act} {d : Nat} {X : Value} (hA : (fun vs => putAll vs l 0 a) vs = A) (hB : apartB l = true) (hd : d < a.tmps.size) (h : (evA vs l 0 d).getD (a.eval (.tmp d)) = X) : A.tmps[d]?.getD undef = X := by
  have := eval_of hA hB hd h
  simpa [Act.eval] using this
end
end
/- Walking inside a round: a region's walk outside serves inside; one law for 'for .. range f', whose round is told what holds of what it is handed. -/
section
open Go.RowKit Go.Shelf

section bridge
variable {P : Program} {ops : Array Oper} {Q : Exit → Act → World → Prop} {n rl : Nat}
def plainB (l : List Oper) : Bool := l.all fun o => match o.op with | .defer _ => false | _ => true
theorem plainB_spec {l : List Oper} (h : plainB l = true) {o : Oper} (ho : o ∈ l) : ∀ c, o.op ≠ .defer c := by
  intro c hc
  have := List.all_eq_true.1 h o ho
  rw [hc] at this
  cases this
theorem oper_in {o : Oper} {a : Act} {w : World} {K : Act → World → Prop} (hd : ∀ c, o.op ≠ .defer c) (_hQ : ¬ LetsOut Q) (h : o.wp P a w K Q) : o.wpIn (Fence.wide.inRound rl) n P a w K Q := by
  refine ⟨fun _ _ => trivial, ?_⟩
  rw [Fence.inRound_round, Oper.semAt_some rl a.eval o hd]
  unfold Oper.wp at h
  generalize (execOp a.eval o).run P w = r at *
  have hn : (Fence.wide.inRound rl).depth.isSome = true → 1 ≤ n := fun h => by simp [Fence.wide] at h
  cases r with
  | ok nx w' =>
    cases nx with
    | value v => exact h
    | skip => exact h
    | defer d => exact h
    | enter f args => exact ⟨hn, CallsIn.inRound rl (callsIn_wide.2 h)⟩
    | row r args =>
      refine ⟨hn, fun c cs _ => ?_⟩
      obtain ⟨v, w2, h1, h2⟩ := h c cs
      exact ⟨v, w2, h1, stepsIn_wide.2 h2⟩
    | _ => exact h.elim
  | halt x w' => cases x <;> exact h
theorem not_lets (Q : Exit → Act → World → Prop) : ¬ LetsOut (Qn Q) := fun ⟨_, _, h⟩ => by cases h.1
theorem op_in {l : List Oper} (hp : plainB l = true) {i : Nat} {a : Act} {w : World} {K : Act → World → Prop} (h : wpOp P l.toArray (Qn Q) i K a w) : wpOpIn (Fence.wide.inRound rl) n P l.toArray Q i K a w := by
  unfold wpOp at h
  unfold wpOpIn
  split
  · rename_i ho
    simpa [ho] using h
  · rename_i o ho
    simp only [ho] at h
    have hm : o ∈ l := by
      have := Array.mem_of_getElem? ho
      simpa using this
    split
    · rename_i hw
      rw [if_pos hw] at h
      rcases h with h | ⟨_, h⟩
      · have h2 := oper_in (rl := rl) (n := n) (plainB_spec hp hm) (not_lets Q) h
        unfold Oper.wpIn at h2 ⊢
        refine ⟨h2.1, ?_⟩
        have h3 := h2.2
        generalize (o.semAt (Fence.wide.inRound rl).round a.eval).run P w = r at *
        cases r with
        | ok nx w' =>
          cases nx with
          | value v => exact h3
          | skip => exact h3
          | defer d => exact h3
          | enter f args =>
            refine ⟨h3.1, CallsIn.mono h3.2 (fun e w'' he => ?_)⟩
            cases e with
            | returned v => exact he
            | panicked ch => cases he.1
            | outgrown => exact (not_lets Q he).elim
          | row r args => exact h3
          | round r f t asg bd =>
            refine ⟨h3.1, RoundIn.mono h3.2 (fun e w'' he => ?_)⟩
            cases e with
            | returned v => exact he
            | panicked ch => cases he.1
            | outgrown => exact (not_lets Q he).elim
          | _ => exact h3.elim
        | halt x w' => cases x <;> first | exact h3.elim | cases h3.1
      · exact (not_lets Q h).elim
    · rename_i hw
      rw [if_neg hw] at h
      exact ⟨fun _ _ => trivial, h⟩
theorem list_in {l0 : List Oper} (hp : plainB l0 = true) : ∀ (l : List Oper) (a : Act) (w : World), (∀ o ∈ l, o ∈ l0) → wpList P l0.toArray (Qn Q) l a w → wpListIn (Fence.wide.inRound rl) n P l0.toArray Q l a w
  | [], _, _, _, h => h.2
  | o :: l, a, w, hm, h => by
    unfold wpList at h
    unfold wpListIn
    split
    · rename_i hw
      rw [if_pos hw] at h
      rcases h with h | ⟨_, h⟩
      · have hi : ∃ i : Nat, l0.toArray[i]? = some o := by
          obtain ⟨i, hi, he⟩ := List.getElem_of_mem (hm o (by simp))
          exact ⟨i, by simp [hi, he]⟩
        obtain ⟨i, hi⟩ := hi
        have h1 : wpOp P l0.toArray (Qn Q) i (wpList P l0.toArray (Qn Q) l) a w := by
          unfold wpOp
          simp only [hi]
          rw [if_pos hw]
          exact .inl h
        have h2 := op_in (rl := rl) (n := n) hp h1
        have h3 := wpOpIn_mono (fun a' w' h' => list_in hp l a' w' (fun x hx => hm x (List.mem_cons_of_mem _ hx)) h') h2
        unfold wpOpIn at h3
        simp only [hi] at h3
        rwa [if_pos hw] at h3
      · exact (not_lets Q h).elim
    · rename_i hw
      rw [if_neg hw] at h
      exact ⟨fun _ _ => trivial, list_in hp l _ _ (fun x hx => hm x (List.mem_cons_of_mem _ hx)) h⟩
/-- A region in a round, walked as outside. -/
theorem in_region {id : Nat} {l : List Oper} {a : Act} {w : World} (hp : plainB l = true) (h : wpList P l.toArray (Qn Q) l a w) : (Code.region id l.toArray false).wpIn (Fence.wide.inRound rl) n P Q a w :=
  wpIn_region_lit (list_in hp l a w (fun _ h => h) h)
end bridge
end
/- One law for 'for .. range f': the iterator tells, at each round, what holds of what it hands over; it makes memory alone between two rounds. -/
section
open Go.RowKit Go.Shelf

/-- What stays true when memory is made, and when an object that is no row of cells, from B on, is turned. -/
def Stays (B : Nat) (p : World → Prop) : Prop :=
  ∀ W W', p W → (Kp [] W W' ∨ ∃ (l : Nat) (o o' : Obj), B ≤ l ∧ W.heap[l]? = some o ∧ o.isCells = false ∧ W' = W.putObj l o') → p W'
theorem Stays.kp {B : Nat} {p : World → Prop} (h : Stays B p) {W W' : World} (hp : p W) (hk : Kp [] W W') : p W' := h W W' hp (.inl hk)
theorem Stays.put {B : Nat} {p : World → Prop} (h : Stays B p) {W : World} (hp : p W) {l : Nat} {o : Obj} (o' : Obj) (hB : B ≤ l) (hl : W.heap[l]? = some o) (ho : o.isCells = false) : p (W.putObj l o') :=
  h W _ hp (.inr ⟨l, o, o', hB, hl, ho, rfl⟩)
theorem Stays.and {B : Nat} {p q : World → Prop} (h : Stays B p) (h' : Stays B q) : Stays B (fun W => p W ∧ q W) := fun W W' hp hk => ⟨h W W' hp.1 hk, h' W W' hp.2 hk⟩
theorem Stays.pure (B : Nat) (q : Prop) : Stays B (fun _ => q) := fun _ _ h _ => h
theorem Stays.ex {B : Nat} {α : Sort _} {p : α → World → Prop} (h : ∀ x, Stays B (p x)) : Stays B (fun W => ∃ x, p x W) := fun W W' ⟨x, hx⟩ hk => ⟨x, h x W W' hx hk⟩

/-- A round, as the iterator may call it: it has made memory since W0, where the round before had ended (or the loop begun). -/
def RoundOk {α : Type} (P : Program) (n l : Nat) (encs : α → Array Value) (Z : α → World → Prop) (X : List α → α → World → World → Prop) (N : Nat) (J Jx : List α → World → Prop) : Prop :=
  ∀ pre x W0 W1, J pre W0 → Kp [] W0 W1 → X pre x W0 W1 → pre.length < N → YieldAt Fence.wide (n - 1) P l (encs x) W1 fun e W' =>
    (e = .returned (.bool true) ∧ J (pre ++ [x]) W' ∧ Z x W') ∨ (e = .returned (.bool false) ∧ Jx (pre ++ [x]) W')
/-- What is asked of an iterator (function g with what it has captured), called in w or later. -/
def SeqW {α : Type} (P : Program) (n g : Nat) (lb : Array Value) (encs : α → Array Value) (Z : α → World → Prop) (X : List α → α → World → World → Prop) (S Sp : List α → Prop) (N : Nat) (w : World) : Prop :=
  ∀ (l : Nat) (J Jx : List α → World → Prop) (W : World), Kp [] w W → (∀ s A B, J s A → Kp [] A B → J s B) → (∀ s A B, Jx s A → Kp [] A B → Jx s B) → RoundOk P n l encs Z X N J Jx → J [] W →
    CallsIn Fence.wide n P g (#[.func (.yield l) #[] #[]] ++ lb) W fun e W' => (∃ v, e = .returned v) ∧ ((∃ xs, S xs ∧ J xs W') ∨ (∃ pre, Sp pre ∧ Jx pre W'))

/-- How the body of a round may end: the loop's record l and the block D are as they were. -/
def Same2 (l D : Nat) (W W' : World) : Prop := W'.heap[l]? = W.heap[l]? ∧ W'.heap[D]? = W.heap[D]?
def roundEnd {α : Type} (l D : Nat) (Z : World → Prop) (I : List α → World → Prop) (Ix : Code → List α → World → Prop) (xs : List α) (W : World) : Exit → Act → World → Prop
  | .normal, _, W' => Same2 l D W W' ∧ Z W' ∧ I xs W'
  | .ret, _, W' => Same2 l D W W' ∧ Ix .ret xs W'
  | .exit id, _, W' => Same2 l D W W' ∧ Ix (.exit id) xs W'
  | .goto t, _, W' => Same2 l D W W' ∧ Ix (.goto t) xs W'
  | .panic _, _, _ => False
  | .outgrown, _, _ => False
def markOf (D : Nat) : Deferred := { target := .collected D, args := #[] }

variable {P : Program} {n : Nat}
set_option maxHeartbeats 1000000 in
theorem wp_range {α : Type} {g : Operand} {ps : Array Tmp} {assign body : Code} {Q : Exit → Act → World → Prop} {a : Act} {w : World} {gf : Nat} {lb : Array Value} (hg : a.eval g = .func (.func gf) #[] lb)
    (eg : ∀ args w, (callFunc gf args).run P w = .ok (.enter gf args) w) {encs : α → Array Value} {Z : α → World → Prop} {X : List α → α → World → World → Prop} {S Sp : List α → Prop} {N : Nat} (hseq : SeqW P (n - 1) gf lb encs Z X S Sp N w) (hZ : ∀ x, Stays w.heap.size (Z x))
    (hps : ∀ x, (encs x).size = ps.size)
    (I : List α → World → Prop) (Ix : Code → List α → World → Prop) (hI : ∀ pre, Stays w.heap.size (I pre)) (hIx : ∀ c pre, Stays w.heap.size (Ix c pre)) (h0 : I [] w)
    (I' : List α → α → World → Prop) (hI' : ∀ pre x, Stays w.heap.size (I' pre x)) (hprep : ∀ (pre : List α) (x : α) (W0 W1 : World), I pre W0 → Kp [] W0 W1 → X pre x W0 W1 → pre.length < N → I' pre x W1)
    (A : Array Value → List α → α → Act → World → Prop) (hA : ∀ pre x a', Stays w.heap.size (A a.tmps pre x a'))
    (hassign : ∀ (pre : List α) (x : α) (W : World), I' pre x W → ∀ K : Act → World → Prop, (∀ a' W', Kp [] W W' → A a.tmps pre x a' W' → K a' W') →
      assign.wpIn (Fence.wide.inRound (w.heap.size + 1)) (n - 1 - 1) P (Exit.then K (fun _ _ _ => False)) { tmps := (ps.zip (encs x)).foldl (fun t (p, v) => t.setIfInBounds p v) a.tmps, defers := [] } W)
    (hbody : ∀ (pre : List α) (x : α) (a' : Act) (W : World), I' pre x W → A a.tmps pre x a' W → pre.length < N → (∃ o, W.heap[w.heap.size + 1]? = some o ∧ o.isCells = false) → (∃ o, W.heap[w.heap.size]? = some o ∧ o.isCells = false) →
      body.wpIn (Fence.wide.inRound (w.heap.size + 1)) (n - 1 - 1) P (roundEnd (w.heap.size + 1) w.heap.size (Z x) I Ix (pre ++ [x]) W) a' W)
    (hdone : ∀ (xs : List α) (W : World), S xs → I xs W → W.heap[w.heap.size]? = some (.deferred (some [])) → Q .normal { a with defers := markOf w.heap.size :: a.defers } W)
    (hstop : ∀ (c : Code) (pre : List α) (W : World), Sp pre → Ix c pre W → W.heap[w.heap.size]? = some (.deferred (some [])) → c.wp P Q { a with defers := markOf w.heap.size :: a.defers } W) :
    (Code.rangeFunc g ps assign body).wp P Q a w := by
  refine (wpIn_wide (n := n)).1 (wpIn_rangeFunc ?_)
  intro fn hfn
  show ∃ (l : Nat) (mark : List Deferred) (w₁ : World) (d : Deferred) (w₁' : World) (f : FuncId) (args : Array Value) (w₂ : World), (Instr.enterLoop fn a.tmps ps assign body none).run P w = .ok (l, mark) w₁ ∧ _
  obtain ⟨rec, hrec⟩ : ∃ rec : LoopState → Option Code → Loop, rec = fun st pe => { state := st, pending := pe, fn, tmps := a.tmps, params := ps, assign, body, defers := w.heap.size } := ⟨_, rfl⟩
  obtain ⟨W1, hW1⟩ : ∃ W1, (w.alloc (.deferred (some []))).alloc (.loop (rec .ready none)) = W1 := ⟨_, rfl⟩
  have hk1 : Kp [] w W1 := by rw [← hW1]; exact ((Kp.refl [] w).alloc _).alloc _
  have hL1 : W1.heap[w.heap.size + 1]? = some (.loop (rec .ready none)) := by
    rw [← hW1]; have := World.alloc_heap_new (w.alloc (.deferred (some []))) (.loop (rec .ready none)); rwa [World.size_alloc] at this
  have hD1 : W1.heap[w.heap.size]? = some (.deferred (some [])) := by
    rw [← hW1]; exact (Below.heap_alloc _ _ _ (by simp)).trans (World.alloc_heap_new w _)
  have kept : ∀ {A B : World} {k : Nat} {o : Obj}, Kp [] A B → A.heap[k]? = some o → B.heap[k]? = some o := fun hk h => (hk.block _ (Array.getElem?_eq_some_iff.1 h).1 (by simp)).trans h
  refine ⟨w.heap.size + 1, [markOf w.heap.size], W1, { target := .fn (.func gf) lb, args := #[.func (.yield (w.heap.size + 1)) #[] #[]] }, W1, gf, #[.func (.yield (w.heap.size + 1)) #[] #[]] ++ lb, W1, ?_, ?_, fun _ _ => trivial, ?_, fun h => by simp [Fence.wide] at h, ?_⟩
  · rw [← hW1, hrec]; exact run_enterLoop_outer _ _ _ _ _
  · simp only [resolve, hg]
    simp [go_sem]
  · simp [invoke, go_sem, eg]
  · refine (hseq (w.heap.size + 1)
      (fun pre W => I pre W ∧ W.heap[w.heap.size + 1]? = some (.loop (rec .ready none)) ∧ W.heap[w.heap.size]? = some (.deferred (some [])))
      (fun pre W => ∃ c, Ix c pre W ∧ W.heap[w.heap.size + 1]? = some (.loop (rec .done (some c))) ∧ W.heap[w.heap.size]? = some (.deferred (some [])))
      W1 hk1 (fun s A B ⟨h1, h2, h3⟩ hk => ⟨(hI s).kp h1 hk, kept hk h2, kept hk h3⟩) (fun s A B ⟨c, h1, h2, h3⟩ hk => ⟨c, (hIx c s).kp h1 hk, kept hk h2, kept hk h3⟩) ?_ ⟨(hI []).kp h0 hk1, hL1, hD1⟩).mono ?_
    · rintro pre x W0 W ⟨hi0, hl0, hd0⟩ hk0 hx hlen
      have hi := hprep pre x W0 W hi0 hk0 hx hlen
      have hl := kept hk0 hl0
      have hd := kept hk0 hd0
      have hlt : w.heap.size + 1 < W.heap.size := (Array.getElem?_eq_some_iff.1 hl).1
      have hy := run_yield (P := P) (args := encs x) hl (by rw [hrec]; exact hps x)
      rw [hrec] at hy
      refine ⟨fn, _, assign, body, hy, roundIn_of_wpIn hfn (hassign pre x W hi _ fun a' Wa hka hAa => ?_)⟩
      have hla := kept hka hl
      have hda := kept hka hd
      refine ⟨Wa.putObj (w.heap.size + 1) (.loop { rec .ready none with state := .busy }), by have := run_beginRound (P := P) hla (by rw [hrec]); exact this, ?_⟩
      have hlta : w.heap.size + 1 < Wa.heap.size := (Array.getElem?_eq_some_iff.1 hla).1
      have hl2 : (Wa.putObj (w.heap.size + 1) (.loop { rec .ready none with state := .busy })).heap[w.heap.size + 1]? = some (.loop { rec .ready none with state := .busy }) := World.putObj_heap_same hlta
      have hd2 : (Wa.putObj (w.heap.size + 1) (.loop { rec .ready none with state := .busy })).heap[w.heap.size]? = some (.deferred (some [])) := (World.putObj_heap_other (by omega)).trans hda
      refine wpIn_mono (hbody pre x a' _ ((hI' pre x).put ((hI' pre x).kp hi hka) _ (by omega) hla rfl) ((hA pre x a').put hAa _ (by omega) hla rfl) hlen ⟨_, hl2, rfl⟩ ⟨_, hd2, rfl⟩) ?_
      have fin : ∀ (jump : Option Code) (W3 : World), Same2 (w.heap.size + 1) w.heap.size (Wa.putObj (w.heap.size + 1) (.loop { rec .ready none with state := .busy })) W3 →
          (Instr.endRound (w.heap.size + 1) jump).run P W3 = .ok (.bool jump.isNone) (W3.putObj (w.heap.size + 1) (.loop (rec (if jump.isNone then .ready else .done) jump))) ∧
          W3.heap[w.heap.size + 1]? = some (.loop { rec .ready none with state := .busy }) ∧
          (W3.putObj (w.heap.size + 1) (.loop (rec (if jump.isNone then .ready else .done) jump))).heap[w.heap.size + 1]? = some (.loop (rec (if jump.isNone then .ready else .done) jump)) ∧
          (W3.putObj (w.heap.size + 1) (.loop (rec (if jump.isNone then .ready else .done) jump))).heap[w.heap.size]? = some (.deferred (some [])) := fun jump W3 hs => by
        have hl3 := hs.1.trans hl2
        have hd3 := hs.2.trans hd2
        have := run_endRound (P := P) jump hl3
        rw [hrec] at this ⊢
        exact ⟨this, by rw [hrec] at hl3; exact hl3, World.putObj_heap_same (Array.getElem?_eq_some_iff.1 hl3).1, (World.putObj_heap_other (by omega)).trans hd3⟩
      rintro e a3 W3 hp
      cases e with
      | normal =>
        obtain ⟨hs, hk3, hi3⟩ := hp
        obtain ⟨hr, hl3, hl4, hd4⟩ := fin none W3 hs
        exact ⟨_, _, hr, .inl ⟨rfl, ⟨(hI _).put hi3 _ (by omega) hl3 rfl, hl4, hd4⟩, (hZ x).put hk3 _ (by omega) hl3 rfl⟩⟩
      | ret =>
        obtain ⟨hs, hi3⟩ := hp
        obtain ⟨hr, hl3, hl4, hd4⟩ := fin (some .ret) W3 hs
        exact ⟨_, _, hr, .inr ⟨rfl, .ret, (hIx _ _).put hi3 _ (by omega) hl3 rfl, hl4, hd4⟩⟩
      | exit id =>
        obtain ⟨hs, hi3⟩ := hp
        obtain ⟨hr, hl3, hl4, hd4⟩ := fin (some (.exit id)) W3 hs
        exact ⟨_, _, hr, .inr ⟨rfl, .exit id, (hIx _ _).put hi3 _ (by omega) hl3 rfl, hl4, hd4⟩⟩
      | goto t =>
        obtain ⟨hs, hi3⟩ := hp
        obtain ⟨hr, hl3, hl4, hd4⟩ := fin (some (.goto t)) W3 hs
        exact ⟨_, _, hr, .inr ⟨rfl, .goto t, (hIx _ _).put hi3 _ (by omega) hl3 rfl, hl4, hd4⟩⟩
      | panic ch => exact hp.elim
      | outgrown => exact hp.elim
    · rintro e W2 ⟨⟨v, rfl⟩, (⟨xs, hS, hi, hl, hd⟩ | ⟨pre, hSp, c, hi, hl, hd⟩)⟩
      · exact ⟨none, _, by have := run_endLoop (P := P) hl (by rw [hrec]; simp); rw [hrec] at this; exact this, hdone _ _ hS ((hI _).put hi _ (by omega) hl rfl) ((World.putObj_heap_other (by omega)).trans hd)⟩
      · exact ⟨some c, _, by have := run_endLoop (P := P) hl (by rw [hrec]; simp); rw [hrec] at this; exact this, wpIn_wide.2 (hstop c pre _ hSp ((hIx c pre).put hi _ (by omega) hl rfl) ((World.putObj_heap_other (by omega)).trans hd))⟩
end
/- Appending bytes onto a row of the call's own: one rule, with all that a walk asks of it behind. -/
section
open Go.RowKit

theorem Held.newBlk {w0 w : World} {L : List Res} (h : Held w0 w L) (t : TypeId) (cs : Array Value) : Held w0 (w.alloc (.cells cs t)) (blkR w.heap.size t cs :: L) :=
  h.new (blkR w.heap.size t cs) ((Kp.refl [] w).alloc (.cells cs t)) (Blk.new w t cs) (fun b hb => by
    have hb : b = w.heap.size := by simpa [blkR] using hb
    omega)
theorem Held.newBlkN {w0 w : World} {L : List Res} (h : Held w0 w L) (t : TypeId) (cs : Array Value) {g : Nat} (hg : w.heap.size = g) : Held w0 (w.alloc (.cells cs t)) (blkR g t cs :: L) := hg ▸ h.newBlk t cs
/-- A small block, cell by cell, as a walk wants it. -/
theorem Blk.c1 {w : World} {g : Nat} {t : TypeId} {a : Value} (h : Blk w g t #[a]) : w.cell? ⟨g, 0, none⟩ = some a ∧ w.frozen? ⟨g, 0, none⟩ = false ∧ g < w.heap.size := ⟨h.cell 0, h.frozen 0, h.lt⟩
end
/- slices.Equal for bytes. -/
section
open Go.RowKit

/-- A cell that is there reads as it did. -/
theorem cell_kept {w w' : World} {p : Addr} {u : Value} (h : w.cell? p = some u) (hk : Kp [] w w') : w'.cell? p = some u :=
  (World.cell?_of_block (hk.block p.block (cell_lt h) (by simp))).trans h
end
/- Leaving a function that held ranges over functions; what is held stays through such a loop's own steps. -/
section
open Go.RowKit Go.Shelf

theorem calls_marks {P : Program} {f : FuncId} {fn : Func} {c : Code} {args : Array Value} {w : World} {R : Ending → World → Prop} (hf : P.funcs[f]? = some fn) (hb : fn.body = some c)
    (h : c.wp P (bodyPostM Fence.wide 3 P fn R) { tmps := args ++ Array.replicate (fn.ntmps - args.size) undef, defers := [] } w) : Calls P f args w R :=
  callsIn_wide.1 (callsIn_of_wp_marks hf hb trivial (wpIn_wide.2 h) rfl)
theorem Kp.putObj {w : World} (l : Nat) (o : Obj) : Kp [l] w (w.putObj l o) :=
  ⟨rfl, rfl, rfl, by simp, fun k _ hn => World.putObj_heap_other (fun e => hn (by simp [e]))⟩
/-- The marks of the loops that were left are taken up. -/
theorem leaves_marks {P : Program} {fn : Func} {tmps : Array Value} {R : Ending → World → Prop} : ∀ (ds : List Nat) (w : World), ds.Nodup → (∀ D ∈ ds, w.heap[D]? = some (.deferred (some []))) →
    (∀ W, Kp ds w W → ∃ v, (results fn tmps).run P W = .ok v W ∧ R (.returned v) W) → LeavesInM Fence.wide 3 P fn tmps R (ds.map markOf) .returning w
  | [], w, _, _, h => h w (Kp.refl [] w)
  | D :: ds, w, hn, hd, h => by
    obtain ⟨h1, h2⟩ := List.nodup_cons.1 hn
    refine ⟨by simp, .inl ⟨D, _, rfl, run_takeDeferred (hd D (by simp)), leaves_marks ds _ h2 (fun D' hD' => ?_) (fun W hk => h W ?_)⟩⟩
    · exact (World.putObj_heap_other (fun e => h1 (by rw [← e]; exact hD'))).trans (hd D' (by simp [hD']))
    · exact ((Kp.putObj D (.deferred none)).more (T := D :: ds) (fun g hg => .inl (by simp at hg; simp [hg]))).trans hk (fun g hg => .inl (by simp [hg]))
theorem ret_marks {P : Program} {fn : Func} {R : Ending → World → Prop} {a : Act} {w : World} (ds : List Nat) (ha : a.defers = ds.map markOf) (hn : ds.Nodup) (hd : ∀ D ∈ ds, w.heap[D]? = some (.deferred (some [])))
    (h : ∀ W, Kp ds w W → ∃ v, (results fn a.tmps).run P W = .ok v W ∧ R (.returned v) W) : bodyPostM Fence.wide 3 P fn R .ret a w := by
  show LeavesInM Fence.wide 3 P fn a.tmps R a.defers .returning w
  rw [ha]
  exact leaves_marks ds w hn hd h

/-- All its blocks are rows of cells. -/
def Cellular (r : Res) : Prop := ∀ W, r.ok W → ∀ b ∈ r.fp, ∃ o : Obj, W.heap[b]? = some o ∧ o.isCells = true
theorem cellular_blk (g : Nat) (t : TypeId) (cs : Array Value) : Cellular (blkR g t cs) := by
  intro W h b hb
  have hb : b = g := by simpa [blkR] using hb
  subst hb
  exact ⟨_, h, rfl⟩
/-- Rows of cells, or blocks below B: what an object from B on is not. -/
def Cells (B : Nat) (L : List Res) : Prop := ∀ r, r ∈ L → Cellular r ∨ ∀ b ∈ r.fp, b < B
theorem Cells.cons {B : Nat} {L : List Res} {r : Res} (hr : Cellular r) (h : Cells B L) : Cells B (r :: L) := fun s hs => by
  rcases List.mem_cons.1 hs with rfl | hs
  · exact .inl hr
  · exact h s hs
theorem Cells.blk {B : Nat} {L : List Res} {g : Nat} {t : TypeId} {cs : Array Value} (h : Cells B L) : Cells B (blkR g t cs :: L) := h.cons (cellular_blk _ _ _)
theorem Cells.tail {B : Nat} {L : List Res} {r : Res} (h : Cells B (r :: L)) : Cells B L := fun s hs => h s (List.mem_cons_of_mem _ hs)
/-- What is held in a world lies below its end. -/
theorem Cells.of {w0 W : World} {L : List Res} (S : Held w0 W L) : Cells W.heap.size L := fun r hr => .inr fun b hb => r.lt W (S.ok r hr) b hb
theorem Cells.not {B : Nat} {L : List Res} (h : Cells B L) {w0 W : World} (S : Held w0 W L) {l : Nat} {o : Obj} (hB : B ≤ l) (hl : W.heap[l]? = some o) (ho : o.isCells = false) : ∀ r ∈ L, l ∉ r.fp := by
  intro r hr hm
  rcases h r hr with h | h
  · obtain ⟨o', h1, h2⟩ := h W (S.ok r hr) l hm
    rw [hl] at h1
    cases h1
    rw [ho] at h2
    cases h2
  · have := h l hm
    omega
/-- An object that is no row of cells.. -/
def objR (l : Nat) (o : Obj) : Res where
  fp := [l]
  ok := fun w => w.heap[l]? = some o
  keep := fun _ _ _ h hk hn => (hk.block l (Array.getElem?_eq_some_iff.1 h).1 (hn l (by simp))).trans h
  lt := fun _ h b hb => by simp at hb; subst hb; exact (Array.getElem?_eq_some_iff.1 h).1
theorem Held.withObj {w0 W : World} {L : List Res} (S : Held w0 W L) {l : Nat} {o : Obj} (hB : w0.heap.size ≤ l) (hl : W.heap[l]? = some o) (hn : ∀ r ∈ L, l ∉ r.fp) : Held w0 W (objR l o :: L) :=
  ⟨S.k, fun r hr => by
    rcases List.mem_cons.1 hr with rfl | hr
    · exact hl
    · exact S.ok r hr, fun r hr b hb => by
    rcases List.mem_cons.1 hr with rfl | hr
    · have : b = l := by simpa [objR] using hb
      omega
    · exact S.base r hr b hb, List.pairwise_cons.2 ⟨fun r hr b hb hb' => by
    have : b = l := by simpa [objR] using hb
    subst this
    exact hn r hr hb', S.apart⟩⟩
/-- Both objects of the loop beside what is held. -/
theorem Held.withTwo {w0 W : World} {L : List Res} (S : Held w0 W L) {B : Nat} (hc : Cells B L) (h0 : w0.heap.size ≤ B) {l D : Nat} {o d : Obj} (hB : B ≤ l) (hD : B ≤ D) (hne : l ≠ D) (hl : W.heap[l]? = some o) (ho : o.isCells = false) (hd : W.heap[D]? = some d) (hd0 : d.isCells = false) :
    Held w0 W (objR l o :: objR D d :: L) :=
  (S.withObj (Nat.le_trans h0 hD) hd (hc.not S hD hd hd0)).withObj (Nat.le_trans h0 hB) hl (fun r hr => by
    rcases List.mem_cons.1 hr with rfl | hr
    · simpa [objR] using hne
    · exact hc.not S hB hl ho r hr)
theorem Held.same2 {w0 W W' : World} {L : List Res} {l D : Nat} {o d : Obj} (S : Held w0 W' (objR l o :: objR D d :: L)) (hl : W.heap[l]? = some o) (hd : W.heap[D]? = some d) : Same2 l D W W' :=
  ⟨(S.at_ (l1 := [])).trans hl.symm, (S.at_ (l1 := [_])).trans hd.symm⟩
theorem Held.stays {w0 : World} {L : List Res} {B : Nat} (hB : w0.heap.size ≤ B) (hc : Cells B L) : Stays B (fun W => Held w0 W L) := by
  intro W W' S h
  rcases h with hk | ⟨l, o, o', hl, hlo, ho, rfl⟩
  · exact S.kp hk
  · have hn := hc.not S hl hlo ho
    exact ⟨S.k.trans (Kp.putObj l o') (fun g hg => by simp at hg; right; omega), fun r hr => r.keep W _ [l] (S.ok r hr) (Kp.putObj l o') (fun b hb hm => by simp at hm; subst hm; exact hn r hr hb), S.base, S.apart⟩
end
/- XInv's rule with guards ('&&', '||'): each step says what the guard does. -/
section

section
variable {P : Program} {ops : Array Oper} {Q : Exit → Act → World → Prop}

/-- Each waits for earlier ones alone. -/
def earlierG : List Oper → Nat → Bool
  | [], _ => true
  | o :: l, k => (o.after.all fun e => !Region.binds .any e || decide (e.on < k)) && earlierG l (k + 1)
theorem earlierG_spec : ∀ (l : List Oper) (k i : Nat) (o : Oper), earlierG l k = true → l[i]? = some o → (∀ e ∈ o.after, Region.binds .any e = true → e.on < k + i)
  | [], _, _, _, _, h => by simp at h
  | x :: l, k, i, o, hB, h => by
    simp only [earlierG, Bool.and_eq_true] at hB
    rcases i with _ | i
    · obtain rfl : x = o := by simpa using h
      intro e he hb
      have := (Array.all_eq_true_iff_forall_mem.1 hB.1) e he
      simpa [hb] using this
    · have := earlierG_spec l (k + 1) i o hB.2 (by simpa using h)
      exact fun e he hb => by have := this e he hb; omega
def InvStepG (P : Program) (Q : Exit → Act → World → Prop) (PV : Nat → Value → World → Prop) (W0 : World) (fr : (Nat → Value) → Act) (ops : Array Oper) (o : Oper) (i : Nat) : Prop :=
  ∀ (vs : Nat → Value) (A : Act) (W : World), fr vs = A → Kp [] W0 W → (∀ j, waitsB .any o j = true → PV j (vs j) W) →
    ∀ K : Act → World → Prop, (∀ v W', Kp [] W W' → PV i v W' → K (A.put o.dst v) W') → wpOp P ops (Qn Q) i K A W
def InvStepsG (P : Program) (Q : Exit → Act → World → Prop) (PV : Nat → Value → World → Prop) (W0 : World) (fr : (Nat → Value) → Act) (ops : Array Oper) : List Oper → Nat → Prop
  | [], _ => True
  | o :: l, i => InvStepG P Q PV W0 fr ops o i ∧ InvStepsG P Q PV W0 fr ops l (i + 1)
theorem InvStepsG.at_ {PV : Nat → Value → World → Prop} {W0 : World} {fr : (Nat → Value) → Act} : ∀ {l : List Oper} {k : Nat}, InvStepsG P Q PV W0 fr ops l k → ∀ {i o}, l[i]? = some o → InvStepG P Q PV W0 fr ops o (k + i)
  | [], _, _, _, _, h => by simp at h
  | x :: l, k, hs, i, o, h => by
    rcases i with _ | i
    · obtain rfl : x = o := by simpa using h
      exact hs.1
    · have := hs.2.at_ (i := i) (o := o) (by simpa using h)
      rwa [show k + 1 + i = k + (i + 1) from by omega] at this
/-- An operation without a guard. -/
theorem wpOp_free {i : Nat} {K : Act → World → Prop} {a : Act} {w : World} (o : Oper) (ho : ops[i]? = some o) (hg : o.guard = none) (h : o.wp P a w K Q) : wpOp P ops Q i K a w := by
  unfold wpOp
  simp only [ho]
  rw [if_pos (by simp [Region.wanted, hg])]
  exact .inl h
theorem yielded_of {a : Act} {j d : Nat} {b : Bool} (hj : (ops[j]?).bind (·.dst) = some d) (hd : a.tmps[d]?.getD undef = .bool b) : yielded ops a.tmps j = some b := by
  unfold yielded
  rw [hj]
  show (match a.tmps[d]? with | some (.bool b) => some b | _ => none) = some b
  cases h : a.tmps[d]? with
  | none => rw [h] at hd; cases hd
  | some v => rw [h] at hd; obtain rfl : v = .bool b := hd; rfl
/-- One whose guard says: go. -/
theorem wpOp_go {i : Nat} {K : Act → World → Prop} {a : Act} {w : World} (o : Oper) (ho : ops[i]? = some o) (j d : Nat) (b : Bool) (hg : o.guard = some (j, b)) (hj : (ops[j]?).bind (·.dst) = some d) (hd : a.tmps[d]?.getD undef = .bool b) (h : o.wp P a w K Q) : wpOp P ops Q i K a w := by
  unfold wpOp
  simp only [ho]
  rw [if_pos (by simp [Region.wanted, hg, yielded_of hj hd])]
  exact .inl h
/-- One whose guard says: pass over. -/
theorem wpOp_skip {i : Nat} {K : Act → World → Prop} {a : Act} {w : World} (o : Oper) (ho : ops[i]? = some o) (j d : Nat) (b : Bool) (hg : o.guard = some (j, b)) (hj : (ops[j]?).bind (·.dst) = some d) (hd : a.tmps[d]?.getD undef = .bool (!b)) (h : K (a.put o.dst undef) w) : wpOp P ops Q i K a w := by
  unfold wpOp
  simp only [ho]
  rw [if_neg (by simp [Region.wanted, hg, yielded_of hj hd])]
  exact h
theorem inv_anyG {PV : Nat → Value → World → Prop} {W0 : World} {a0 : Act} {l : List Oper} (hst : ∀ i v W W', PV i v W → Kp [] W W' → PV i v W') (hap : apartB l = true) (hea : earlierG l 0 = true)
    (hs : InvStepsG P Q PV W0 (fun vs => putAll vs l 0 a0) l.toArray l 0)
    (hend : ∀ vs W, Kp [] W0 W → (∀ i, i < l.length → PV i (vs i) W) → Q .normal (putAll vs l 0 a0) W) :
    ∀ (fuel : Nat) (listed : Array Bool) (vs : Nat → Value) (W : World), listed.size = l.length → (listed.toList.filter (fun b => !b)).length = fuel → Kp [] W0 W → (∀ i, listed.getD i false = true → PV i (vs i) W) →
      wpAny P .any l.toArray Q fuel listed (putAll vs l 0 a0) W := by
  have all_of : ∀ (listed : Array Bool), listed.size = l.length → Region.ready .any l.toArray listed = [] → ∀ i, i < l.length → listed.getD i false = true := by
    intro listed hsz hr i
    induction i using Nat.strongRecOn with
    | _ i ih =>
      intro hi
      cases hl : listed.getD i false with
      | true => rfl
      | false =>
        exfalso
        have hlt : i < listed.size := by omega
        have hmem : i ∈ Region.ready .any l.toArray listed := mem_ready.2 ⟨by simp [hlt] at hl ⊢; exact hl, l[i], by simp [hi], fun e he hb => by
          have := (earlierG_spec l 0 i l[i] hea (by simp [hi])) e he hb
          exact ih e.on (by omega) (by omega)⟩
        rw [hr] at hmem; cases hmem
  have hnil : ∀ (listed : Array Bool) vs W, listed.size = l.length → Kp [] W0 W → (∀ i, listed.getD i false = true → PV i (vs i) W) → Region.ready .any l.toArray listed = [] → Q .normal (putAll vs l 0 a0) W :=
    fun listed vs W hsz hk hp hr => hend vs W hk (fun i hi => hp i (all_of listed hsz hr i hi))
  intro fuel
  induction fuel with
  | zero =>
    intro listed vs W hsz hf hk hp
    have hr : Region.ready .any l.toArray listed = [] := by
      refine List.eq_nil_iff_forall_not_mem.2 fun i hi => ?_
      have h0 := (mem_ready.1 hi).1
      obtain ⟨_, o, ho, _⟩ := mem_ready.1 hi
      have hlt : i < listed.size := by
        have := (Array.getElem?_eq_some_iff.1 ho).1
        simp at this; omega
      have : listed[i] ∈ listed.toList.filter (fun b => !b) := by
        rw [List.mem_filter]
        simp [hlt] at h0
        refine ⟨by simp, by simp [h0]⟩
      rw [List.eq_nil_of_length_eq_zero hf] at this
      cases this
    exact ⟨hr, hnil listed vs W hsz hk hp hr⟩
  | succ fuel ih =>
    intro listed vs W hsz hf hk hp
    refine ⟨hnil listed vs W hsz hk hp, fun i hi => ?_⟩
    obtain ⟨h0, o, ho, hall⟩ := mem_ready.1 hi
    have hol : l[i]? = some o := by simpa using ho
    have hlt : i < listed.size := by
      have := (List.getElem?_eq_some_iff.1 hol).1
      omega
    refine wpOp_n ?_
    have hstep := hs.at_ hol
    rw [Nat.zero_add] at hstep
    refine hstep vs _ W rfl hk (fun j hj => by obtain ⟨e, he, hb, rfl⟩ := waitsB_spec hj; exact hp e.on (hall e he hb)) _ fun v W' hk' hv => ?_
    rw [putAll_upd vs i v l 0 a0 o hap (Nat.zero_le _) (by simpa using hol)]
    refine ih _ _ W' (by simpa using hsz) ?_ (hk.trans hk' (by simp)) (fun j hj => ?_)
    · simp [hlt] at h0
      have h1 : listed.toList = listed.toList.take i ++ false :: listed.toList.drop (i + 1) := by
        rw [← h0]
        have := List.take_append_drop i listed.toList
        rw [List.drop_eq_getElem_cons (by simpa using hlt)] at this
        simpa using this.symm
      have h2 : (listed.setIfInBounds i true).toList = listed.toList.take i ++ true :: listed.toList.drop (i + 1) := by
        rw [Array.toList_setIfInBounds]
        conv => lhs; rw [h1]
        rw [List.set_append_right _ _ (by simp; omega)]
        simp [Nat.min_eq_left (Nat.le_of_lt hlt)]
      rw [h1] at hf
      rw [h2]
      simp only [List.filter_append, List.filter_cons, List.length_append] at hf ⊢
      simp at hf ⊢
      omega
    · by_cases e : i = j
      · subst e; simpa [upd] using hv
      · rw [getD_set_ne false e] at hj
        simp only [upd, show j ≠ i from fun h => e h.symm, if_false]
        exact hst j _ W W' (hp j hj) hk'

/-- The region's rule. -/
theorem wp_region_invG {id : Nat} {a : Act} {w : World} {l : List Oper} (PV : Nat → Value → World → Prop) (hm : P.follows .mixedOrders = true) (hap : apartB l = true) (hea : earlierG l 0 = true)
    (hst : ∀ i v W W', PV i v W → Kp [] W W' → PV i v W')
    (hs : InvStepsG P Q PV w.drew (fun vs => putAll vs l 0 a) l.toArray l 0)
    (hend : ∀ vs W, Kp [] w.drew W → (∀ i, i < l.length → PV i (vs i) W) → Q .normal (putAll vs l 0 a) W) : (Code.region id l.toArray true).wp P Q a w := by
  refine wp_region_any hm ?_
  have h := inv_anyG (P := P) (Q := Q) hst hap hea hs hend l.length (Array.replicate l.length false) (at0 a l) w.drew (by simp) (by simp) (Kp.refl _ _) (fun i hi => by
    simp [Array.getElem?_replicate] at hi
    split at hi <;> simp at hi)
  rw [putAll_at a l 0 (at0 a l) (fun j o ho => by simp [at0, ho])] at h
  simpa using h
end
end
/- Regions and loops as theorems of their own, over an ABSTRACT frame 'a': code is taken out of the function by its number; what the frame holds is told slot by slot ('Sl'), what a region leaves alone by 'Same'. -/
section

/-- The region of that number. -/
def regOf (n : Nat) : Code → Option (Array Oper)
  | .region id ops _ => if id = n then some ops else none
  | .seq a b => match regOf n a with
    | some x => some x
    | none => regOf n b
  | .cond _ a b => match regOf n a with
    | some x => some x
    | none => regOf n b
  | .block _ c => regOf n c
  | .loop c => regOf n c
  | .scope c => regOf n c
  | .rangeFunc _ _ a b => match regOf n a with
    | some x => some x
    | none => regOf n b
  | _ => none
def opsOf (n : Nat) (f : Func) : List Oper := match f.body with
  | some c => match regOf n c with
    | some x => x.toList
    | none => []
  | none => []
/-- The block of that number: what is in it. -/
def blkOf (n : Nat) : Code → Option Code
  | .block id c => if id = n then some c else blkOf n c
  | .seq a b => match blkOf n a with
    | some x => some x
    | none => blkOf n b
  | .cond _ a b => match blkOf n a with
    | some x => some x
    | none => blkOf n b
  | .loop c => blkOf n c
  | .scope c => blkOf n c
  | .rangeFunc _ _ a b => match blkOf n a with
    | some x => some x
    | none => blkOf n b
  | _ => none
def blockOf (n : Nat) (f : Func) : Code := match f.body with
  | some c => (blkOf n c).getD .skip
  | none => .skip
/-- The frame, with these slots put. -/
def putD : List (Nat × Value) → Act → Act
  | [], a => a
  | (d, v) :: l, a => putD l (a.put (some d) v)
/-- What a slot holds. -/
def Sl (a : Act) (d : Nat) (v : Value) : Prop := ∀ h : d < a.tmps.size, a.tmps[d]'h = v
structure Same (a a' : Act) (ds : List Nat) : Prop where
  size : a'.tmps.size = a.tmps.size
  defers : a'.defers = a.defers
  keep : ∀ d v, (ds.contains d) = false → Sl a d v → Sl a' d v
def lastD : List (Nat × Value) → Nat → Option Value
  | [], _ => none
  | (e, v) :: l, d => match lastD l d with
    | some u => some u
    | none => if e = d then some v else none
theorem sl_of {a : Act} {d : Nat} {v : Value} (h : a.tmps[d]? = some v) : Sl a d v := by
  intro hd
  rw [Array.getElem?_eq_getElem hd] at h
  exact Option.some.inj h
theorem Sl.some {a : Act} {d : Nat} {v : Value} (h : Sl a d v) (hd : d < a.tmps.size) : a.tmps[d]? = some v := by
  rw [Array.getElem?_eq_getElem hd, h hd]
theorem sl_put1 {a : Act} {d e : Nat} {v u : Value} (h : Sl a d v) (hne : e ≠ d) : Sl (a.put (some e) u) d v := by
  by_cases hd : d < a.tmps.size
  · refine sl_of ?_
    show (a.tmps.setIfInBounds e u)[d]? = _
    rw [Array.getElem?_setIfInBounds_ne hne]
    exact h.some hd
  · intro hd'
    exact absurd (by simpa [Act.put] using hd') hd
theorem putD_size : ∀ (l : List (Nat × Value)) (a : Act), (putD l a).tmps.size = a.tmps.size
  | [], _ => rfl
  | (d, v) :: l, a => by
    show (putD l (a.put (some d) v)).tmps.size = _
    rw [putD_size l]
    simp [Act.put]
theorem putD_defers : ∀ (l : List (Nat × Value)) (a : Act), (putD l a).defers = a.defers
  | [], _ => rfl
  | (d, v) :: l, a => by
    show (putD l (a.put (some d) v)).defers = _
    rw [putD_defers l]
    rfl
theorem sl_putD_out : ∀ (l : List (Nat × Value)) (a : Act) (d : Nat) (v : Value), (l.map (·.1)).contains d = false → Sl a d v → Sl (putD l a) d v
  | [], _, _, _, _, h => h
  | (e, u) :: l, a, d, v, hn, h => by
    simp only [List.map_cons, List.contains_cons, Bool.or_eq_false_iff] at hn
    exact sl_putD_out l _ d v hn.2 (sl_put1 h (fun e => by simp [e] at hn))
theorem same_putD (l : List (Nat × Value)) (a : Act) : Same a (putD l a) (l.map (·.1)) :=
  ⟨putD_size l a, putD_defers l a, fun d v hn h => sl_putD_out l a d v hn h⟩
/-- The same, as the walk spells it. -/
theorem same_nil {a : Act} {ds : List Nat} : Same a { tmps := a.tmps, defers := a.defers } ds := ⟨rfl, rfl, fun _ _ _ h => h⟩
theorem same_set {a : Act} {t : Array Value} {D : List Deferred} {ds : List Nat} {d : Nat} {v : Value} (hd : ds.contains d = true) (h : Same a { tmps := t, defers := D } ds) : Same a { tmps := t.setIfInBounds d v, defers := D } ds := by
  refine ⟨by rw [← h.size]; simp, h.defers, fun e u hn hs => ?_⟩
  have h1 := h.keep e u hn hs
  have hne : d ≠ e := by
    rintro rfl
    rw [hd] at hn
    cases hn
  have := sl_put1 (u := v) h1 hne
  exact this
theorem lastD_none : ∀ (l : List (Nat × Value)) (d : Nat), lastD l d = none → (l.map (·.1)).contains d = false
  | [], _, _ => rfl
  | (e, u) :: l, d, h => by
    unfold lastD at h
    cases hl : lastD l d with
    | some x => rw [hl] at h; cases h
    | none =>
      rw [hl] at h
      simp only at h
      by_cases he : e = d
      · rw [if_pos he] at h; cases h
      · simp only [List.map_cons, List.contains_cons, Bool.or_eq_false_iff]
        exact ⟨by simpa using fun h => he h.symm, lastD_none l d hl⟩
theorem sl_putD : ∀ (l : List (Nat × Value)) (a : Act) (d : Nat) (v : Value), lastD l d = some v → Sl (putD l a) d v
  | [], _, _, _, h => by cases h
  | (e, u) :: l, a, d, v, h => by
    unfold lastD at h
    cases hl : lastD l d with
    | some x =>
      rw [hl] at h
      cases h
      exact sl_putD l _ d v hl
    | none =>
      rw [hl] at h
      simp only at h
      by_cases he : e = d
      · rw [if_pos he] at h
        cases h
        subst he
        refine sl_putD_out l _ e _ (lastD_none l e hl) ?_
        intro hd
        simp [Act.put]
      · rw [if_neg he] at h; cases h
theorem Same.trans {a b c : Act} {d1 d2 : List Nat} (h : Same a b d1) (k : Same b c d2) : Same a c (d1 ++ d2) :=
  ⟨k.size.trans h.size, k.defers.trans h.defers, fun d v hn hs => by
    rw [List.contains_eq_any_beq, List.any_append, Bool.or_eq_false_iff] at hn
    exact k.keep d v (by rw [List.contains_eq_any_beq]; exact hn.2) (h.keep d v (by rw [List.contains_eq_any_beq]; exact hn.1) hs)⟩
theorem Same.more {a b : Act} {d1 d2 : List Nat} (h : Same a b d1) (hd : (d1.all fun d => d2.contains d) = true) : Same a b d2 :=
  ⟨h.size, h.defers, fun d v hn hs => h.keep d v (by
    cases hc : d1.contains d with
    | false => rfl
    | true =>
      have := List.all_eq_true.1 hd d (by simpa using hc)
      rw [hn] at this
      cases this) hs⟩
theorem Sl.eval {a : Act} {d : Nat} {v : Value} (h : Sl a d v) (hd : d < a.tmps.size) : a.eval (.tmp d) = v := by
  simp only [Act.eval]
  rw [Array.getD_eq_getD_getElem?, Array.getElem?_eq_getElem hd]
  exact h hd
/-- A call, its frame abstract. -/
theorem calls_fr {P : Program} {f : FuncId} {fn : Func} {c : Code} {args : Array Value} {w : World} {R : Ending → World → Prop} (hf : P.funcs[f]? = some fn) (hb : fn.body = some c) (N : Nat) (hN : args.size + (fn.ntmps - args.size) = N)
    (h : ∀ a : Act, a.tmps.size = N → a.defers = [] → (∀ i v, args[i]? = some v → Sl a i v) → c.wp P (bodyPost P fn R) a w) : Calls P f args w R :=
  calls_of_wp hf hb (h _ (by simp only [Array.size_append, Array.size_replicate]; exact hN) rfl (fun i v hi => sl_of (by
    rw [Array.getElem?_append_left (Array.getElem?_eq_some_iff.1 hi).1]; exact hi)))
section
variable {vs : Nat → Value} {l : List Oper} {a A : Act} {d j : Nat}
theorem slot_in (hA : (fun vs => putAll vs l 0 a) vs = A) (hB : apartB l = true) (hd : d < a.tmps.size) (h : evA vs l 0 d = some (vs j)) : A.tmps[d]?.getD undef = vs j :=
  slot_is hA hB hd (by rw [h]; rfl)
theorem slot_out {v : Value} (hA : (fun vs => putAll vs l 0 a) vs = A) (hB : apartB l = true) (hd : d < a.tmps.size) (h : evA vs l 0 d = none) (o : Sl a d v) : A.tmps[d]?.getD undef = v :=
  slot_is hA hB hd (by rw [h]; exact o.eval hd)
end
theorem sH {n N : Nat} (d : Nat) (h : n = N) (hd : Nat.ble (d + 1) N = true) : d < n := Nat.lt_of_lt_of_eq (Nat.le_of_ble_eq_true hd) h.symm
theorem sV {vs : Nat → Value} {l : List Oper} {a A : Act} {N j : Nat} {v : Value} (d : Nat) (f : vs j = v) (hA : (fun vs => putAll vs l 0 a) vs = A) (hB : apartB l = true) (h : a.tmps.size = N) (hd : Nat.ble (d + 1) N = true := by rfl) (e : evA vs l 0 d = some (vs j) := by kernel_rfl) : A.tmps[d]?.getD undef = v :=
  (slot_in hA hB (sH d h hd) e).trans f
theorem sO {vs : Nat → Value} {l : List Oper} {a A : Act} {N : Nat} {v : Value} (d : Nat) (o : Sl a d v) (hA : (fun vs => putAll vs l 0 a) vs = A) (hB : apartB l = true) (h : a.tmps.size = N) (hd : Nat.ble (d + 1) N = true := by rfl) (e : evA vs l 0 d = none := by kernel_rfl) : A.tmps[d]?.getD undef = v :=
  slot_out hA hB (sH d h hd) e o
theorem Same.k {a a' : Act} {ds : List Nat} {d : Nat} {v : Value} (hs : Same a a' ds) (o : Sl a d v) (h : ds.contains d = false := by decide) : Sl a' d v := hs.keep d v h o
theorem sS {a a' : Act} {ds : List Nat} (h : Same a a' ds := by repeat (first | (with_reducible refine same_set (by decide) ?_) | (with_reducible exact same_nil))) : Same a a' ds := h
theorem sP {a : Act} {d : Nat} {v : Value} (h : Sl a d v := by unfold Sl; first | (simp [hsz]; done) | (simp [hsz]; omega)) : Sl a d v := h
theorem sP0 {a : Act} {d : Nat} {v : Value} (h : Sl a d v := by unfold Sl; simp [hsz]) : Sl a d v := h
theorem sU {vs : Nat → Value} {l : List Oper} {a A : Act} {N : Nat} (d j : Nat) (hA : (fun vs => putAll vs l 0 a) vs = A) (hB : apartB l = true) (h : a.tmps.size = N) (hd : Nat.ble (d + 1) N = true := by rfl) (e : evA vs l 0 d = some (vs j) := by kernel_rfl) : A.tmps[d]?.getD undef = vs j :=
  slot_in hA hB (sH d h hd) e
def dstL (vs : Nat → Value) : List Oper → Nat → List (Nat × Value)
  | [], _ => []
  | o :: l, k => match o.dst with
    | some d => (d, vs k) :: dstL vs l (k + 1)
    | none => dstL vs l (k + 1)
theorem putAll_eq (vs : Nat → Value) : ∀ (l : List Oper) (k : Nat) (a : Act), putAll vs l k a = putD (dstL vs l k) a
  | [], _, _ => rfl
  | o :: l, k, a => by
    unfold putAll dstL
    rw [putAll_eq vs l (k + 1)]
    cases h : o.dst <;> rfl
theorem sQ {vs : Nat → Value} {l : List Oper} {a : Act} {ds : List Nat} (h : (dstL vs l 0).map (·.1) = ds := by kernel_rfl) : Same a (putD (dstL vs l 0) a) ds := h ▸ same_putD _ a
theorem sX {vs : Nat → Value} {l : List Oper} {a : Act} {d : Nat} {v : Value} (h : lastD (dstL vs l 0) d = some v := by kernel_rfl) : Sl (putD (dstL vs l 0) a) d v := sl_putD _ a d v h
theorem sW {vs : Nat → Value} {l : List Oper} {a : Act} {d j : Nat} {v : Value} (e : vs j = v) (h : lastD (dstL vs l 0) d = some (vs j) := by kernel_rfl) : Sl (putD (dstL vs l 0) a) d v := sl_putD _ a d v (h.trans (congrArg some e))
theorem sB {a b : Nat} (h : Nat.ble a b = true := by kernel_rfl) : a ≤ b := Nat.le_of_ble_eq_true h
theorem kR {S : List Nat} {w : World} : Kp S w w := Kp.refl S w
end
/- An ORDERED region, operation by operation, with guards: XInvG's way for regions that draw no order. -/
section

section
variable {P : Program} {Q : Exit → Act → World → Prop}
def InvStepS (P : Program) (Q : Exit → Act → World → Prop) (PV : Nat → Value → World → Prop) (W0 : World) (fr : (Nat → Value) → Act) (u0 : Nat → Value) (ops : Array Oper) (o : Oper) (i : Nat) : Prop :=
  ∀ (vs : Nat → Value) (A : Act) (W : World), fr vs = A → Kp [] W0 W → (∀ j, Nat.blt j i = true → PV j (vs j) W) → (∀ j, Nat.ble i j = true → vs j = u0 j) →
    ∀ K : Act → World → Prop, (∀ v W', Kp [] W W' → PV i v W' → K (A.put o.dst v) W') → wpOp P ops (Qn Q) i K A W
def InvStepsS (P : Program) (Q : Exit → Act → World → Prop) (PV : Nat → Value → World → Prop) (W0 : World) (fr : (Nat → Value) → Act) (u0 : Nat → Value) (ops : Array Oper) : List Oper → Nat → Prop
  | [], _ => True
  | o :: l, i => InvStepS P Q PV W0 fr u0 ops o i ∧ InvStepsS P Q PV W0 fr u0 ops l (i + 1)
theorem wpList_of_op {ops : Array Oper} {o : Oper} {rest : List Oper} {a : Act} {w : World} {i : Nat} (ho : ops[i]? = some o) (h : wpOp P ops Q i (wpList P ops Q rest) a w) : wpList P ops Q (o :: rest) a w := by
  unfold wpOp at h
  simp only [ho] at h
  unfold wpList
  exact h
theorem seq_inv {PV : Nat → Value → World → Prop} {W0 : World} {a0 : Act} {l l2 : List Oper} {ops : Array Oper} (hops : ∀ (i : Nat) (o : Oper), l[i]? = some o → ops[i]? = some o) (hst : ∀ i v W W', PV i v W → Kp [] W W' → PV i v W') (hap : apartB l = true)
    (hend : ∀ vs W, Kp [] W0 W → (∀ i, i < l.length → PV i (vs i) W) → wpList P ops Q l2 (putAll vs l 0 a0) W) :
    ∀ (rest : List Oper) (i : Nat) (vs : Nat → Value) (W : World), l.drop i = rest → InvStepsS P Q PV W0 (fun vs => putAll vs l 0 a0) (at0 a0 l) ops rest i → Kp [] W0 W → (∀ j, j < i → PV j (vs j) W) → (∀ j, i ≤ j → vs j = at0 a0 l j) →
      wpList P ops Q (rest ++ l2) (putAll vs l 0 a0) W
  | [], i, vs, W, hr, _, hk, hp, _ => by
    have hi : l.length ≤ i := List.drop_eq_nil_iff.1 hr
    exact hend vs W hk (fun j hj => hp j (by omega))
  | o :: rest, i, vs, W, hr, hs, hk, hp, hu => by
    have hol : l[i]? = some o := by
      have : (l.drop i)[0]? = some o := by rw [hr]; rfl
      rwa [List.getElem?_drop, Nat.add_zero] at this
    have hr2 : l.drop (i + 1) = rest := by
      rw [← List.drop_drop, hr]; rfl
    refine wpList_of_op (i := i) (hops i o hol) (wpOp_n ?_)
    refine hs.1 vs _ W rfl hk (fun j hj => hp j (by simpa [Nat.blt_eq] using hj)) (fun j hj => hu j (by simpa [Nat.ble_eq] using hj)) _ fun v W' hk' hv => ?_
    rw [putAll_upd vs i v l 0 a0 o hap (Nat.zero_le _) (by simpa using hol)]
    refine seq_inv hops hst hap hend rest (i + 1) _ W' hr2 hs.2 (hk.trans hk' (by simp)) (fun j hj => ?_) (fun j hj => ?_)
    · by_cases e : j = i
      · subst e; simpa [upd] using hv
      · simp only [upd, if_neg e]
        exact hst j _ W W' (hp j (by omega)) hk'
    · simp only [upd, if_neg (show j ≠ i by omega)]
      exact hu j (by omega)
/-- The region's rule: the first k operations so, what is behind them is walked. -/
theorem wp_region_invSL {id : Nat} {a : Act} {w : World} {l : List Oper} (k : Nat) (PV : Nat → Value → World → Prop) (hap : apartB (l.take k) = true)
    (hst : ∀ i v W W', PV i v W → Kp [] W W' → PV i v W')
    (hs : InvStepsS P Q PV w (fun vs => putAll vs (l.take k) 0 a) (at0 a (l.take k)) l.toArray (l.take k) 0)
    (hend : ∀ vs W, Kp [] w W → (∀ i, i < (l.take k).length → PV i (vs i) W) → wpList P l.toArray Q (l.drop k) (putAll vs (l.take k) 0 a) W) : (Code.region id l.toArray false).wp P Q a w := by
  refine wp_region_lit (l := l) ?_
  have h := seq_inv (P := P) (Q := Q) (a0 := a) (l := l.take k) (l2 := l.drop k) (ops := l.toArray) (fun i o h => by
    rw [List.getElem?_take] at h
    split at h
    · simpa using h
    · cases h) hst hap hend (l.take k) 0 (at0 a (l.take k)) w rfl hs (Kp.refl _ _) (fun j hj => by omega) (fun _ _ => rfl)
  rwa [List.take_append_drop, putAll_at a (l.take k) 0 (at0 a (l.take k)) (fun j o ho => by simp only [at0, Nat.zero_add, ho])] at h
/-- The region's rule. -/
theorem wp_region_invS {id : Nat} {a : Act} {w : World} {l : List Oper} (PV : Nat → Value → World → Prop) (hap : apartB l = true)
    (hst : ∀ i v W W', PV i v W → Kp [] W W' → PV i v W')
    (hs : InvStepsS P Q PV w (fun vs => putAll vs l 0 a) (at0 a l) l.toArray l 0)
    (hend : ∀ vs W, Kp [] w W → (∀ i, i < l.length → PV i (vs i) W) → Q .normal (putAll vs l 0 a) W) : (Code.region id l.toArray false).wp P Q a w := by
  refine wp_region_lit (l := l) ?_
  have h := seq_inv (P := P) (Q := Q) (a0 := a) (l := l) (l2 := []) (ops := l.toArray) (fun i o h => by simpa using h) hst hap hend l 0 (at0 a l) w rfl hs (Kp.refl _ _) (fun j hj => by omega) (fun _ _ => rfl)
  rwa [List.append_nil, putAll_at a l 0 (at0 a l) (fun j o ho => by simp [at0, ho])] at h
end
end
/- A region that draws its order, operation by operation, where operations make things and turn things of the call's own (append onto a row that was made before, a store into a block): each thing has one number (of the operation that made it, or, from the operations' count on, of what was held ahead of the region); an operation TAKES what it turns and READS what it looks at. Each operation is walked once, whatever order is picked. -/
section

section
variable {P : Program} {Q : Exit → Act → World → Prop} {Γ : Type}
def upg (gs : Nat → Γ) (i : Nat) (γ : Γ) : Nat → Γ := fun k => if k = i then γ else gs k

/-- All that is asked of the numbers: what an operation takes or reads is there when it comes up, and nobody else takes it ahead of it. -/
def sepB (l : List Oper) (m : Nat) (tk rd : Nat → List Nat) : Bool :=
  (List.range l.length).all fun i => match l[i]? with
    | none => false
    | some o => (tk i ++ rd i).all (fun s => decide (s < m) && (decide (s < i) || decide (l.length ≤ s)) && (decide (l.length ≤ s) || waitsF .any l.toArray o s)) && decide (tk i).Nodup && (tk i).all (fun s => !(rd i).contains s) &&
      (List.range l.length).all fun k => decide (k = i) || match l[k]? with
        | none => false
        | some ok => (tk k).all fun s => !(tk i).contains s && (!(rd i).contains s || waitsF .any l.toArray ok i)
structure SepOk (l : List Oper) (m : Nat) (tk rd : Nat → List Nat) : Prop where
  lt : ∀ i o s, l[i]? = some o → s ∈ tk i ∨ s ∈ rd i → s < m
  early : ∀ i o s, l[i]? = some o → s ∈ tk i ∨ s ∈ rd i → s < i ∨ l.length ≤ s
  wait : ∀ i o s, l[i]? = some o → s ∈ tk i ∨ s ∈ rd i → s < l.length → waitsF .any l.toArray o s = true
  nodup : ∀ i o, l[i]? = some o → (tk i).Nodup
  own : ∀ i o s, l[i]? = some o → s ∈ tk i → s ∉ rd i
  one : ∀ i k o ok s, l[i]? = some o → l[k]? = some ok → i ≠ k → s ∈ tk k → s ∉ tk i
  late : ∀ i k o ok s, l[i]? = some o → l[k]? = some ok → i ≠ k → s ∈ tk k → s ∈ rd i → waitsF .any l.toArray ok i = true
theorem sepB_spec {l : List Oper} {m : Nat} {tk rd : Nat → List Nat} (h : sepB l m tk rd = true) : SepOk l m tk rd := by
  have h1 : ∀ i o, l[i]? = some o → _ := fun i o ho => by
    have hi : i < l.length := (List.getElem?_eq_some_iff.1 ho).1
    have := (List.all_eq_true.1 h) i (List.mem_range.2 hi)
    rw [ho] at this
    simp only [Bool.and_eq_true] at this
    exact this
  refine ⟨fun i o s ho hs => ?_, fun i o s ho hs => ?_, fun i o s ho hs hl => ?_, fun i o ho => ?_, fun i o s ho hs hr => ?_, fun i k o ok s ho hk hne hs ht => ?_, fun i k o ok s ho hk hne hs hr => ?_⟩
  · have := (List.all_eq_true.1 (h1 i o ho).1.1.1) s (List.mem_append.2 hs)
    simp only [Bool.and_eq_true, decide_eq_true_eq] at this
    exact this.1.1
  · have := (List.all_eq_true.1 (h1 i o ho).1.1.1) s (List.mem_append.2 hs)
    simp only [Bool.and_eq_true, Bool.or_eq_true, decide_eq_true_eq] at this
    exact this.1.2
  · have := (List.all_eq_true.1 (h1 i o ho).1.1.1) s (List.mem_append.2 hs)
    simp only [Bool.and_eq_true, Bool.or_eq_true, decide_eq_true_eq] at this
    rcases this.2 with h | h
    · omega
    · exact h
  · simpa using (h1 i o ho).1.1.2
  · have := (List.all_eq_true.1 (h1 i o ho).1.2) s hs
    simp at this
    exact this hr
  · have := (List.all_eq_true.1 (h1 i o ho).2) k (List.mem_range.2 (List.getElem?_eq_some_iff.1 hk).1)
    rw [hk] at this
    simp only [Bool.or_eq_true, decide_eq_true_eq] at this
    rcases this with e | this
    · exact hne e.symm
    · have := (List.all_eq_true.1 this) s hs
      simp only [Bool.and_eq_true] at this
      have := this.1
      simp at this
      exact this ht
  · have := (List.all_eq_true.1 (h1 i o ho).2) k (List.mem_range.2 (List.getElem?_eq_some_iff.1 hk).1)
    rw [hk] at this
    simp only [Bool.or_eq_true, decide_eq_true_eq] at this
    rcases this with e | this
    · exact absurd e.symm hne
    · have := (List.all_eq_true.1 this) s hs
      simp only [Bool.and_eq_true, Bool.or_eq_true] at this
      rcases this.2 with h | h
      · simp at h; exact absurd hr h
      · exact h

/-- Is thing s there, and not taken? -/
def liveB (n : Nat) (tk : Nat → List Nat) (listed : Array Bool) (s : Nat) : Bool :=
  (decide (n ≤ s) || listed.getD s false) && (List.range n).all fun k => !(listed.getD k false) || !(tk k).contains s
def liveL (n m : Nat) (tk : Nat → List Nat) (RS : Nat → (Nat → Value) → (Nat → Γ) → List Res) (listed : Array Bool) (vs : Nat → Value) (gs : Nat → Γ) : List Res :=
  (List.range m).flatMap fun s => if liveB n tk listed s then RS s vs gs else []
theorem liveB_true {n : Nat} {tk : Nat → List Nat} {listed : Array Bool} {s : Nat} : liveB n tk listed s = true ↔ (n ≤ s ∨ listed.getD s false = true) ∧ ∀ k, k < n → listed.getD k false = true → s ∉ tk k := by
  simp only [liveB, Bool.and_eq_true, Bool.or_eq_true, decide_eq_true_eq, List.all_eq_true, List.mem_range]
  constructor
  · rintro ⟨h1, h2⟩
    refine ⟨h1, fun k hk hl hm => ?_⟩
    have := h2 k hk
    rw [hl] at this
    simp at this
    exact this hm
  · rintro ⟨h1, h2⟩
    refine ⟨h1, fun k hk => ?_⟩
    cases hl : listed.getD k false with
    | false => simp
    | true => simpa using h2 k hk hl

theorem flatMap_congr' {α β : Type} : ∀ {l : List α} {f g : α → List β}, (∀ x ∈ l, f x = g x) → l.flatMap f = l.flatMap g
  | [], _, _, _ => rfl
  | x :: l, f, g, h => by
    rw [List.flatMap_cons, List.flatMap_cons, h x (by simp), flatMap_congr' (fun y hy => h y (by simp [hy]))]
theorem flatMap_part {α β : Type} (l : List α) (f g : α → List β) : (l.flatMap fun s => f s ++ g s).Perm (l.flatMap f ++ l.flatMap g) := by
  induction l with
  | nil => exact List.Perm.refl _
  | cons x l ih =>
    simp only [List.flatMap_cons, List.append_assoc]
    exact (List.Perm.append_left (f x) ((List.Perm.append_left (g x) ih).trans (List.perm_append_comm_assoc _ _ _)))
theorem flatMap_perm {α β : Type} {l l' : List α} (h : l.Perm l') (f : α → List β) : (l.flatMap f).Perm (l'.flatMap f) := by
  induction h with
  | nil => exact List.Perm.refl _
  | cons x _ ih => simp only [List.flatMap_cons]; exact ih.append_left _
  | swap x y l => simp only [List.flatMap_cons]; exact List.perm_append_comm_assoc _ _ _
  | trans _ _ ih1 ih2 => exact ih1.trans ih2
theorem flatMap_filter_if {α β : Type} (l : List α) (p : α → Bool) (f : α → List β) : (l.flatMap fun s => if p s then f s else []) = (l.filter p).flatMap f := by
  induction l with
  | nil => rfl
  | cons x l ih =>
    by_cases h : p x = true
    · simp only [List.flatMap_cons, List.filter_cons, h, if_true, ih]
    · simp only [List.flatMap_cons, List.filter_cons, h, ih]; simp
theorem filter_perm_of {l T : List Nat} (hl : l.Nodup) (hT : T.Nodup) (hs : ∀ x ∈ T, x ∈ l) : (l.filter fun x => T.contains x).Perm T :=
  (List.perm_ext_iff_of_nodup (hl.filter _) hT).2 fun x => by
    rw [List.mem_filter]
    constructor
    · rintro ⟨_, h⟩; simpa using h
    · intro h; exact ⟨hs x h, by simpa using h⟩
/-- The things of T, apart from the rest. -/
theorem part_off {β : Type} {m : Nat} {T : List Nat} (hT : T.Nodup) (hs : ∀ x ∈ T, x < m) (p : Nat → Bool) (hp : ∀ x ∈ T, p x = true) (f : Nat → List β) :
    ((List.range m).flatMap fun s => if p s then f s else []).Perm (T.flatMap f ++ (List.range m).flatMap fun s => if p s && !T.contains s then f s else []) := by
  have h1 : ((List.range m).flatMap fun s => if p s then f s else []) = (List.range m).flatMap fun s => (if T.contains s then f s else []) ++ (if p s && !T.contains s then f s else []) := by
    congr 1
    funext s
    by_cases hc : T.contains s = true
    · have := hp s (by simpa using hc)
      simp only [this, hc, if_true, Bool.not_true, Bool.and_false, Bool.false_eq_true, if_false, List.append_nil]
    · have hc' : T.contains s = false := by simpa using hc
      simp only [hc', Bool.false_eq_true, if_false, Bool.not_false, Bool.and_true, List.nil_append]
  rw [h1]
  refine (flatMap_part _ _ _).trans (List.Perm.append_right _ ?_)
  rw [flatMap_filter_if]
  exact flatMap_perm (filter_perm_of List.nodup_range hT (fun x hx => List.mem_range.2 (hs x hx))) f

/-- What is said of s rests on the values of numbers that s waits for, and on its own. -/
def depB (l : List Oper) (m : Nat) (dp : Nat → List Nat) : Bool :=
  (List.range m).all fun s => match l[s]? with
    | none => (dp s).isEmpty
    | some o => (dp s).all fun j => decide (j = s) || (decide (j < l.length) && waitsF .any l.toArray o j)
theorem depB_spec {l : List Oper} {m : Nat} {dp : Nat → List Nat} (h : depB l m dp = true) {s : Nat} (hs : s < m) : (l.length ≤ s → dp s = []) ∧ ∀ o, l[s]? = some o → ∀ j, j ∈ dp s → j = s ∨ waitsF .any l.toArray o j = true := by
  have := (List.all_eq_true.1 h) s (List.mem_range.2 hs)
  constructor
  · intro hl
    rw [List.getElem?_eq_none hl] at this
    simpa using this
  · intro o ho j hj
    rw [ho] at this
    have := (List.all_eq_true.1 this) j hj
    simp only [Bool.or_eq_true, Bool.and_eq_true, decide_eq_true_eq] at this
    exact this.imp id (·.2)
/-- What is to be shown of each operation. -/
def SepStep (P : Program) (Q : Exit → Act → World → Prop) (PV : Nat → (Nat → Value) → (Nat → Γ) → Prop) (RS : Nat → (Nat → Value) → (Nat → Γ) → List Res) (tk rd : Nat → List Nat) (w0 : World) (a0 : Act) (fr : (Nat → Value) → Act) (ops : Array Oper) (o : Oper) (i : Nat) : Prop :=
  ∀ (vs : Nat → Value) (gs : Nat → Γ) (A : Act) (W : World) (L : List Res), fr vs = A → Held w0 W ((tk i).flatMap (fun s => RS s vs gs) ++ L) → (∀ s, s ∈ rd i → ∀ r, r ∈ RS s vs gs → r ∈ L) → (∀ j, waitsF .any ops o j = true → PV j vs gs) → (∀ j oj, ops[j]? = some oj → waitsF .any ops oj i = true → vs j = slotOf a0 oj.dst) →
    ∀ K : Act → World → Prop, (∀ γ v W', Held w0 W' (RS i (upd vs i v) (upg gs i γ) ++ L) → PV i (upd vs i v) (upg gs i γ) → K (A.put o.dst v) W') → o.wp P A W K (Qn Q)
def SepSteps (P : Program) (Q : Exit → Act → World → Prop) (PV : Nat → (Nat → Value) → (Nat → Γ) → Prop) (RS : Nat → (Nat → Value) → (Nat → Γ) → List Res) (tk rd : Nat → List Nat) (w0 : World) (a0 : Act) (fr : (Nat → Value) → Act) (ops : Array Oper) : List Oper → Nat → Prop
  | [], _ => True
  | o :: l, i => SepStep P Q PV RS tk rd w0 a0 fr ops o i ∧ SepSteps P Q PV RS tk rd w0 a0 fr ops l (i + 1)
theorem SepSteps.at_ {PV : Nat → (Nat → Value) → (Nat → Γ) → Prop} {RS : Nat → (Nat → Value) → (Nat → Γ) → List Res} {tk rd : Nat → List Nat} {w0 : World} {a0 : Act} {fr : (Nat → Value) → Act} {ops : Array Oper} : ∀ {l : List Oper} {k : Nat}, SepSteps P Q PV RS tk rd w0 a0 fr ops l k → ∀ {i o}, l[i]? = some o → SepStep P Q PV RS tk rd w0 a0 fr ops o (k + i)
  | [], _, _, _, _, h => by simp at h
  | x :: l, k, hs, i, o, h => by
    rcases i with _ | i
    · obtain rfl : x = o := by simpa using h
      exact hs.1
    · have := hs.2.at_ (i := i) (o := o) (by simpa using h)
      rwa [show k + 1 + i = k + (i + 1) from by omega] at this

theorem sep_any {PV : Nat → (Nat → Value) → (Nat → Γ) → Prop} {RS : Nat → (Nat → Value) → (Nat → Γ) → List Res} {tk rd : Nat → List Nat} {m : Nat} {w0 : World} {a0 : Act} {l : List Oper} (hsep : SepOk l m tk rd) (hnm : l.length ≤ m) (dp : Nat → List Nat) (hdp : depB l m dp = true) (hd : ∀ s vs vs' gs gs', (∀ j, j ∈ dp s → vs j = vs' j ∧ gs j = gs' j) → RS s vs gs = RS s vs' gs' ∧ (PV s vs gs → PV s vs' gs')) (hap : apartB l = true) (hea : earlierB l 0 = true)
    (hs : SepSteps P Q PV RS tk rd w0 a0 (fun vs => putAll vs l 0 a0) l.toArray l 0)
    (hend : ∀ vs gs W listed, (∀ i, i < l.length → listed.getD i false = true) → Held w0 W (liveL l.length m tk RS listed vs gs) → (∀ i, i < l.length → PV i vs gs) → Q .normal (putAll vs l 0 a0) W) :
    ∀ (fuel : Nat) (listed : Array Bool) (vs : Nat → Value) (gs : Nat → Γ) (W : World), listed.size = l.length → (listed.toList.filter (fun b => !b)).length = fuel → Closed .any l.toArray listed → Held w0 W (liveL l.length m tk RS listed vs gs) → (∀ i, listed.getD i false = true → PV i vs gs) → (∀ j oj, l[j]? = some oj → listed.getD j false = false → vs j = slotOf a0 oj.dst) →
      wpAny P .any l.toArray Q fuel listed (putAll vs l 0 a0) W := by
  have all_of : ∀ (listed : Array Bool), listed.size = l.length → Region.ready .any l.toArray listed = [] → ∀ i, i < l.length → listed.getD i false = true := by
    intro listed hsz hr i
    induction i using Nat.strongRecOn with
    | _ i ih =>
      intro hi
      cases hl : listed.getD i false with
      | true => rfl
      | false =>
        exfalso
        have hlt : i < listed.size := by omega
        have hmem : i ∈ Region.ready .any l.toArray listed := mem_ready.2 ⟨by simp [hlt] at hl ⊢; exact hl, l[i], by simp [hi], fun e he hb => by
          have := (earlierB_spec l 0 i l[i] hea (by simp [hi])).1 e he hb
          exact ih e.on (by omega) (by omega)⟩
        rw [hr] at hmem; cases hmem
  have hnil : ∀ (listed : Array Bool) vs gs W, listed.size = l.length → Held w0 W (liveL l.length m tk RS listed vs gs) → (∀ i, listed.getD i false = true → PV i vs gs) → Region.ready .any l.toArray listed = [] → Q .normal (putAll vs l 0 a0) W :=
    fun listed vs gs W hsz hS hp hr => hend vs gs W listed (all_of listed hsz hr) hS (fun i hi => hp i (all_of listed hsz hr i hi))
  intro fuel
  induction fuel with
  | zero =>
    intro listed vs gs W hsz hf hcl hS hp _
    have hr : Region.ready .any l.toArray listed = [] := by
      refine List.eq_nil_iff_forall_not_mem.2 fun i hi => ?_
      have h0 := (mem_ready.1 hi).1
      obtain ⟨_, o, ho, _⟩ := mem_ready.1 hi
      have hlt : i < listed.size := by
        have := (Array.getElem?_eq_some_iff.1 ho).1
        simp at this; omega
      have : listed[i] ∈ listed.toList.filter (fun b => !b) := by
        rw [List.mem_filter]
        simp [hlt] at h0
        refine ⟨by simp, by simp [h0]⟩
      rw [List.eq_nil_of_length_eq_zero hf] at this
      cases this
    exact ⟨hr, hnil listed vs gs W hsz hS hp hr⟩
  | succ fuel ih =>
    intro listed vs gs W hsz hf hcl hS hp hv0
    refine ⟨hnil listed vs gs W hsz hS hp, fun i hi => ?_⟩
    obtain ⟨h0, o, ho, hall⟩ := mem_ready.1 hi
    have hol : l[i]? = some o := by simpa using ho
    have hil : i < l.length := (List.getElem?_eq_some_iff.1 hol).1
    have hlt : i < listed.size := by omega
    have hli : listed.getD i false = false := by simp [hlt] at h0 ⊢; exact h0
    have hgd := (earlierB_spec l 0 i o hea hol).2
    -- what it takes and reads is there
    have hlive : ∀ s, s ∈ tk i ∨ s ∈ rd i → liveB l.length tk listed s = true := fun s hs => by
      refine liveB_true.2 ⟨?_, fun k hk hkl hm => ?_⟩
      · by_cases hsl : s < l.length
        · exact .inr (waitsF_spec (hsep.wait i o s hol hs hsl) listed hcl hall)
        · exact .inl (by omega)
      · have hkl' : l[k]? = some l[k] := List.getElem?_eq_getElem hk
        have hne : i ≠ k := by rintro rfl; rw [hli] at hkl; cases hkl
        rcases hs with hs | hs
        · exact hsep.one i k o _ s hol hkl' hne hm hs
        · have hw := hsep.late i k o _ s hol hkl' hne hm hs
          have := waitsF_spec hw listed hcl (hcl k l[k] (by simp [hk]) hkl)
          rw [hli] at this
          cases this
    have hnot : liveB l.length tk listed i = false := by
      apply Bool.eq_false_iff.2
      intro h
      rcases (liveB_true.1 h).1 with h | h
      · omega
      · rw [hli] at h; cases h
    have hnew : ∀ s, liveB l.length tk (listed.setIfInBounds i true) s = (decide (s = i) || (liveB l.length tk listed s && !(tk i).contains s)) := fun s => by
      apply Bool.eq_iff_iff.2
      rw [Bool.or_eq_true, decide_eq_true_eq, Bool.and_eq_true, liveB_true, liveB_true]
      have hni : ∀ k, k < l.length → (listed.setIfInBounds i true).getD k false = true → i ∉ tk k := fun k hk hkl hm => by
        by_cases hki : k = i
        · subst hki
          have := hsep.early k o k hol (.inl hm)
          omega
        · rw [getD_set_ne false (fun h => hki h.symm)] at hkl
          have hkl' : l[k]? = some l[k] := List.getElem?_eq_getElem hk
          have hw := hsep.wait k l[k] i hkl' (.inl hm) hil
          have := waitsF_spec hw listed hcl (hcl k l[k] (by simp [hk]) hkl)
          rw [hli] at this
          cases this
      constructor
      · rintro ⟨h1, h2⟩
        by_cases hsi : s = i
        · exact .inl hsi
        · right
          rw [getD_set_ne false (fun h => hsi h.symm)] at h1
          refine ⟨⟨h1, fun k hk hkl => h2 k hk (getD_set_true hkl)⟩, ?_⟩
          have := h2 i hil (by simp [hlt])
          simpa using this
      · rintro (rfl | ⟨⟨h1, h2⟩, h3⟩)
        · exact ⟨.inr (by simp [hlt]), hni⟩
        · refine ⟨h1.imp id getD_set_true, fun k hk hkl hm => ?_⟩
          by_cases hki : k = i
          · subst hki
            simp at h3
            exact h3 hm
          · rw [getD_set_ne false (fun h => hki h.symm)] at hkl
            exact h2 k hk hkl hm
    obtain ⟨L, hL⟩ : ∃ L, L = (List.range m).flatMap fun s => if liveB l.length tk listed s && !(tk i).contains s then RS s vs gs else [] := ⟨_, rfl⟩
    have hperm : (liveL l.length m tk RS listed vs gs).Perm ((tk i).flatMap (fun s => RS s vs gs) ++ L) := by
      rw [hL]
      exact part_off (hsep.nodup i o hol) (fun x hx => hsep.lt i o x hol (.inl hx)) _ (fun x hx => hlive x (.inl hx)) _
    have hread : ∀ s, s ∈ rd i → ∀ r, r ∈ RS s vs gs → r ∈ L := fun s hs r hr => by
      rw [hL]
      refine List.mem_flatMap.2 ⟨s, List.mem_range.2 (hsep.lt i o s hol (.inr hs)), ?_⟩
      have h1 := hlive s (.inr hs)
      have h2 : (tk i).contains s = false := by
        have : s ∉ tk i := fun h => hsep.own i o s hol h hs
        simpa using this
      simp only [h1, h2, Bool.not_false, Bool.and_true, if_true]
      exact hr
    have hsame : ∀ v γ s, s < m → s ≠ i → (l.length ≤ s ∨ listed.getD s false = true) → RS s vs gs = RS s (upd vs i v) (upg gs i γ) ∧ (PV s vs gs → PV s (upd vs i v) (upg gs i γ)) := fun v γ s hsm hsi hs => by
      refine hd s vs _ gs _ (fun j hj => ?_)
      obtain ⟨d1, d2⟩ := depB_spec hdp hsm
      by_cases hsl : s < l.length
      · have hls : listed.getD s false = true := by
          rcases hs with h | h
          · omega
          · exact h
        have hji : j ≠ i := by
          rintro rfl
          rcases d2 l[s] (List.getElem?_eq_getElem hsl) _ hj with h | h
          · exact hsi h.symm
          · have := waitsF_spec h listed hcl (hcl s l[s] (by simp [hsl]) hls)
            rw [hli] at this
            cases this
        simp [upd, upg, hji]
      · rw [d1 (by omega)] at hj
        cases hj
    have hafter : ∀ v γ, (liveL l.length m tk RS (listed.setIfInBounds i true) (upd vs i v) (upg gs i γ)).Perm (RS i (upd vs i v) (upg gs i γ) ++ L) := fun v γ => by
      unfold liveL
      have h1 := part_off (T := [i]) (by simp) (m := m) (fun x hx => by simp at hx; omega) (fun s => liveB l.length tk (listed.setIfInBounds i true) s) (fun x hx => by
        simp at hx; subst hx; rw [hnew]; simp) (fun s => RS s (upd vs i v) (upg gs i γ))
      refine h1.trans ?_
      have h2 : ([i].flatMap fun s => RS s (upd vs i v) (upg gs i γ)) = RS i (upd vs i v) (upg gs i γ) := by simp
      rw [h2, hL]
      refine List.Perm.append_left _ (List.Perm.of_eq ?_)
      apply flatMap_congr'
      intro s hsm
      have hsm := List.mem_range.1 hsm
      by_cases hsi : s = i
      · subst hsi
        simp [hnot]
      · rw [hnew]
        have h3 : [i].contains s = false := by simpa using hsi
        simp only [h3, hsi, decide_false, Bool.false_or, Bool.not_false, Bool.and_true]
        by_cases hlv : (liveB l.length tk listed s && !(tk i).contains s) = true
        · rw [if_pos hlv, if_pos hlv]
          rw [Bool.and_eq_true] at hlv
          exact (hsame v γ s hsm hsi (liveB_true.1 hlv.1).1).1.symm
        · rw [if_neg hlv, if_neg hlv]
    refine wpOp_n ?_
    unfold wpOp
    simp only [ho]
    rw [if_pos (by simp [Region.wanted, hgd])]
    refine .inl ?_
    have hstep := hs.at_ hol
    rw [Nat.zero_add] at hstep
    refine hstep vs gs _ W L rfl (hS.perm hperm) hread (fun j hj => hp j (waitsF_spec hj listed hcl hall)) (fun j oj hj hw => hv0 j oj (by simpa using hj) (by
      cases hjl : listed.getD j false with
      | false => rfl
      | true =>
        have := waitsF_spec hw listed hcl (hcl j oj hj hjl)
        rw [hli] at this
        cases this)) _ fun γ v W' hS' hv => ?_
    rw [putAll_upd vs i v l 0 a0 o hap (Nat.zero_le _) (by simpa using hol)]
    refine ih _ _ (upg gs i γ) W' (by simpa using hsz) ?_ (hcl.add hi) (hS'.perm (hafter v γ).symm) (fun j hj => ?_) (fun j oj hj hjl => ?_)
    · simp [hlt] at h0
      have h1 : listed.toList = listed.toList.take i ++ false :: listed.toList.drop (i + 1) := by
        rw [← h0]
        have := List.take_append_drop i listed.toList
        rw [List.drop_eq_getElem_cons (by simpa using hlt)] at this
        simpa using this.symm
      have h2 : (listed.setIfInBounds i true).toList = listed.toList.take i ++ true :: listed.toList.drop (i + 1) := by
        rw [Array.toList_setIfInBounds]
        conv => lhs; rw [h1]
        rw [List.set_append_right _ _ (by simp; omega)]
        simp [Nat.min_eq_left (Nat.le_of_lt hlt)]
      rw [h1] at hf
      rw [h2]
      simp only [List.filter_append, List.filter_cons, List.length_append] at hf ⊢
      simp at hf ⊢
      omega
    · by_cases e : i = j
      · subst e; exact hv
      · rw [getD_set_ne false e] at hj
        have hjm : j < m := by
          by_cases hjl : j < l.length
          · omega
          · simp [show ¬ j < listed.size by omega] at hj
        exact (hsame v γ j hjm (fun h => e h.symm) (.inr hj)).2 (hp j hj)
    · by_cases e : i = j
      · subst e
        simp [hlt] at hjl
      · rw [getD_set_ne false e] at hjl
        rw [← hv0 j oj hj hjl]
        simp [upd, show j ≠ i from fun h => e h.symm]

/-- Not taken by anyone. -/
def endB (n : Nat) (tk : Nat → List Nat) (s : Nat) : Bool := (List.range n).all fun k => !(tk k).contains s
/-- The region's rule. RS: the things by their numbers (from l.length on: those held ahead of it, I); fin: the numbers that nobody takes. -/
theorem wp_region_sep [Inhabited Γ] {id : Nat} {a : Act} {w0 w : World} {l : List Oper} (m : Nat) (fin : List Nat) (PV : Nat → (Nat → Value) → (Nat → Γ) → Prop) (RS : Nat → (Nat → Value) → (Nat → Γ) → List Res) (tk rd : Nat → List Nat) {L0 : List Res} (hS : Held w0 w L0) (hm : P.follows .mixedOrders = true)
    (hap : apartB l = true) (hea : earlierB l 0 = true) (hsep : sepB l (l.length + m) tk rd = true) (dp : Nat → List Nat) (hdp : depB l (l.length + m) dp = true) (hd : ∀ s vs vs' gs gs', (∀ j, j ∈ dp s → vs j = vs' j ∧ gs j = gs' j) → RS s vs gs = RS s vs' gs' ∧ (PV s vs gs → PV s vs' gs')) (hfin : (List.range (l.length + m)).filter (endB l.length tk) = fin)
    (hL0 : ((List.range m).flatMap fun j => RS (l.length + j) (fun _ => undef) (fun _ => default)).Perm L0)
    (hs : SepSteps P Q PV RS tk rd w0 a (fun vs => putAll vs l 0 a) l.toArray l 0)
    (hend : ∀ vs gs W, Held w0 W (fin.flatMap fun s => RS s vs gs) → (∀ i, i < l.length → PV i vs gs) → Q .normal (putAll vs l 0 a) W) : (Code.region id l.toArray true).wp P Q a w := by
  refine wp_region_any hm ?_
  have h0 : ∀ i, (Array.replicate l.length false).getD i false = false := fun i => by
    simp [Array.getElem?_replicate]
    split <;> rfl
  have h := sep_any (P := P) (Q := Q) (m := l.length + m) (sepB_spec hsep) (by omega) dp hdp hd hap hea hs (fun vs gs W listed hall hS hp => hend vs gs W (by
      have : liveL l.length (l.length + m) tk RS listed vs gs = fin.flatMap fun s => RS s vs gs := by
        unfold liveL
        rw [flatMap_filter_if, ← hfin]
        congr 1
        apply List.filter_congr
        intro s hs
        have hs := List.mem_range.1 hs
        apply Bool.eq_iff_iff.2
        rw [liveB_true]
        simp only [endB, List.all_eq_true, List.mem_range]
        constructor
        · rintro ⟨_, h⟩ k hk
          simpa using h k hk (hall k hk)
        · intro h
          refine ⟨?_, fun k hk _ => by simpa using h k hk⟩
          by_cases hsl : s < l.length
          · exact .inr (hall s hsl)
          · exact .inl (by omega)
      rw [this] at hS
      exact hS) hp) l.length (Array.replicate l.length false) (at0 a l) (fun _ => default) w.drew (by simp) (by simp) (fun j oj _ hl => by rw [h0] at hl; cases hl) (by
      refine (hS.kp ((Kp.refl [] w).drew)).perm ?_
      refine hL0.symm.trans (List.Perm.of_eq ?_)
      unfold liveL
      rw [List.range_add, List.flatMap_append]
      have h1 : ((List.range l.length).flatMap fun s => if liveB l.length tk (Array.replicate l.length false) s then RS s (at0 a l) (fun _ => default) else []) = [] := by
        rw [List.flatMap_eq_nil_iff]
        intro s hs
        have hs := List.mem_range.1 hs
        rw [if_neg]
        intro h
        rcases (liveB_true.1 h).1 with h | h
        · omega
        · rw [h0] at h; cases h
      rw [h1, List.nil_append, List.flatMap_map]
      apply flatMap_congr'
      intro j hj
      have hj := List.mem_range.1 hj
      rw [if_pos (liveB_true.2 ⟨.inl (by simp), fun k _ hk => by rw [h0] at hk; cases hk⟩)]
      refine (hd _ _ _ _ _ (fun x hx => ?_)).1
      rw [(depB_spec hdp (by omega)).1 (by omega)] at hx
      cases hx) (fun i hi => by rw [h0] at hi; cases hi) (fun j oj hj _ => by simp [at0, hj])
  rw [putAll_at a l 0 (at0 a l) (fun j o ho => by simp [at0, ho])] at h
  simpa using h
end
end
/- Operations of a region walked by XSep: appends. -/
section
open Go.RowKit
/-- An instruction that yields v. -/
theorem op_runs {P : Program} {o : Oper} {a : Act} {w w' : World} {K : Act → World → Prop} {Q : Exit → Act → World → Prop} {v : Value} (h : (execOp a.eval o).run P w = .ok (.value v) w') (hK : K (a.put o.dst v) w') : o.wp P a w K Q := by
  unfold Oper.wp
  rw [h]
  exact hK
/-- append onto a row of the list; what is appended reads. -/
theorem op_app {P : Program} {o : Oper} {a : Act} {w0 w : World} {K : Act → World → Prop} {Q : Exit → Act → World → Prop} {L : List Res} (s x : Operand) (t e : TypeId)
    (ho : o.op = .call { callee := .builtin .append, args := #[s, x], argTypes := #[t, t] })
    {size bytes : Nat} {z : Value} (hI : (P.info? e).map (fun i => (i.zero, i.size, i.bytes)) = some (some z, size, bytes)) (ht : P.underlying t = some (.slice e)) (hzs : z.cells.size = size) (hsz : 0 < size)
    (v : Value) (n : Nat) (xs : List Value) (hs : a.eval s = v) (S : Held w0 w (rowR e size v n xs :: L))
    (y : Value) (m : Nat) (news : List Value) (hx : a.eval x = y) (hr : Rd w size y m news) (h1 : ∀ u ∈ news, u.oneCell' = true)
    (h63 : n + m ≤ maxLen) (hbytes : (n + m) * bytes ≤ 140737488355328)
    (h : ∀ v' w', Held w0 w' (rowR e size v' (n + m) (xs ++ news) :: L) → K (a.put o.dst v') w') : o.wp P a w K Q := by
  obtain ⟨i0, hi, hz, hsize, hby⟩ := info_parts hI
  obtain ⟨v', w', hrun, h2, h3, h4⟩ := run_app (P := P) w t o.type e i0 z size bytes ht hi hz hsize hby hzs hsz v n xs (S.at_ (l1 := [])) y m news hr h1 h63 hbytes
  refine op_runs (v := v') (w' := w') ?_ (h v' w' (S.grow (l1 := []) h2 h3 h4))
  unfold execOp
  simp only [ho, resolve, invoke, builtin, Sem.run_bind, Sem.run_pure, Result.andThen_ok, List.map_toArray, List.map_cons, List.map_nil, hs, hx, hrun]
end
/- Single operations: struct and slice literals of parts that are known. -/
section
theorem op_build {P : Program} {o : Oper} {a : Act} {w : World} {K : Act → World → Prop} {Q : Exit → Act → World → Prop} (t : TypeId) (parts : Array (Nat × Operand)) (ho : o.op = .build t parts) (ps : List (Nat × Value)) (hp : (parts.map fun (i, x) => (i, a.eval x)).toList = ps)
    (cells : Array Value) (hb : P.built t ps = some cells) (h : K (a.put o.dst (.agg cells)) w) : o.wp P a w K Q := by
  refine wp_build t parts ho (by rw [hp, hb]; rfl) ?_
  rw [hp, hb]
  exact h
end
/- Held lists: pull things to the front by number. -/
section
theorem Held.pull {w0 w : World} {L : List Res} (S : Held w0 w L) (i : Nat) {r : Res} (h : L[i]? = some r) : Held w0 w (r :: L.eraseIdx i) := by
  refine S.perm ?_
  clear S
  induction L generalizing i with
  | nil => simp at h
  | cons x L ih =>
    rcases i with _ | i
    · simp at h; subst h; exact List.Perm.refl _
    · exact ((ih i (by simpa using h)).cons x).trans (List.Perm.swap _ _ _)
/-- Some of what is held. -/
theorem Held.some_of {w0 w : World} {L L' : List Res} (S : Held w0 w L) (h : L'.Sublist L) : Held w0 w L' :=
  ⟨S.k, fun r hr => S.ok r (h.subset hr), fun r hr => S.base r (h.subset hr), List.Pairwise.sublist h S.apart⟩
end
end Go.Proofs.Ytgldgkdnnimglaa
