/- Walks of package crc: Append, New. -/
import Derived.Test.YtgldgkdnnimglaaCrcI
namespace Go.Proofs.Ytgldgkdnnimglaa
open Go.RowKit

theorem Try.infoSum : (Try.prog.info? 23).map (fun i => (i.zero, i.size, i.bytes)) = some (some (.int .u32 0), 1, 4) := by kernel_rfl
/-- What stands while a Sums goes on. -/
structure Sg (w wr : World) (p : Nat) (v0 v : Value) (bs : List UInt8) : Prop where
  sm : Sm wr p v bs
  kp : Kp (p :: v0.ownBlock.toList) w wr
  at_ : v.ownBlock = v0.ownBlock ∨ ∃ g, v.ownBlock = some g ∧ w.heap.size ≤ g
theorem Sg.start {w : World} {p : Nat} {v : Value} {bs : List UInt8} (h : Sm w p v bs) : Sg w w p v v bs := ⟨h, Kp.refl _ _, .inl rfl⟩
theorem Sg.step {w wr w1 : World} {p n m : Nat} {v0 v v' : Value} {bs : List UInt8} {b : UInt8} {o : Obj} (h : Sg w wr p v0 v bs) (hn : n = bs.length) (hm : m = more (crc bs) [b])
    (ho : Ow w1 23 1 v' (n + 1) (smv bs ++ [.int .u32 (m : Int)])) (hg : (wr.drew.alloc o).grownBy w1 v.ownBlock) (hat : v'.ownBlock = v.ownBlock ∨ v'.ownBlock = some (wr.drew.heap.size + 1)) :
    Sg w ((w1.setCell ⟨p, 1, none⟩ v').setCell ⟨p, 0, none⟩ (.int .i64 ((n : Int) + 1))) p v0 v' (bs ++ [b]) ∧ Blk w1 p 66 #[.int .i64 n, v] := by
  subst hn
  have k1 : Kp v.ownBlock.toList wr w1 := by
    have : Kp [] wr (wr.drew.alloc o) := ((Kp.refl [] wr).drew).alloc o
    refine (this.more (T := v.ownBlock.toList) (by simp)).grown hg (fun g hg => .inl (by simp [hg]))
  have hb : Blk w1 p 66 #[.int .i64 bs.length, v] := h.sm.1.kp k1 (fun hm => h.sm.ne (by simpa using hm))
  rw [hm, ← smv_snoc] at ho
  have hne := ow_blk_ne ho hb (by decide)
  have k2 : Kp [p] w1 ((w1.setCell ⟨p, 1, none⟩ v').setCell ⟨p, 0, none⟩ (.int .i64 ((bs.length : Int) + 1))) := ((Kp.refl [p] w1).setCell (.inl (by simp)) _).setCell (.inl (by simp)) _
  have hl : (bs ++ [b]).length = bs.length + 1 := by simp
  refine ⟨⟨⟨?_, ?_⟩, ?_, ?_⟩, hb⟩
  · rw [hl]
    have h2 := (hb.set_ 1 v').set_ 0 (.int .i64 ((bs.length : Int) + 1))
    exact h2
  · rw [hl]
    exact ow_kp ho k2 (fun g hg hm => by simp at hm; subst hm; exact hne hg)
  · refine (h.kp.trans k1 (fun g hg => ?_)).trans k2 (fun g hg => .inl (by simp at hg; simp [hg]))
    rcases h.at_ with e | ⟨g', e, hlt⟩
    · left; rw [e] at hg; exact List.mem_cons_of_mem _ hg
    · rw [e] at hg; simp at hg; subst hg; exact .inr hlt
  · have hsz := h.kp.size
    rcases hat with e | e
    · rw [e]; exact h.at_
    · exact .inr ⟨_, e, by simp; omega⟩

set_option maxRecDepth 100000 in
set_option maxHeartbeats 2000000 in
theorem append_any (p : Nat) (v0 : Value) (bs : List UInt8) (x : Value) (L : List (List UInt8)) (S : List Nat) (w : World) (h : Sm w p v0 bs) (hx : TxsIn w x L S) (hS : ∀ g, g ∈ S → g ∉ p :: v0.ownBlock.toList) (hb : bs.length + L.flatten.length ≤ 1073741824) (hLl : L.length ≤ 1073741824) :
    Calls Try.prog 34 #[.pointer (some ⟨p, 0, none⟩), x] w fun e w' => e = .returned (.int .i64 0) ∧ ∃ v, Sg w w' p v0 v (bs ++ L.flatten) := by
  obtain ⟨i0, hi, hz0, hz1, hz2⟩ := info_parts Try.infoSum
  obtain ⟨A, c, rfl, hA, -⟩ := hx.txs.open_
  obtain ⟨vs, hx1, hx2, hx3⟩ := hx
  have HA := Lib.hid hA
  have Hx1 := Lib.hid (fun (wr : World) (hk : Kp (p :: v0.ownBlock.toList) w wr) => hx1.kpl hk (fun g hg hne => hS g (hx3 g hg (fun e => by
    subst e
    exact hne (List.eq_nil_of_length_eq_zero (by simpa using hx1.1))))))
  have Hx2 := Lib.hid (fun (i : Nat) (hi : i < L.length) => hx2 i hi)
  have HS := Lib.hid hS
  have S0 := Sg.start h
  clear hA hx1 hx2 hx3 hS h
  go_enter Try.func34, Try.ntmps34
  go_wp2
  go_loopw [12] (fun t wr => ∃ (j : Nat) (v : Value), j ≤ L.length ∧ t = .int .i64 j ∧ Sg w wr p v0 v (bs ++ (L.take j).flatten)) (fun t _ => L.length - (intOf t).toNat)
  case atStart => exact ⟨0, v0, by omega, rfl, by simpa using S0⟩
  case round =>
    clear S0
    obtain ⟨j, v, hj, rfl, G⟩ := hrel
    by_cases hlt : j < L.length
    · obtain ⟨ad, rfl⟩ := HA.out (by omega)
      obtain ⟨u, hvu, hru, hub⟩ := Hx2.out j hlt
      obtain ⟨-, _, _, hv, -, -, -, h4⟩ := Hx1.out wr G.kp
      cases hv
      have hcell := h4 ad rfl j u hvu
      have Hu : Hid (∀ W, Kp (p :: v0.ownBlock.toList) w W → Rd W 1 u L[j].length (bv L[j])) := Lib.hid (fun W hk => hru.kpl hk (fun g hg hne => HS.out g (hub g hg (bv_ne hne))))
      obtain ⟨Au, cu, rfl, -, -, hnu, -⟩ := rd_get hru
      have Hfl := Lib.hid (crc_flat_succ L j hlt)
      have hfle : (bs ++ (L.take (j + 1)).flatten).length ≤ 1073741824 := by
        have e : L.flatten = (L.take (j + 1)).flatten ++ (L.drop (j + 1)).flatten := by rw [← List.flatten_append, List.take_append_drop]
        have := congrArg List.length e
        rw [List.length_append] at this
        rw [List.length_append]; omega
      rw [Hfl.out, ← List.append_assoc, List.length_append] at hfle
      have Hnu := Lib.hid hnu
      have Hnext : Hid (bs ++ (L.take (j + 1)).flatten = bs ++ (L.take j).flatten ++ L[j]) := Lib.hid (by rw [Hfl.out, List.append_assoc])
      clear hnu hru hub hvu h4 Hfl
      generalize bs ++ (L.take j).flatten = X at *
      generalize L[j] = l at *
      have hll : l.length ≤ maxLen := by unfold maxLen; omega
      unfold maxLen at hll
      have G' := Lib.hid G
      clear G
      go_wp2
      go_loopw [18] (fun t wr => ∃ (i : Nat) (v : Value), i ≤ l.length ∧ t = .int .i64 i ∧ Sg w wr p v0 v (X ++ l.take i)) (fun t _ => l.length - (intOf t).toNat)
      case atStart => exact ⟨0, v, by omega, rfl, by simpa using G'.out⟩
      case round =>
        clear G'
        obtain ⟨i, v1, hi2, rfl, G⟩ := hrel
        by_cases hil : i < l.length
        · have hru := Hu.out _ G.kp
          obtain ⟨_, _, hv, -, -, hA1, -⟩ := rd_get hru
          cases hv
          obtain ⟨au, rfl⟩ : ∃ a, Au = some a := by
            cases Au with
            | none => have := hA1 rfl; omega
            | some a => exact ⟨a, rfl⟩
          have hlc : l.length ≤ cu := by obtain ⟨_, _, _, hv, h1, _⟩ := hru; cases hv; exact h1
          have Hcut := Lib.hid (hru.cut (a := i) (k := 1) (by omega) (by omega))
          have htk : l.take (i + 1) = l.take i ++ [l[i]] := List.take_succ_eq_append_getElem hil
          have hd1 : (l.drop i).take 1 = [l[i]] := by rw [List.drop_eq_getElem_cons hil]; rfl
          rw [bv_drop, hd1] at Hcut
          have Htk : Hid (X ++ l.take (i + 1) = X ++ l.take i ++ [l[i]]) := Lib.hid (by rw [htk, List.append_assoc])
          have hbl : (X ++ l.take i).length ≤ 1073741824 := by rw [List.length_append, List.length_take]; omega
          generalize l[i] = b at *
          generalize X ++ l.take i = Y at *
          clear hru hA1 htk hd1
          have hc0 := G.sm.1.cell 0
          have hc1 := G.sm.1.cell 1
          simp at hc0 hc1
          have G' := Lib.hid G
          have Hsum := Lib.hid (sum_any p v1 Y Y.length (Nat.le_refl _) hbl wr.drew G.sm)
          rw [List.take_length] at Hsum
          have Hmo : Hid (∀ W, Rd W 1 (.slice (some (au.add i)) 1 (cu - i)) 1 (bv [b]) → Calls Try.prog 16 #[.int .u32 (crc Y), .slice (some (au.add i)) 1 (cu - i)] W fun e w' => e = .returned (.int .u32 (more (crc Y) [b])) ∧ W = w') := Lib.hid (fun W h => more_any (crc Y) (crc_lt Y) _ 1 [b] W h)
          have Hq := Lib.hid (show more (crc Y) [b] = more (crc Y) [b] from rfl)
          have hS9 : (fun W : World => W.cell? ⟨p, 0, none⟩ = some (.int .i64 Y.length) ∧ W.cell? ⟨p, 1, none⟩ = some v1) wr.drew := ⟨hc0, hc1⟩
          clear G
          generalize hm : more (crc Y) [b] = m at Hmo
          have Hm := Lib.hid hm
          clear hm
          generalize crc Y = cy at Hsum Hmo
          go_wp2_with fail
          refine wp_region_lexf [10, 16, 17, 18, 21] [21] (fun W : World => W.cell? ⟨p, 0, none⟩ = some (.int .i64 Y.length) ∧ W.cell? ⟨p, 1, none⟩ = some v1) (by kernel_rfl) (by kernel_rfl) hS9 (fun σ hne f hf hsur => ?_); have Hsur := Lib.hid hsur; clear hsur
          have hfa := fun y => (hf y).1
          have hfb := fun y => (hf y).2
          clear hf
          have k3 : Kp [] wr (wr.drew.alloc (.cells #[.int .u32 (m : Int)] 23)) := ((Kp.refl [] wr).drew).alloc _
          have hS9b : (fun W : World => W.cell? ⟨p, 0, none⟩ = some (.int .i64 Y.length) ∧ W.cell? ⟨p, 1, none⟩ = some v1) (wr.drew.alloc (.cells #[.int .u32 (m : Int)] 23)) := ⟨by have := (G'.out.sm.1.kp k3 (by simp)).cell 0; simpa using this, by have := (G'.out.sm.1.kp k3 (by simp)).cell 1; simpa using this⟩
          have Hmo2 := Lib.hid (Hmo.out wr.drew (show Rd wr.drew 1 (.slice (some (au.add i)) 1 (cu - i)) 1 (bv [b]) from Hcut.out))
          have K3 := Lib.hid k3
          have HS9 := Lib.hid hS9
          have HS9b := Lib.hid hS9b
          have H63 := Lib.hid (show Y.length + 1 ≤ maxLen by unfold maxLen; omega)
          have H47 := Lib.hid (show (Y.length + 1) * 4 ≤ 140737488355328 by omega)
          clear k3 hS9 hS9b
          go_wp2_with (first
            | (refine lex_app rfl rfl (.tmp 25) (.tmp 38) _ rfl 23 i0 _ 1 4 Try.underlying64 hi hz0 hz1 hz2 rfl (by decide) v1 Y.length (smv Y) rfl (ow_kp G'.out.sm.2 K3.out (by simp)) (.slice (some ⟨wr.heap.size, 0, none⟩) 1 1) 1 [.int .u32 (m : Int)] rfl (rd_new _ _ _) (one_bv _ rfl) H63.out H47.out ?_; go_loud (intro v2 w2 o2 g2 a2; obtain ⟨A2, c2, rfl, _, _⟩ := ow_form o2; obtain ⟨St, bl⟩ := G'.out.step rfl Hm.out.symm o2 g2 (by simpa using a2); have St' := Lib.hid St; have hc0 := bl.cell 0; have hc1 := bl.cell 1; simp at hc0 hc1; have hf0 := bl.frozen 0; have hf1 := bl.frozen 1; have hlt2 := bl.lt; have s2 := And.intro hc0 hc1; clear St bl o2 g2 a2))
            | (refine lex_qq Hsur.out rfl rfl rfl ?_; intro K hK; go_big_quiet_op; go_big_quiet_on) | (refine lex_skipk rfl ?_; intro K hK; go_simp; refine hK _ _ ?_; clear hK K) | (refine lex_e rfl rfl ?_; intro K hK; go_step) | (refine lex_nil ?_)
            | (go_at_call 49; ((with_reducible refine Hsum.out.mono ?_); rintro e w1 ⟨rfl, rfl⟩))
            | (go_at_call 16; ((with_reducible refine Hmo2.out.mono ?_); rintro e w1 ⟨rfl, rfl⟩))
            | ((with_reducible apply And.intro); · (intro hl; first | (exact ls_absurd hl rfl) | (exact HS9.out)))
            | ((with_reducible apply And.intro); · (intro hl; first | (exact ls_absurd hl rfl) | (exact HS9b.out)))
            | ((with_reducible apply And.intro); · (intro hl; first | (exact ls_absurd hl rfl) | (exact s2))))
          go_roundw
          case rel => exact ⟨i + 1, _, by omega, by go_num, by rw [Htk.out]; exact St'.out⟩
          case measure => simp [intOf]; omega
        · obtain rfl : i = l.length := by omega
          rw [List.take_length] at G
          have G' := Lib.hid G
          clear G
          go_wp2
          go_roundw
          case rel => exact ⟨j + 1, v1, by omega, by go_num, by rw [Hnext.out]; exact G'.out⟩
          case measure => simp [intOf]; omega
    · obtain rfl : j = L.length := by omega
      rw [List.take_length] at G
      have G' := Lib.hid G
      clear G
      go_wp2
      go_ret
      exact ⟨rfl, v, G'.out⟩
set_option maxHeartbeats 400000 in
theorem new_any (x : Value) (L : List (List UInt8)) (S : List Nat) (w : World) (hx : TxsIn w x L S) (hS : ∀ g, g ∈ S → g < w.heap.size) (hb : L.flatten.length ≤ 1073741824) (hLl : L.length ≤ 1073741824) :
    Calls Try.prog 31 #[x] w fun e w' => ∃ p v, e = .returned (.pointer (some ⟨p, 0, none⟩)) ∧ Sm w' p v L.flatten ∧ Kp [] w w' ∧ w.heap.size ≤ p ∧ ∀ g, v.ownBlock = some g → w.heap.size ≤ g := by
  have k0 : Kp [] w (w.alloc (.cells #[.int .i64 0, .slice none 0 0] 66)) := (Kp.refl [] w).alloc _
  have h0 : Sm (w.alloc (.cells #[.int .i64 0, .slice none 0 0] 66)) w.heap.size (.slice none 0 0) [] := ⟨Blk.new _ _ _, World.ownsRow_nil _ _ _ _⟩
  have H := Lib.hid (append_any w.heap.size (.slice none 0 0) [] x L S _ h0 (hx.kp k0 (by simp)) (fun g hg hm => by
    have := hS g hg
    simp [Value.ownBlock] at hm; omega) (by simpa using hb) hLl)
  obtain ⟨A, c, rfl, -, -⟩ := hx.txs.open_
  clear hx h0
  go_enter Try.func31, Try.ntmps31
  go_wp2_with (go_at_call 34; refine H.out.mono ?_; rintro e w1 ⟨rfl, v, G⟩)
  go_ret
  refine ⟨w.heap.size, v, rfl, by simpa using G.sm, k0.trans G.kp (fun g hg => .inr (by simp [Value.ownBlock] at hg; omega)), Nat.le_refl _, fun g hg => ?_⟩
  rcases G.at_ with e | ⟨g', e, hlt⟩
  · rw [e] at hg; simp [Value.ownBlock] at hg
  · rw [e] at hg; cases hg; simp at hlt; omega
end Go.Proofs.Ytgldgkdnnimglaa
