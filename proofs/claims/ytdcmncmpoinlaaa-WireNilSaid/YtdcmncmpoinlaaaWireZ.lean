/- 'puts', the kinds that lend. -/
import Derived.Test.YtdcmncmpoinlaaaWireY
namespace Go.Proofs.Ytdcmncmpoinlaaa
open Go.RowKit

/-- A slice reads as it did; an empty one in any case. -/
theorem Rd.kpl {S : List Nat} {w w' : World} {s n : Nat} {v : Value} {xs : List Value} (h : Rd w s v n xs) (hk : Kp S w w') (hn : ∀ g, v.ownBlock = some g → xs ≠ [] → g ∉ S) : Rd w' s v n xs := by
  by_cases hx : xs = []
  · subst hx
    obtain ⟨h1, A, c, h2, h3, h4, h5, _⟩ := h
    exact ⟨h1, A, c, h2, h3, h4, h5, fun _ _ j u hu => by simp at hu⟩
  · exact h.kp hk (fun g hg => hn g hg hx)
theorem bv_ne {b : List UInt8} (h : bv b ≠ []) : b ≠ [] := fun e => h (by rw [e]; rfl)
theorem mem_own {g' g o n c : Nat} (h : g' ∈ (Value.slice (some ⟨g, o, none⟩) n c).ownBlock.toList) : g' = g := by simpa [Value.ownBlock, eq_comm] using h
/-- What was lent reads as what was lent. -/
theorem rd_lent {w : World} {e : TypeId} {g c n : Nat} {bs : List UInt8} (h : Ow w e 1 (.slice (some ⟨g, 0, none⟩) (n + 2) c) (n + 2) (bv (bs ++ [165, 166]))) (hl : bs.length = n) : Ow w e 1 (.slice (some ⟨g, 0, none⟩) n c) n (bv bs) := by
  have h1 := ow_take h (m := n) (by omega) (by omega)
  rwa [bv_append, Nat.mul_one, List.take_append_of_le_length (by rw [bv_length, hl]; exact Nat.le_refl _), List.take_of_length_le (by rw [bv_length, hl]; exact Nat.le_refl _)] at h1

set_option maxRecDepth 100000 in
set_option maxHeartbeats 1000000 in
theorem puts_7 (q : Nat) (u : Value) (bs : List UInt8) (cs : Array Value) (p : PutD) (B : Value) (w : World) (hc : PutC cs p B) (hkd : p.kind = 7) (hw : Wr w q u bs) (hB : Rd w 1 B p.b.length (bv p.b)) (hBq : ∀ g, B.ownBlock = some g → p.b ≠ [] → g ∉ q :: u.ownBlock.toList) (hn : bs.length + p.b.length + 8 ≤ 140737488355328) :
    Calls Try.prog 18 #[.pointer (some ⟨q, 0, none⟩), .agg cs] w (PutPost q u bs p.b w) := by
  have hc0 := hc.c0
  have hcB := hc.c34
  rw [hkd] at hc0
  clear hc hkd
  generalize p.b = b at *
  obtain ⟨bA, bc, rfl⟩ := rd_form hB
  have b0 : Blk (w.alloc (.cells cs 52)) w.heap.size 52 cs := Blk.new _ _ _
  have k0 : Kp [] w (w.alloc (.cells cs 52)) := (Kp.refl [] w).alloc _
  have hcell := (b0.cell 34).trans hcB
  have HB := Lib.hid hB
  have HcB := Lib.hid hcB
  clear hcB b0 hB
  have hw1 : Wr (w.alloc (.cells cs 52)) q u bs := hw.kp0 k0
  go_enter Try.func18, Try.ntmps18
  go_wp2_with fail
  go_loud (refine (lent_any _ b b.length _ (HB.out.kp k0 (by simp)) (by omega)).mono ?_)
  rintro e w2 ⟨g, c, rfl, o2, k2, f2⟩
  simp only [World.size_alloc] at f2
  have K2 : Kp (q :: u.ownBlock.toList) (w.alloc (.cells cs 52)) w2 := k2.more (by simp)
  have d2 : w2.cell? ⟨w.heap.size, 34, none⟩ = some (.slice bA b.length bc) := ((box_kp hw K2).cell 34).trans HcB.out
  have hw2 := hw1.kp0 k2
  go_wp2_with fail
  go_loud (refine (w_raw q u bs _ b w2 hw2 (Rd.of_own (rd_lent o2 rfl)) (by omega)).mono ?_)
  rintro e w3 ⟨rfl, u3, hw3, hs3⟩
  have K3 := K2.trans hs3.1 (fun g hg => .inl hg)
  have d3 : w3.cell? ⟨w.heap.size, 34, none⟩ = some (.slice bA b.length bc) := ((box_kp hw K3).cell 34).trans HcB.out
  have hgS : g ∉ q :: u.ownBlock.toList := fun hm => by
    rcases List.mem_cons.1 hm with h | h
    · have := hw.1.lt; omega
    · have := ow_lt hw.2 (g := g) (by simpa using h); omega
  have o3 := ow_kp o2 hs3.1 (fun g' hg' => by cases hg'; exact hgS)
  have R3 : Rd w3 1 (.slice bA b.length bc) b.length (bv b) := HB.out.kpl ((k0.more (T := q :: u.ownBlock.toList) (by simp)).trans K3 (fun g hg => .inl hg)) (fun g hg hne => hBq g hg (bv_ne hne))
  go_wp2_with (first
    | (go_at_call 17; refine (num_any _ _).mono ?_; rintro e w' ⟨rfl, rfl⟩)
    | (go_at_call 22; go_loud (refine (left_any g c b.length _ b w3 o3 R3 (by omega)).mono ?_); rintro e w' ⟨rfl, rfl⟩)
    | (go_at_call 20; go_loud (refine (spoil_any _ b.length _ w3 (rd_lent o3 rfl) (by omega)).mono ?_); rintro e w4 ⟨rfl, o4, k4⟩; have K4 := K3.trans k4 (fun g' hg' => .inr (by rw [mem_own hg', World.size_alloc]; exact f2)); have d4 : w4.cell? ⟨w.heap.size, 34, none⟩ = some (.slice bA b.length bc) := ((box_kp hw K4).cell 34).trans HcB.out))
  go_ret2
  have K5 := (k0.more (T := q :: u.ownBlock.toList) (by simp)).trans K4 (fun g hg => .inl hg)
  have hg3 : ∀ g', u3.ownBlock = some g' → g' ≠ g := by
    intro g' hg' he
    subst he
    rcases hs3.2 with h | ⟨g2, h1, h2⟩
    · exact hgS (by simp [← h, hg'])
    · rw [h1] at hg'; cases hg'; have := ow_lt o2 (g := g') rfl; omega
  refine ⟨_, u3, rfl, hw3.kp k4 (fun hm => ?_) (fun g' hg' hm => ?_), ⟨K5, ?_⟩, ?_⟩
  · exact hgS (by simp [mem_own hm])
  · exact hg3 g' hg' (mem_own hm)
  · rcases hs3.2 with h | ⟨g2, h1, h2⟩
    · exact .inl h
    · exact .inr ⟨g2, h1, by have := k2.size; simp at this; omega⟩
  · exact HB.out.kpl K5 (fun g hg hne => hBq g hg (bv_ne hne))

set_option maxRecDepth 100000 in
set_option maxHeartbeats 1000000 in
theorem puts_8a (q : Nat) (u : Value) (bs : List UInt8) (cs : Array Value) (p : PutD) (B : Value) (w : World) (hc : PutC cs p B) (hkd : p.kind = 8) (hw : Wr w q u bs) (hB : Rd w 1 B p.b.length (bv p.b)) (hBq : ∀ g, B.ownBlock = some g → p.b ≠ [] → g ∉ q :: u.ownBlock.toList) (hn : bs.length + p.b.length + 8 ≤ 140737488355328)
    (hk : p.width < 1 ∨ 4 < p.width) :
    Calls Try.prog 18 #[.pointer (some ⟨q, 0, none⟩), .agg cs] w (PutPost q u bs [] w) := by
  have hc0 := hc.c0
  have hcB := hc.c34
  have hcw := hc.c35
  rw [hkd] at hc0
  clear hc hkd
  generalize p.width = k at *
  generalize p.b = b at *
  obtain ⟨bA, bc, rfl⟩ := rd_form hB
  have b0 : Blk (w.alloc (.cells cs 52)) w.heap.size 52 cs := Blk.new _ _ _
  have k0 : Kp [] w (w.alloc (.cells cs 52)) := (Kp.refl [] w).alloc _
  have hcell := (b0.cell 34).trans hcB
  have hcelw := (b0.cell 35).trans hcw
  have HB := Lib.hid hB
  have HcB := Lib.hid hcB
  have Hcw := Lib.hid hcw
  clear hcB hcw b0 hB
  have hw1 : Wr (w.alloc (.cells cs 52)) q u bs := hw.kp0 k0
  have Hk := Lib.hid hk
  clear hk
  go_enter Try.func18, Try.ntmps18
  go_wp2_with fail
  go_loud (refine (lent_any _ b b.length _ (HB.out.kp k0 (by simp)) (by omega)).mono ?_)
  rintro e w2 ⟨g, c, rfl, o2, k2, f2⟩
  simp only [World.size_alloc] at f2
  have K2 : Kp (q :: u.ownBlock.toList) (w.alloc (.cells cs 52)) w2 := k2.more (by simp)
  have d2 : w2.cell? ⟨w.heap.size, 34, none⟩ = some (.slice bA b.length bc) := ((box_kp hw K2).cell 34).trans HcB.out
  have d2w : w2.cell? ⟨w.heap.size, 35, none⟩ = some (.int .i64 k) := ((box_kp hw K2).cell 35).trans Hcw.out
  have hw2 := hw1.kp0 k2
  have hgS : g ∉ q :: u.ownBlock.toList := fun hm => by
    rcases List.mem_cons.1 hm with h | h
    · have := hw.1.lt; omega
    · have := ow_lt hw.2 (g := g) (by simpa using h); omega
  have R2 : Rd w2 1 (.slice bA b.length bc) b.length (bv b) := HB.out.kpl ((k0.more (T := q :: u.ownBlock.toList) (by simp)).trans K2 (fun g hg => .inl hg)) (fun g hg hne => hBq g hg (bv_ne hne))
  go_wp2_with (first
    | (go_at_call 47; go_loud (refine (rlist_arg k _ w2 Hk.out).mono ?_); rintro e w' ⟨rfl, rfl⟩)
    | (go_at_call 33; go_loud (refine (w_list_arg q _ k b.length w2 ⟨_, _, rfl⟩ Hk.out).mono ?_); rintro e w' ⟨rfl, rfl⟩)
    | (go_at_call 17; refine (num_any _ _).mono ?_; rintro e w' ⟨rfl, rfl⟩)
    | (go_at_call 22; go_loud (refine (left_any g c b.length _ b w2 o2 R2 (by omega)).mono ?_); rintro e w' ⟨rfl, rfl⟩)
    | (go_at_call 20; go_loud (refine (spoil_any _ b.length _ w2 (rd_lent o2 rfl) (by omega)).mono ?_); rintro e w4 ⟨rfl, o4, k4⟩; have K4 := K2.trans k4 (fun g' hg' => .inr (by rw [mem_own hg', World.size_alloc]; exact f2))))
  go_ret2
  have K5 := (k0.more (T := q :: u.ownBlock.toList) (by simp)).trans K4 (fun g hg => .inl hg)
  refine ⟨_, u, rfl, (List.append_nil bs).symm ▸ hw2.kp k4 (fun hm => ?_) (fun g' hg' hm => ?_), ⟨K5, .inl rfl⟩, Rd.nil w4 1⟩
  · exact hgS (by simp [mem_own hm])
  · have := mem_own hm; subst this; exact hgS (by simp [hg'])

set_option maxRecDepth 100000 in
set_option maxHeartbeats 1000000 in
theorem puts_8c (q : Nat) (u : Value) (bs : List UInt8) (cs : Array Value) (p : PutD) (B : Value) (w : World) (hc : PutC cs p B) (hkd : p.kind = 8) (hw : Wr w q u bs) (hB : Rd w 1 B p.b.length (bv p.b)) (hBq : ∀ g, B.ownBlock = some g → p.b ≠ [] → g ∉ q :: u.ownBlock.toList) (hn : bs.length + p.b.length + 8 ≤ 140737488355328)
    (k : Nat) (hk : 1 ≤ k ∧ k ≤ 4) (hkw : p.width = k) (hlt : 256 ^ k ≤ p.b.length) :
    Calls Try.prog 18 #[.pointer (some ⟨q, 0, none⟩), .agg cs] w (PutPost q u bs [] w) := by
  have hc0 := hc.c0
  have hcB := hc.c34
  have hcw := hc.c35
  rw [hkd] at hc0
  rw [hkw] at hcw
  clear hc hkd hkw
  generalize p.b = b at *
  obtain ⟨bA, bc, rfl⟩ := rd_form hB
  have b0 : Blk (w.alloc (.cells cs 52)) w.heap.size 52 cs := Blk.new _ _ _
  have k0 : Kp [] w (w.alloc (.cells cs 52)) := (Kp.refl [] w).alloc _
  have hcell := (b0.cell 34).trans hcB
  have hcelw := (b0.cell 35).trans hcw
  have HB := Lib.hid hB
  have HcB := Lib.hid hcB
  have Hcw := Lib.hid hcw
  clear hcB hcw b0 hB
  have hw1 : Wr (w.alloc (.cells cs 52)) q u bs := hw.kp0 k0
  have Hk := Lib.hid hk
  have Hlt := Lib.hid hlt
  clear hk hlt
  go_enter Try.func18, Try.ntmps18
  go_wp2_with fail
  go_loud (refine (lent_any _ b b.length _ (HB.out.kp k0 (by simp)) (by omega)).mono ?_)
  rintro e w2 ⟨g, c, rfl, o2, k2, f2⟩
  simp only [World.size_alloc] at f2
  have K2 : Kp (q :: u.ownBlock.toList) (w.alloc (.cells cs 52)) w2 := k2.more (by simp)
  have d2 : w2.cell? ⟨w.heap.size, 34, none⟩ = some (.slice bA b.length bc) := ((box_kp hw K2).cell 34).trans HcB.out
  have d2w : w2.cell? ⟨w.heap.size, 35, none⟩ = some (.int .i64 k) := ((box_kp hw K2).cell 35).trans Hcw.out
  have hw2 := hw1.kp0 k2
  have hgS : g ∉ q :: u.ownBlock.toList := fun hm => by
    rcases List.mem_cons.1 hm with h | h
    · have := hw.1.lt; omega
    · have := ow_lt hw.2 (g := g) (by simpa using h); omega
  have R2 : Rd w2 1 (.slice bA b.length bc) b.length (bv b) := HB.out.kpl ((k0.more (T := q :: u.ownBlock.toList) (by simp)).trans K2 (fun g hg => .inl hg)) (fun g hg hne => hBq g hg (bv_ne hne))
  go_wp2_with (first
    | (go_at_call 47; go_loud (refine (rlist_long k Hk.out _ b.length ⟨_, _, rfl⟩ w2 Hlt.out (by omega)).mono ?_); rintro e w' ⟨rfl, rfl⟩)
    | (go_at_call 33; go_loud (refine (w_list_long q u bs k Hk.out _ b.length ⟨_, _, rfl⟩ w2 hw2 Hlt.out (by omega)).mono ?_); rintro e w' ⟨rfl, rfl⟩)
    | (go_at_call 17; refine (num_any _ _).mono ?_; rintro e w' ⟨rfl, rfl⟩)
    | (go_at_call 22; go_loud (refine (left_any g c b.length _ b w2 o2 R2 (by omega)).mono ?_); rintro e w' ⟨rfl, rfl⟩)
    | (go_at_call 20; go_loud (refine (spoil_any _ b.length _ w2 (rd_lent o2 rfl) (by omega)).mono ?_); rintro e w4 ⟨rfl, o4, k4⟩; have K4 := K2.trans k4 (fun g' hg' => .inr (by rw [mem_own hg', World.size_alloc]; exact f2))))
  go_ret2
  have K5 := (k0.more (T := q :: u.ownBlock.toList) (by simp)).trans K4 (fun g hg => .inl hg)
  refine ⟨_, u, rfl, (List.append_nil bs).symm ▸ hw2.kp k4 (fun hm => ?_) (fun g' hg' hm => ?_), ⟨K5, .inl rfl⟩, Rd.nil w4 1⟩
  · exact hgS (by simp [mem_own hm])
  · have := mem_own hm; subst this; exact hgS (by simp [hg'])

set_option maxRecDepth 100000 in
set_option maxHeartbeats 1000000 in
theorem puts_8b (q : Nat) (u : Value) (bs : List UInt8) (cs : Array Value) (p : PutD) (B : Value) (w : World) (hc : PutC cs p B) (hkd : p.kind = 8) (hw : Wr w q u bs) (hB : Rd w 1 B p.b.length (bv p.b)) (hBq : ∀ g, B.ownBlock = some g → p.b ≠ [] → g ∉ q :: u.ownBlock.toList) (hn : bs.length + p.b.length + 8 ≤ 140737488355328)
    (k : Nat) (hk : 1 ≤ k ∧ k ≤ 4) (hkw : p.width = k) (hlt : p.b.length < 256 ^ k) :
    Calls Try.prog 18 #[.pointer (some ⟨q, 0, none⟩), .agg cs] w (PutPost q u bs (be k p.b.length ++ p.b) w) := by
  have hc0 := hc.c0
  have hcB := hc.c34
  have hcw := hc.c35
  rw [hkd] at hc0
  rw [hkw] at hcw
  clear hc hkd hkw
  generalize p.b = b at *
  obtain ⟨bA, bc, rfl⟩ := rd_form hB
  have b0 : Blk (w.alloc (.cells cs 52)) w.heap.size 52 cs := Blk.new _ _ _
  have k0 : Kp [] w (w.alloc (.cells cs 52)) := (Kp.refl [] w).alloc _
  have hcell := (b0.cell 34).trans hcB
  have hcelw := (b0.cell 35).trans hcw
  have HB := Lib.hid hB
  have HcB := Lib.hid hcB
  have Hcw := Lib.hid hcw
  clear hcB hcw b0 hB
  have hw1 : Wr (w.alloc (.cells cs 52)) q u bs := hw.kp0 k0
  have Hk := Lib.hid hk
  have Hlt := Lib.hid hlt
  clear hk hlt
  go_enter Try.func18, Try.ntmps18
  go_wp2_with fail
  go_loud (refine (lent_any _ b b.length _ (HB.out.kp k0 (by simp)) (by omega)).mono ?_)
  rintro e w2 ⟨g, c, rfl, o2, k2, f2⟩
  simp only [World.size_alloc] at f2
  have K2 : Kp (q :: u.ownBlock.toList) (w.alloc (.cells cs 52)) w2 := k2.more (by simp)
  have d2 : w2.cell? ⟨w.heap.size, 34, none⟩ = some (.slice bA b.length bc) := ((box_kp hw K2).cell 34).trans HcB.out
  have d2w : w2.cell? ⟨w.heap.size, 35, none⟩ = some (.int .i64 k) := ((box_kp hw K2).cell 35).trans Hcw.out
  have hw2 := hw1.kp0 k2
  have hgS : g ∉ q :: u.ownBlock.toList := fun hm => by
    rcases List.mem_cons.1 hm with h | h
    · have := hw.1.lt; omega
    · have := ow_lt hw.2 (g := g) (by simpa using h); omega
  go_wp2_with fail
  go_loud (refine (rlist_ok k Hk.out _ b w2 (HB.out.kpl ((k0.more (T := q :: u.ownBlock.toList) (by simp)).trans K2 (fun g hg => .inl hg)) (fun g hg hne => hBq g hg (bv_ne hne))) Hlt.out (by omega)).mono ?_)
  rintro e w3 ⟨v3, rfl, o3, k3, f3⟩
  have K3 := K2.trans k3 (by simp)
  have d3 : w3.cell? ⟨w.heap.size, 34, none⟩ = some (.slice bA b.length bc) := ((box_kp hw K3).cell 34).trans HcB.out
  have d3w : w3.cell? ⟨w.heap.size, 35, none⟩ = some (.int .i64 k) := ((box_kp hw K3).cell 35).trans Hcw.out
  have hw3 := hw2.kp0 k3
  have o3m := ow_kp o2 k3 (by simp)
  go_wp2_with fail
  go_loud (refine (w_list q u bs _ b k w3 hw3 (Rd.of_own (rd_lent o3m rfl)) Hk.out Hlt.out (by omega) (fun g' hg' he => by cases hg'; exact hgS (by simp [he]))).mono ?_)
  rintro e w4 ⟨rfl, u4, hw4, hs4⟩
  have K4 := K3.trans hs4.1 (fun g hg => .inl hg)
  have d4 : w4.cell? ⟨w.heap.size, 34, none⟩ = some (.slice bA b.length bc) := ((box_kp hw K4).cell 34).trans HcB.out
  have o4 := ow_kp o3m hs4.1 (fun g' hg' => by cases hg'; exact hgS)
  have R4 : Rd w4 1 (.slice bA b.length bc) b.length (bv b) := HB.out.kpl ((k0.more (T := q :: u.ownBlock.toList) (by simp)).trans K4 (fun g hg => .inl hg)) (fun g hg hne => hBq g hg (bv_ne hne))
  have v4 := rd_beside o3 f3 hw2 hs4
  go_wp2_with (first
    | (go_at_call 17; refine (num_any _ _).mono ?_; rintro e w' ⟨rfl, rfl⟩)
    | (go_at_call 22; go_loud (refine (left_any g c b.length _ b w4 o4 R4 (by omega)).mono ?_); rintro e w' ⟨rfl, rfl⟩)
    | (go_at_call 20; go_loud (refine (spoil_any _ b.length _ w4 (rd_lent o4 rfl) (by omega)).mono ?_); rintro e w5 ⟨rfl, o5, k5⟩; have K5 := K4.trans k5 (fun g' hg' => .inr (by rw [mem_own hg', World.size_alloc]; exact f2))))
  go_ret2
  have K6 := (k0.more (T := q :: u.ownBlock.toList) (by simp)).trans K5 (fun g hg => .inl hg)
  have hg4 : ∀ g', u4.ownBlock = some g' → g' ≠ g := by
    intro g' hg' he
    subst he
    rcases hs4.2 with h | ⟨g2, h1, h2⟩
    · exact hgS (by simp [← h, hg'])
    · rw [h1] at hg'; cases hg'; have := ow_lt o3m (g := g') rfl; omega
  refine ⟨v3, u4, rfl, (List.append_assoc bs _ b) ▸ hw4.kp k5 (fun hm => ?_) (fun g' hg' hm => ?_), ⟨K6, ?_⟩, ?_⟩
  · exact hgS (by simp [mem_own hm])
  · exact hg4 g' hg' (mem_own hm)
  · rcases hs4.2 with h | ⟨g2, h1, h2⟩
    · exact .inl h
    · exact .inr ⟨g2, h1, by have := (k2.trans k3 (by simp)).size; simp at this; omega⟩
  · have h := v4.kp k5 (fun g' hg' hm => by
      have h1 := f3 g' hg'
      rw [mem_own hm] at h1
      have := ow_lt o2 (g := g) rfl
      omega)
    rw [List.length_append, be_length]
    exact h
end Go.Proofs.Ytdcmncmpoinlaaa
