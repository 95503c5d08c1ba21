/- WireReads: the reader's List. -/
import Derived.Test.YtdcmncmpoinlaaaWireBD
namespace Go.Proofs.Ytdcmncmpoinlaaa
open Go.RowKit

theorem eg_list_in : ∀ args w, (callFunc 69 args).run Try.prog w = .ok (.enter 69 args) w := fun _ _ => by kernel_rfl
/-- The three blocks that List makes. -/
def listW (w : World) (p most : Nat) : World := ((w.alloc (.cells #[.pointer (some ⟨p, 0, none⟩)] 34)).alloc (.cells #[.int .i64 most] 3)).alloc (.cells #[.slice none 0 0] 36)
theorem listW_kp (w : World) (p most : Nat) : Kp [] w (listW w p most) := (((Kp.refl [] w).alloc _).alloc _).alloc _
theorem listW_size (w : World) (p most : Nat) : (listW w p most).heap.size = w.heap.size + 1 + 1 + 1 := by simp [listW]
theorem listW_blks (w : World) (p most : Nat) : Blk (listW w p most) w.heap.size 34 #[.pointer (some ⟨p, 0, none⟩)] ∧ Blk (listW w p most) (w.heap.size + 1) 3 #[.int .i64 most] ∧ Blk (listW w p most) (w.heap.size + 1 + 1) 36 #[.slice none 0 0] := by
  refine ⟨((Blk.new w _ _).alloc _).alloc _, ?_, ?_⟩
  · have := Blk.new (w.alloc (.cells #[.pointer (some ⟨p, 0, none⟩)] 34)) 3 #[.int .i64 most]
    rw [World.size_alloc] at this
    exact this.alloc _
  · have := Blk.new ((w.alloc (.cells #[.pointer (some ⟨p, 0, none⟩)] 34)).alloc (.cells #[.int .i64 most] 3)) 36 #[.slice none 0 0]
    rwa [World.size_alloc, World.size_alloc] at this

set_option maxRecDepth 100000 in
set_option maxHeartbeats 1000000 in
theorem r_list (p : Nat) (v : Value) (a k most : Nat) (bs : List UInt8) (hk1 : 1 ≤ k) (hk4 : k ≤ 4) (hmost : most ≤ 9223372036854775807) (hk : a + k ≤ bs.length) (w : World) (h : Rr w p v a bs)
    (h1 : num ((bs.drop a).take k) ≤ most) (h2 : a + k + num ((bs.drop a).take k) ≤ bs.length) :
    Calls Try.prog 59 #[.pointer (some ⟨p, 0, none⟩), .int .i64 k, .int .i64 most] w fun e w' =>
      ∃ u, e = .returned (.tuple #[u, .int .i64 0]) ∧ Ow w' 5 1 u (num ((bs.drop a).take k)) (bv ((bs.drop (a + k)).take (num ((bs.drop a).take k)))) ∧ Kp [p] w w' ∧ Rr w' p v (a + k + num ((bs.drop a).take k)) bs ∧ ∀ b, u.ownBlock = some b → w.heap.size ≤ b := by
  have hp := h.blk.lt
  have hvl := h.vlt
  have hcl : ((bs.drop a).take k).length = k := by rw [List.length_take, List.length_drop]; omega
  have hnext : Calls Try.prog 40 #[.pointer (some ⟨p, 0, none⟩), .int .i64 k, .func (.func 69) #[] #[.pointer (some ⟨w.heap.size + 1, 0, none⟩), .pointer (some ⟨w.heap.size, 0, none⟩), .pointer (some ⟨w.heap.size + 1 + 1, 0, none⟩)]] (listW w p most)
      fun e w' => e = .returned (.int .i64 0) ∧ ∃ u, w'.cell? ⟨w.heap.size + 1 + 1, 0, none⟩ = some u ∧ Ow w' 5 1 u (num ((bs.drop a).take k)) (bv ((bs.drop (a + k)).take (num ((bs.drop a).take k)))) ∧ Kp [p] w w' ∧ Rr w' p v (a + k + num ((bs.drop a).take k)) bs ∧ ∀ b, u.ownBlock = some b → w.heap.size ≤ b :=
    next_ok p v a bs k hk _ _ _ (h.kp' (listW_kp w p most)) _ eg_list_in (fun A c W hkp hr hrd => by
      obtain ⟨b1, b2, b3⟩ := listW_blks w p most
      have k1 : Kp [p] w W := ((listW_kp w p most).more (T := [p]) (by simp)).trans hkp (fun g hg => .inl hg)
      refine (list_in p (w.heap.size + 1) w.heap.size (w.heap.size + 1 + 1) v _ _ (a + k) (bs.length - (a + k)) most bs ((bs.drop a).take k) W hr (by omega) hmost (by omega) (by rw [hcl]; exact hrd) (b2.kp hkp (by simp; omega)) (b1.kp hkp (by simp; omega)) (b3.kp hkp (by simp; omega)) (by omega) (fun e => by have := hvl _ e; omega) h1 (by omega)).mono ?_
      rintro e w' ⟨rfl, u, hu, hb', hkk, hr', hf⟩
      refine ⟨rfl, u, by simpa using hb'.cell 0, hu, k1.trans hkk (fun g hg => ?_), hr', fun b hb => ?_⟩
      · simp at hg
        rcases hg with rfl | rfl
        · exact .inl (by simp)
        · exact .inr (by omega)
      · have := hf b hb
        have := k1.size
        omega)
  have Hn := Lib.hid hnext
  clear hnext
  generalize num ((bs.drop a).take k) = N at *
  go_enter Try.func59, Try.ntmps59
  go_wp2_with (first
    | (go_at_call 40; refine Hn.out.mono ?_; rintro e w' ⟨rfl, u, hc, hu, hkp, hr, hf⟩; obtain ⟨A1, c1, rfl, _, _⟩ := ow_form hu))
  go_ret2
  exact ⟨_, rfl, hu, hkp, hr, hf⟩

set_option maxRecDepth 100000 in
set_option maxHeartbeats 1000000 in
/-- Refused behind the number: the place is as it was. -/
theorem r_list_no (p : Nat) (v : Value) (a k most : Nat) (bs : List UInt8) (er : Int) (hk1 : 1 ≤ k) (hk4 : k ≤ 4) (hmost : most ≤ 9223372036854775807) (hk : a + k ≤ bs.length) (w : World) (h : Rr w p v a bs)
    (h1 : (er = 3 ∧ most < num ((bs.drop a).take k)) ∨ (er = 110 ∧ num ((bs.drop a).take k) ≤ most ∧ bs.length < a + k + num ((bs.drop a).take k))) :
    Calls Try.prog 59 #[.pointer (some ⟨p, 0, none⟩), .int .i64 k, .int .i64 most] w fun e w' => e = .returned (.tuple #[.slice none 0 0, .int .i64 er]) ∧ Kp [p] w w' ∧ Rr w' p v a bs := by
  have hp := h.blk.lt
  have hle := h.le
  have hvl := h.vlt
  have hcl : ((bs.drop a).take k).length = k := by rw [List.length_take, List.length_drop]; omega
  have her : er ≠ 0 := by omega
  have hnext : Calls Try.prog 40 #[.pointer (some ⟨p, 0, none⟩), .int .i64 k, .func (.func 69) #[] #[.pointer (some ⟨w.heap.size + 1, 0, none⟩), .pointer (some ⟨w.heap.size, 0, none⟩), .pointer (some ⟨w.heap.size + 1 + 1, 0, none⟩)]] (listW w p most)
      fun e w' => e = .returned (.int .i64 er) ∧ (w'.cell? ⟨w.heap.size + 1 + 1, 0, none⟩ = some (.slice none 0 0) ∧ Kp [p] w w' ∧ Rr w' p v a bs) :=
    next_no p v a bs k hk _ _ _ (h.kp' (listW_kp w p most)) er her (fun w' => w'.cell? ⟨w.heap.size + 1 + 1, 0, none⟩ = some (.slice none 0 0) ∧ Kp [p] w w' ∧ Rr w' p v a bs) eg_list_in (fun A c W hkp hr hrd => by
      obtain ⟨b1, b2, b3⟩ := listW_blks w p most
      have k1 : Kp [p] w W := ((listW_kp w p most).more (T := [p]) (by simp)).trans hkp (fun g hg => .inl hg)
      have c1 := b1.kp hkp (by simp; omega)
      have c2 := b2.kp hkp (by simp; omega)
      have c3 := b3.kp hkp (by simp; omega)
      have fin : ∀ n, Kp [p] (listW w p most) (W.drewN n) ∧ Blk (W.drewN n) p 74 #[v, .int .i64 ((a : Int) + k)] ∧ (((W.drewN n).setCell ⟨p, 1, none⟩ (.int .i64 a)).cell? ⟨w.heap.size + 1 + 1, 0, none⟩ = some (.slice none 0 0) ∧ Kp [p] w ((W.drewN n).setCell ⟨p, 1, none⟩ (.int .i64 a)) ∧ Rr ((W.drewN n).setCell ⟨p, 1, none⟩ (.int .i64 a)) p v a bs) := fun n => by
        have hb : Blk (W.drewN n) p 74 #[v, .int .i64 ((a : Int) + k)] := by have := hr.blk; rw [Int.natCast_add] at this; exact this
        have ks : Kp [p] (W.drewN n) ((W.drewN n).setCell ⟨p, 1, none⟩ (.int .i64 a)) := (Kp.refl [p] _).setCell (.inl (by simp)) _
        have c3' : Blk (W.drewN n) (w.heap.size + 1 + 1) 36 #[.slice none 0 0] := c3
        exact ⟨hkp.drewN n, hb, by simpa using (c3'.kp ks (by simp; omega)).cell 0, (k1.drewN n).trans ks (fun g hg => .inl hg), (hr.drewN n).moved ks (setCell1 hb) hle⟩
      rcases h1 with ⟨rfl, h1⟩ | ⟨rfl, h1, h2⟩
      · refine (list_in_long (w.heap.size + 1) w.heap.size (w.heap.size + 1 + 1) _ most ((bs.drop a).take k) W hmost (by omega) (by rw [hcl]; exact hrd) c2 h1).mono ?_
        rintro e w' ⟨rfl, rfl⟩
        exact ⟨rfl, fin 0⟩
      · refine (list_in_end p (w.heap.size + 1) w.heap.size (w.heap.size + 1 + 1) v _ (a + k) (bs.length - (a + k)) most bs ((bs.drop a).take k) W hr (by omega) hmost (by omega) (by rw [hcl]; exact hrd) c2 c1 h1 (by omega)).mono ?_
        rintro e w' ⟨rfl, n, rfl⟩
        exact ⟨rfl, fin n⟩)
  have Hn := Lib.hid hnext
  clear hnext h1 her
  go_enter Try.func59, Try.ntmps59
  go_wp2_with (first
    | (go_at_call 40; refine Hn.out.mono ?_; rintro e w' ⟨rfl, hc, hkp, hr⟩))
  go_ret2
  exact ⟨rfl, hkp, hr⟩

set_option maxRecDepth 100000 in
set_option maxHeartbeats 1000000 in
theorem r_list_end (p : Nat) (v : Value) (a k most : Nat) (bs : List UInt8) (hk1 : 1 ≤ k) (hk4 : k ≤ 4) (hk : bs.length < a + k) (w : World) (h : Rr w p v a bs) :
    Calls Try.prog 59 #[.pointer (some ⟨p, 0, none⟩), .int .i64 k, .int .i64 most] w fun e w' => e = .returned (.tuple #[.slice none 0 0, .int .i64 110]) ∧ Kp [] w w' := by
  have hle := h.le
  have hn := next_end p v a bs k (by omega) (.func (.func 69) #[] #[.pointer (some ⟨w.heap.size + 1, 0, none⟩), .pointer (some ⟨w.heap.size, 0, none⟩), .pointer (some ⟨w.heap.size + 1 + 1, 0, none⟩)]) _ (h.kp' (listW_kp w p most))
  have Hn := Lib.hid hn
  have hc3 : ∀ nq, ((listW w p most).drewN nq).cell? ⟨w.heap.size + 1 + 1, 0, none⟩ = some (.slice none 0 0) := fun nq => by simpa using (listW_blks w p most).2.2.cell 0
  have Hc3 := Lib.hid hc3
  clear hn hc3
  go_enter Try.func59, Try.ntmps59
  go_wp2_with (first
    | (go_at_call 40; refine Hn.out.mono ?_; rintro e w' ⟨rfl, nq, rfl⟩; have hc := Hc3.out nq))
  go_ret2
  exact ⟨rfl, (listW_kp w p most).drewN _⟩

set_option maxRecDepth 100000 in
set_option maxHeartbeats 1000000 in
theorem r_list_arg (p : Nat) (k most : Int) (hk : k < 1 ∨ 4 < k ∨ most < 0) (w : World) :
    Calls Try.prog 59 #[.pointer (some ⟨p, 0, none⟩), .int .i64 k, .int .i64 most] w fun e w' => e = .returned (.tuple #[.slice none 0 0, .int .i64 2]) ∧ Kp [] w w' := by
  have hk : k < 1 ∨ (¬ k < 1 ∧ 4 < k) ∨ (¬ k < 1 ∧ ¬ 4 < k ∧ most < 0) := by omega
  rcases hk with hk | ⟨hk0, hk⟩ | ⟨hk0, hk1, hk⟩
  all_goals
    go_enter Try.func59, Try.ntmps59
    go_wp2
    go_ret2
    exact ⟨rfl, ((Kp.refl [] w).alloc _).alloc _⟩
end Go.Proofs.Ytdcmncmpoinlaaa
