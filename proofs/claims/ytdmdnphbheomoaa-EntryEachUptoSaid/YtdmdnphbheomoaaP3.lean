/- Several texts in one: WireBE, EntF, EntG, EntH, EntI, EntJ, EntK, EntL, EntS, EntT, Open, TxOpen, EntOpen, EntU, EntV, EntW, SepIn, EntX, InvG, Reg, InvS, Ops, Join. -/
import Derived.ScopeJumps
import Derived.WalkMore
import Derived.ProofKit
import Derived.OpenShut
import Derived.Deep.Slices
import Derived.JoinedCond
import Derived.Carry
import Derived.Lib.SmallJoins
import Derived.Great.BuildSlice
import Derived.Test.YtdmdnphbheomoaaP2
set_option linter.unusedVariables false
set_option linter.unusedSimpArgs false
set_option maxRecDepth 100000
set_option maxHeartbeats 8000000
namespace Go.Proofs.Ytdmdnphbheomoaa
/- WireReads: the reader's List. -/
section
open Go.RowKit

theorem eg_list_in : ∀ args w, (callFunc 66 args).run Try.prog w = .ok (.enter 66 args) w := fun _ _ => by kernel_rfl
/-- The three blocks that List makes. -/
def listW (w : World) (p most : Nat) : World := ((w.alloc (.cells #[.pointer (some ⟨p, 0, none⟩)] 76)).alloc (.cells #[.int .i64 most] 3)).alloc (.cells #[.slice none 0 0] 25)
theorem listW_kp (w : World) (p most : Nat) : Kp [] w (listW w p most) := (((Kp.refl [] w).alloc _).alloc _).alloc _
theorem listW_blks (w : World) (p most : Nat) : Blk (listW w p most) w.heap.size 76 #[.pointer (some ⟨p, 0, none⟩)] ∧ Blk (listW w p most) (w.heap.size + 1) 3 #[.int .i64 most] ∧ Blk (listW w p most) (w.heap.size + 1 + 1) 25 #[.slice none 0 0] := by
  refine ⟨((Blk.new w _ _).alloc _).alloc _, ?_, ?_⟩
  · have := Blk.new (w.alloc (.cells #[.pointer (some ⟨p, 0, none⟩)] 76)) 3 #[.int .i64 most]
    rw [World.size_alloc] at this
    exact this.alloc _
  · have := Blk.new ((w.alloc (.cells #[.pointer (some ⟨p, 0, none⟩)] 76)).alloc (.cells #[.int .i64 most] 3)) 25 #[.slice none 0 0]
    rwa [World.size_alloc, World.size_alloc] at this

set_option maxRecDepth 100000 in
set_option maxHeartbeats 1000000 in
theorem r_list (p : Nat) (v : Value) (a k most : Nat) (bs : List UInt8) (hk1 : 1 ≤ k) (hk4 : k ≤ 4) (hmost : most ≤ 9223372036854775807) (hk : a + k ≤ bs.length) (w : World) (h : Rr w p v a bs)
    (h1 : num ((bs.drop a).take k) ≤ most) (h2 : a + k + num ((bs.drop a).take k) ≤ bs.length) :
    Calls Try.prog 47 #[.pointer (some ⟨p, 0, none⟩), .int .i64 k, .int .i64 most] w fun e w' =>
      ∃ u, e = .returned (.tuple #[u, .int .i64 0]) ∧ Ow w' 5 1 u (num ((bs.drop a).take k)) (bv ((bs.drop (a + k)).take (num ((bs.drop a).take k)))) ∧ Kp [p] w w' ∧ Rr w' p v (a + k + num ((bs.drop a).take k)) bs ∧ ∀ b, u.ownBlock = some b → w.heap.size ≤ b := by
  have hp := h.blk.lt
  have hvl := h.vlt
  have hcl : ((bs.drop a).take k).length = k := by rw [List.length_take, List.length_drop]; omega
  have hnext : Calls Try.prog 65 #[.pointer (some ⟨p, 0, none⟩), .int .i64 k, .func (.func 66) #[] #[.pointer (some ⟨w.heap.size + 1, 0, none⟩), .pointer (some ⟨w.heap.size, 0, none⟩), .pointer (some ⟨w.heap.size + 1 + 1, 0, none⟩)]] (listW w p most)
      fun e w' => e = .returned (.int .i64 0) ∧ ∃ u, w'.cell? ⟨w.heap.size + 1 + 1, 0, none⟩ = some u ∧ Ow w' 5 1 u (num ((bs.drop a).take k)) (bv ((bs.drop (a + k)).take (num ((bs.drop a).take k)))) ∧ Kp [p] w w' ∧ Rr w' p v (a + k + num ((bs.drop a).take k)) bs ∧ ∀ b, u.ownBlock = some b → w.heap.size ≤ b :=
    next_ok p v a bs k hk _ _ _ (h.kp' (listW_kp w p most)) _ eg_list_in (fun A c W hkp hr hrd => by
      obtain ⟨b1, b2, b3⟩ := listW_blks w p most
      have k1 : Kp [p] w W := ((listW_kp w p most).more (T := [p]) (by simp)).trans hkp (fun g hg => .inl hg)
      refine (wlist_in p (w.heap.size + 1) w.heap.size (w.heap.size + 1 + 1) v _ _ (a + k) (bs.length - (a + k)) most bs ((bs.drop a).take k) W hr (by omega) hmost (by omega) (by rw [hcl]; exact hrd) (b2.kp hkp (by simp; omega)) (b1.kp hkp (by simp; omega)) (b3.kp hkp (by simp; omega)) (by omega) (fun e => by have := hvl _ e; omega) h1 (by omega)).mono ?_
      rintro e w' ⟨rfl, u, hu, hb', hkk, hr', hf⟩
      refine ⟨rfl, u, by simpa using hb'.cell 0, hu, k1.trans hkk (fun g hg => ?_), hr', fun b hb => ?_⟩
      · simp at hg
        rcases hg with rfl | rfl
        · exact .inl (by simp)
        · exact .inr (by omega)
      · have := hf b hb
        have := k1.size
        omega)
  have Hn := Lib.hid hnext
  clear hnext
  generalize num ((bs.drop a).take k) = N at *
  go_enter Try.func47, Try.ntmps47
  go_wp2_with (first
    | (go_at_call 65; refine Hn.out.mono ?_; rintro e w' ⟨rfl, u, hc, hu, hkp, hr, hf⟩; obtain ⟨A1, c1, rfl, _, _⟩ := ow_form hu))
  go_ret2
  exact ⟨_, rfl, hu, hkp, hr, hf⟩

set_option maxRecDepth 100000 in
set_option maxHeartbeats 1000000 in
/-- Refused behind the number: the place is as it was. -/
theorem r_list_no (p : Nat) (v : Value) (a k most : Nat) (bs : List UInt8) (er : Int) (hk1 : 1 ≤ k) (hk4 : k ≤ 4) (hmost : most ≤ 9223372036854775807) (hk : a + k ≤ bs.length) (w : World) (h : Rr w p v a bs)
    (h1 : (er = 3 ∧ most < num ((bs.drop a).take k)) ∨ (er = 110 ∧ num ((bs.drop a).take k) ≤ most ∧ bs.length < a + k + num ((bs.drop a).take k))) :
    Calls Try.prog 47 #[.pointer (some ⟨p, 0, none⟩), .int .i64 k, .int .i64 most] w fun e w' => e = .returned (.tuple #[.slice none 0 0, .int .i64 er]) ∧ Kp [p] w w' ∧ Rr w' p v a bs := by
  have hp := h.blk.lt
  have hle := h.le
  have hvl := h.vlt
  have hcl : ((bs.drop a).take k).length = k := by rw [List.length_take, List.length_drop]; omega
  have her : er ≠ 0 := by omega
  have hnext : Calls Try.prog 65 #[.pointer (some ⟨p, 0, none⟩), .int .i64 k, .func (.func 66) #[] #[.pointer (some ⟨w.heap.size + 1, 0, none⟩), .pointer (some ⟨w.heap.size, 0, none⟩), .pointer (some ⟨w.heap.size + 1 + 1, 0, none⟩)]] (listW w p most)
      fun e w' => e = .returned (.int .i64 er) ∧ (w'.cell? ⟨w.heap.size + 1 + 1, 0, none⟩ = some (.slice none 0 0) ∧ Kp [p] w w' ∧ Rr w' p v a bs) :=
    next_no p v a bs k hk _ _ _ (h.kp' (listW_kp w p most)) er her (fun w' => w'.cell? ⟨w.heap.size + 1 + 1, 0, none⟩ = some (.slice none 0 0) ∧ Kp [p] w w' ∧ Rr w' p v a bs) eg_list_in (fun A c W hkp hr hrd => by
      obtain ⟨b1, b2, b3⟩ := listW_blks w p most
      have k1 : Kp [p] w W := ((listW_kp w p most).more (T := [p]) (by simp)).trans hkp (fun g hg => .inl hg)
      have c1 := b1.kp hkp (by simp; omega)
      have c2 := b2.kp hkp (by simp; omega)
      have c3 := b3.kp hkp (by simp; omega)
      have fin : ∀ n, Kp [p] (listW w p most) (W.drewN n) ∧ Blk (W.drewN n) p 103 #[v, .int .i64 ((a : Int) + k)] ∧ (((W.drewN n).setCell ⟨p, 1, none⟩ (.int .i64 a)).cell? ⟨w.heap.size + 1 + 1, 0, none⟩ = some (.slice none 0 0) ∧ Kp [p] w ((W.drewN n).setCell ⟨p, 1, none⟩ (.int .i64 a)) ∧ Rr ((W.drewN n).setCell ⟨p, 1, none⟩ (.int .i64 a)) p v a bs) := fun n => by
        have hb : Blk (W.drewN n) p 103 #[v, .int .i64 ((a : Int) + k)] := by have := hr.blk; rw [Int.natCast_add] at this; exact this
        have ks : Kp [p] (W.drewN n) ((W.drewN n).setCell ⟨p, 1, none⟩ (.int .i64 a)) := (Kp.refl [p] _).setCell (.inl (by simp)) _
        have c3' : Blk (W.drewN n) (w.heap.size + 1 + 1) 25 #[.slice none 0 0] := c3
        exact ⟨hkp.drewN n, hb, by simpa using (c3'.kp ks (by simp; omega)).cell 0, (k1.drewN n).trans ks (fun g hg => .inl hg), (hr.drewN n).moved ks (setCell1 hb) hle⟩
      rcases h1 with ⟨rfl, h1⟩ | ⟨rfl, h1, h2⟩
      · refine (list_in_long (w.heap.size + 1) w.heap.size (w.heap.size + 1 + 1) _ most ((bs.drop a).take k) W hmost (by omega) (by rw [hcl]; exact hrd) c2 h1).mono ?_
        rintro e w' ⟨rfl, rfl⟩
        exact ⟨rfl, fin 0⟩
      · refine (list_in_end p (w.heap.size + 1) w.heap.size (w.heap.size + 1 + 1) v _ (a + k) (bs.length - (a + k)) most bs ((bs.drop a).take k) W hr (by omega) hmost (by omega) (by rw [hcl]; exact hrd) c2 c1 h1 (by omega)).mono ?_
        rintro e w' ⟨rfl, n, rfl⟩
        exact ⟨rfl, fin n⟩)
  have Hn := Lib.hid hnext
  clear hnext h1 her
  go_enter Try.func47, Try.ntmps47
  go_wp2_with (first
    | (go_at_call 65; refine Hn.out.mono ?_; rintro e w' ⟨rfl, hc, hkp, hr⟩))
  go_ret2
  exact ⟨rfl, hkp, hr⟩

set_option maxRecDepth 100000 in
set_option maxHeartbeats 1000000 in
theorem r_list_end (p : Nat) (v : Value) (a k most : Nat) (bs : List UInt8) (hk1 : 1 ≤ k) (hk4 : k ≤ 4) (hk : bs.length < a + k) (w : World) (h : Rr w p v a bs) :
    Calls Try.prog 47 #[.pointer (some ⟨p, 0, none⟩), .int .i64 k, .int .i64 most] w fun e w' => e = .returned (.tuple #[.slice none 0 0, .int .i64 110]) ∧ Kp [] w w' := by
  have hle := h.le
  have hn := next_end p v a bs k (by omega) (.func (.func 66) #[] #[.pointer (some ⟨w.heap.size + 1, 0, none⟩), .pointer (some ⟨w.heap.size, 0, none⟩), .pointer (some ⟨w.heap.size + 1 + 1, 0, none⟩)]) _ (h.kp' (listW_kp w p most))
  have Hn := Lib.hid hn
  have hc3 : ∀ nq, ((listW w p most).drewN nq).cell? ⟨w.heap.size + 1 + 1, 0, none⟩ = some (.slice none 0 0) := fun nq => by simpa using (listW_blks w p most).2.2.cell 0
  have Hc3 := Lib.hid hc3
  clear hn hc3
  go_enter Try.func47, Try.ntmps47
  go_wp2_with (first
    | (go_at_call 65; refine Hn.out.mono ?_; rintro e w' ⟨rfl, nq, rfl⟩; have hc := Hc3.out nq))
  go_ret2
  exact ⟨rfl, (listW_kp w p most).drewN _⟩

end
/- entry.Read. -/
section
open Go.RowKit
set_option maxRecDepth 100000 in
set_option maxHeartbeats 2000000 in
theorem lay_ok (g4 g5 p : Nat) (v u : Value) (f : Int) (a k s : Nat) (bs : List UInt8) (Bs : List Value) (T : List Res) (w0 w : World) (hk : k ≤ 1073741824) (ha : a + 2 ≤ bs.length) (hs : num ((bs.drop a).take 2) = s) (h1 : s ≤ 4096) (h2 : a + 2 + s ≤ bs.length)
    (S : Held w0 w (rrR p v a bs :: blkR g4 76 #[.pointer (some ⟨p, 0, none⟩)] :: blkR g5 24 #[.int .i64 f, u] :: rowR 25 1 u k Bs :: T)) :
    Calls Try.prog 46 #[.pointer (some ⟨g4, 0, none⟩), .pointer (some ⟨g5, 0, none⟩)] w fun e w' => e = .returned (.bool true) ∧ ∃ u' B, Held w0 w' (rrR p v (a + 2 + s) bs :: blkR g4 76 #[.pointer (some ⟨p, 0, none⟩)] :: blkR g5 24 #[.int .i64 f, u'] :: rowR 25 1 u' (k + 1) (Bs ++ [B]) :: rowR 5 1 B s (bv ((bs.drop (a + 2)).take s)) :: T) := by
  obtain ⟨i0, hi, hz0, hz1, hz2⟩ := info_parts Try.infoBytes
  have HS := Lib.hid S
  have Hs := Lib.hid hs
  obtain ⟨c1, _, _⟩ := Blk.c1 (S.at_ (l1 := [_]))
  clear S hs
  go_enter Try.func46, Try.ntmps46
  go_wp2_with fail
  refine (r_list p v a 2 4096 bs (by decide) (by decide) (by decide) ha _ (HS.out.at_ (l1 := [])) (by rw [Hs.out]; exact h1) (by rw [Hs.out]; exact h2)).mono ?_
  rw [Hs.out]
  rintro e w1 ⟨B, rfl, o1, k1, r1, f1⟩
  obtain ⟨AB, cB, rfl, _, _⟩ := ow_form o1
  have S1 := (HS.out.rturn (l1 := []) r1 k1)
  have S2 := Lib.hid (show Held w0 w1 (rowR 5 1 (.slice AB s cB) s (bv ((bs.drop (a + 2)).take s)) :: rrR p v (a + 2 + s) bs :: blkR g4 76 #[.pointer (some ⟨p, 0, none⟩)] :: blkR g5 24 #[.int .i64 f, u] :: rowR 25 1 u k Bs :: T) from by
    refine ⟨S1.k, fun r hr => ?_, fun r hr => ?_, List.pairwise_cons.2 ⟨fun r hr b hb hb' => ?_, S1.apart⟩⟩
    · rcases List.mem_cons.1 hr with rfl | hr
      · exact o1
      · exact S1.ok r hr
    · rcases List.mem_cons.1 hr with rfl | hr
      · exact fun b hb => Nat.le_trans HS.out.k.size (f1 b (by simpa [rowR] using hb))
      · exact S1.base r hr
    · have h3 := f1 b (by simpa [rowR] using hb)
      rcases List.mem_cons.1 hr with rfl | hr
      · have := (HS.out.at_ (l1 := [])); have := (rrR p v a bs).lt w this b hb'; omega
      · have := r.lt w (HS.out.ok r (List.mem_cons_of_mem _ hr)) b hb'; omega)
  clear S1 o1 k1 r1 f1
  obtain ⟨d0, d1, _, _, _⟩ := Blk.c2 (S2.out.at_ (l1 := [_, _, _]))
  have S3 := Lib.hid (S2.out.alloc (.cells #[.slice AB s cB] 25))
  have HR := Lib.hid (rd_new w1 25 (.slice AB s cB))
  clear c1
  go_wp2_with (at_builtin; refine wpList_app _ rfl (.tmp 11) (.tmp 13) _ rfl 25 i0 _ 1 24 Try.underlying22 hi hz0 hz1 hz2 rfl (by decide) u k Bs rfl (S3.out.at_ (l1 := [_, _, _, _])) (.slice (some ⟨w1.heap.size, 0, none⟩) 1 1) 1 [.slice AB s cB] rfl HR.out (by simp [Value.oneCell']) (by unfold maxLen; omega) (by omega) ?_; intro v7 w7 o7 g7 h7; have S7 := Lib.hid (S3.out.grow (l1 := [_, _, _, _]) o7 g7 h7); obtain ⟨A7, c7, hv7, hcc, _⟩ := ow_form o7; subst hv7; obtain ⟨d0, d1, d2, d3, d4⟩ := Blk.c2 (S7.out.at_ (l1 := [_, _, _])); clear o7 g7 h7)
  go_ret
  have S8 := S7.out.set (l1 := [_, _, _]) 1 (.slice A7 (k + 1) c7)
  refine ⟨rfl, .slice A7 (k + 1) c7, .slice AB s cB, S8.perm ?_⟩
  exact (List.Perm.swap _ _ _).trans (List.Perm.cons _ ((List.Perm.swap _ _ _).trans (List.Perm.cons _ ((List.Perm.swap _ _ _).trans (List.Perm.cons _ (List.Perm.swap _ _ _))))))
theorem list_no15 (p : Nat) (v : Value) (a s : Nat) (bs : List UInt8) (w : World) (h : Rr w p v a bs) (hs : num ((bs.drop a).take 2) = s) (hno : bs.length < a + 2 ∨ (a + 2 ≤ bs.length ∧ (4096 < s ∨ bs.length < a + 2 + s))) :
    Calls Try.prog 47 #[.pointer (some ⟨p, 0, none⟩), .int .i64 2, .int .i64 4096] w fun e w1 => ∃ er : Int, er ≠ 0 ∧ e = .returned (.tuple #[.slice none 0 0, .int .i64 er]) ∧ Kp [p] w w1 ∧ Rr w1 p v a bs := by
  rcases hno with h1 | ⟨h1, h2⟩
  · refine (r_list_end p v a 2 4096 bs (by decide) (by decide) h1 w h).mono ?_
    rintro e w1 ⟨rfl, k⟩
    exact ⟨110, by decide, rfl, k.more (by simp), h.kp' k⟩
  · by_cases h3 : 4096 < s
    · refine (r_list_no p v a 2 4096 bs 3 (by decide) (by decide) (by decide) h1 w h (.inl ⟨rfl, by rw [hs]; exact h3⟩)).mono ?_
      rintro e w1 ⟨rfl, k, r⟩
      exact ⟨3, by decide, rfl, k, r⟩
    · refine (r_list_no p v a 2 4096 bs 110 (by decide) (by decide) (by decide) h1 w h (.inr ⟨rfl, by rw [hs]; omega, by rw [hs]; omega⟩)).mono ?_
      rintro e w1 ⟨rfl, k, r⟩
      exact ⟨110, by decide, rfl, k, r⟩
set_option maxRecDepth 100000 in
set_option maxHeartbeats 2000000 in
theorem lay_no (g4 g5 p : Nat) (v u : Value) (f : Int) (a k s : Nat) (bs : List UInt8) (Bs : List Value) (T : List Res) (w0 w : World) (hk : k ≤ 1073741824) (hs : num ((bs.drop a).take 2) = s) (hno : bs.length < a + 2 ∨ (a + 2 ≤ bs.length ∧ (4096 < s ∨ bs.length < a + 2 + s)))
    (S : Held w0 w (rrR p v a bs :: blkR g4 76 #[.pointer (some ⟨p, 0, none⟩)] :: blkR g5 24 #[.int .i64 f, u] :: rowR 25 1 u k Bs :: T)) :
    Calls Try.prog 46 #[.pointer (some ⟨g4, 0, none⟩), .pointer (some ⟨g5, 0, none⟩)] w fun e w' => e = .returned (.bool false) ∧ Held w0 w' T := by
  obtain ⟨i0, hi, hz0, hz1, hz2⟩ := info_parts Try.infoBytes
  have HS := Lib.hid S
  have HL := Lib.hid (list_no15 p v a s bs w (S.at_ (l1 := [])) hs hno)
  obtain ⟨c1, _, _⟩ := Blk.c1 (S.at_ (l1 := [_]))
  clear S hs hno
  go_enter Try.func46, Try.ntmps46
  go_wp2_with fail
  refine HL.out.mono ?_
  rintro e w1 ⟨er, her, rfl, k1, r1⟩
  have hz : (er == 0) = false := by simpa using her
  have S2 := Lib.hid (HS.out.rturn (l1 := []) r1 k1)
  obtain ⟨d0, d1, _, _, _⟩ := Blk.c2 (S2.out.at_ (l1 := [_, _]))
  have S3 := Lib.hid (S2.out.alloc (.cells #[.slice none 0 0] 25))
  have HR := Lib.hid (rd_new w1 25 (.slice none 0 0))
  clear c1 k1 r1 HL
  go_wp2_with (at_builtin; refine wpList_app _ rfl (.tmp 11) (.tmp 13) _ rfl 25 i0 _ 1 24 Try.underlying22 hi hz0 hz1 hz2 rfl (by decide) u k Bs rfl (S3.out.at_ (l1 := [_, _, _])) (.slice (some ⟨w1.heap.size, 0, none⟩) 1 1) 1 [.slice none 0 0] rfl HR.out (by simp [Value.oneCell']) (by unfold maxLen; omega) (by omega) ?_; intro v7 w7 o7 g7 h7; have S7 := Lib.hid (S3.out.grow (l1 := [_, _, _]) o7 g7 h7); obtain ⟨A7, c7, hv7, hcc, _⟩ := ow_form o7; subst hv7; obtain ⟨d0, d1, d2, d3, d4⟩ := Blk.c2 (S7.out.at_ (l1 := [_, _])); clear o7 g7 h7)
  go_ret
  have S8 := S7.out.set (l1 := [_, _]) 1 (.slice A7 (k + 1) c7)
  exact ⟨rfl, S8.drop.drop.drop.drop⟩
def RB (b : List UInt8) : Int × List (List UInt8) := (readB b).getD (0, [])
def RE (b : List UInt8) : Nat := if (readB b).isSome then 0 else 250
theorem RB_none {b : List UInt8} (h : readB b = none) : RB b = (0, []) ∧ RE b = 250 := by unfold RB RE; rw [h]; exact ⟨rfl, rfl⟩
theorem RB_some {b : List UInt8} {f : Int} {L : List (List UInt8)} (h : readB b = some (f, L)) : RB b = (f, L) ∧ RE b = 0 := by unfold RB RE; rw [h]; exact ⟨rfl, rfl⟩
def ReadPost15 (k : IntKind) (b : List UInt8) (w : World) (e : Ending) (w' : World) : Prop :=
  ∃ v Bs, e = .returned (.tuple #[.agg #[.int .i64 (RB b).1, v], .int k (RE b : Int)]) ∧ (RB b).2.length = Bs.length ∧ Held w w' (rowR 25 1 v (RB b).2.length Bs :: textR (RB b).2 Bs)
theorem cnt_lt (b : List UInt8) : cntB b < 65536 := by
  have h := num_lt ((b.drop 8).take 2)
  have hl : ((b.drop 8).take 2).length ≤ 2 := List.length_take_le _ _
  unfold cntB
  have : 256 ^ ((b.drop 8).take 2).length ≤ 256 ^ 2 := Nat.pow_le_pow_right (by decide) hl
  omega
def FRR (g2 : Nat) (U : Nat → Value) : Array Value := #[U 0, U 1, .pointer (some ⟨g2, 0, none⟩), U 3, U 4, U 5, U 6, U 7, U 8, U 9, U 10, U 11, U 12, U 13, U 14, U 15, U 16, U 17, U 18, U 19, U 20, U 21, U 22, U 23, U 24, U 25, U 26, U 27, U 28, U 29, U 30, U 31, U 32, U 33, U 34, U 35, U 36, U 37, U 38, U 39, U 40, U 41, U 42, U 43, U 44, U 45]
/-- What holds where entry.Read jumps to its end. -/
def JR (w : World) (b : List UInt8) (g2 : Nat) (a : Act) (W : World) : Prop :=
  (a.defers = [] ∧ a.tmps = FRR g2 (fun i => a.tmps.getD i undef)) ∧ Held w W [blkR g2 24 #[.int .i64 0, .slice none 0 0]] ∧ readB b = none
theorem readPost_none {k : IntKind} {b : List UInt8} {w W : World} {L : List Res} (h : readB b = none) (S : Held w W L) : ReadPost15 k b w (.returned (.tuple #[.agg #[.int .i64 0, .slice none 0 0], .int k 250])) W := by
  obtain ⟨h1, h2⟩ := RB_none h
  refine ⟨.slice none 0 0, [], by rw [h1, h2]; rfl, by rw [h1]; rfl, ?_⟩
  rw [h1]
  exact (S.sub (List.nil_sublist _)).rownew (World.ownsRow_nil _ _ _ _) (Kp.refl [] W) (by simp [Value.ownBlock])
theorem jump_ret {l : Nat} {J : Act → World → Prop} {Q : Exit → Act → World → Prop} {a : Act} {w : World} (h : Q .ret a w) : Exit.jump l J Q .ret a w := h
set_option maxRecDepth 100000 in
set_option maxHeartbeats 4000000 in
theorem read15_any (x : Value) (b : List UInt8) (w : World) (hx : Rd w 1 x b.length (bv b)) (hn : b.length ≤ 140737488355200) :
    Calls Try.prog 19 #[x] w (ReadPost15 .i64 b w) := by
  have Hx := Lib.hid hx
  have S0 := Lib.hid ((Held.start w).newBlk 24 #[.int .i64 0, .slice none 0 0])
  clear hx
  go_enter Try.func19, Try.ntmps19
  go_wp2_with fail
  obtain ⟨g2, hg2⟩ : ∃ g2, w.heap.size = g2 := ⟨_, rfl⟩
  rw [hg2] at S0 ⊢
  refine wp_scope_jumps 0 (JR w b g2) (fun _ _ => 0) rfl ?first ?pass
  case pass =>
    rintro ⟨tmps, dfs⟩ W ⟨⟨hD, hT⟩, S, hno⟩
    simp only at hD hT
    subst hD
    generalize (fun i => tmps.getD i undef) = U at hT
    subst hT
    unfold FRR
    have HS := Lib.hid S
    have Hno := Lib.hid hno
    obtain ⟨c0, c1, c2, c3, c4⟩ := Blk.c2 (S.at_ (l1 := []))
    clear S hno S0
    go_wp2
    have S2 := (HS.out.set (l1 := []) 0 (.int .i64 0)).set (l1 := []) 1 (.slice none 0 0)
    obtain ⟨c0, c1, c2, c3, c4⟩ := Blk.c2 (S2.at_ (l1 := []))
    refine jump_ret ?_
    refine bodyPost_ret (v := .tuple #[.agg #[.int .i64 0, .slice none 0 0], .int .i64 250]) (by simp [results, Try.f19, go_sem, c0, c1]) rfl ?_
    exact readPost_none Hno.out S2
  case first =>
    go_wp2_with fail
    refine (new_reader x b _ (rd_old Hx.out S0.out.k) (by omega)).mono ?_
    rintro e w1 ⟨p, v, rfl, hp, hr, hv, k1⟩
    have S1 := ((S0.out.new (rrR p v 0 b) k1 hr (fun q hq => by
      rcases List.mem_cons.1 hq with rfl | hq
      · exact hp
      · exact hv q (by simpa using hq))).newBlk 76 #[.pointer (some ⟨p, 0, none⟩)]).newBlk 24 #[.int .i64 0, .slice none 0 0]
    rw [World.size_alloc] at S1
    clear hp hr hv k1
    go_wp2_with fail
    obtain ⟨g4, hg4⟩ : ∃ g4, w1.heap.size = g4 := ⟨_, rfl⟩
    obtain ⟨g5, hg5⟩ : ∃ g5, g4 + 1 = g5 := ⟨_, rfl⟩
    rw [hg4, hg5] at S1 ⊢
    obtain ⟨W1, hW1⟩ : ∃ W1, (w1.alloc (.cells #[.pointer (some ⟨p, 0, none⟩)] 76)).alloc (.cells #[.int .i64 0, .slice none 0 0] 24) = W1 := ⟨_, rfl⟩
    rw [hW1] at S1 ⊢
    have S1 := Lib.hid (show Held w W1 (rrR p v 0 b :: blkR g4 76 #[.pointer (some ⟨p, 0, none⟩)] :: blkR g5 24 #[.int .i64 0, .slice none 0 0] :: [blkR g2 24 #[.int .i64 0, .slice none 0 0]]) from
      S1.perm ((List.perm_append_comm (l₁ := [_, _]) (l₂ := [_])).append_right [_] |>.trans (List.Perm.cons _ (List.Perm.swap _ _ _))))
    clear hW1 hg5 hg4
    by_cases h8 : b.length < 8
    · have Hno := Lib.hid (readB_short (b := b) (by omega))
      refine (r_signed_end p v 0 b (by omega) _ (S1.out.at_ (l1 := []))).mono ?_
      rintro e w2 ⟨rfl, k2⟩
      have S2 := Lib.hid ((S1.out.kp k2).drop.drop.drop)
      clear k2
      go_wp2_with fail
      go_step3
      exact ⟨rfl, ⟨rfl, rfl⟩, S2.out, Hno.out⟩
    · refine (r_signed p v 0 b (by omega) _ (S1.out.at_ (l1 := []))).mono ?_
      obtain ⟨f, HF⟩ : ∃ f, Hid (sgn (b.take 8) = f) := ⟨_, Lib.hid rfl⟩
      rw [show wrap64 (num ((b.drop 0).take 8) : Int) = f from HF.out]
      rintro e w2 ⟨rfl, k2, r2⟩
      have S2 := S1.out.rturn (l1 := []) r2 k2
      clear k2 r2
      obtain ⟨c1, _, _⟩ := Blk.c1 (S2.at_ (l1 := [_]))
      obtain ⟨d0, d1, d2, d3, d4⟩ := Blk.c2 (S2.at_ (l1 := [_, _]))
      have S3 := S2.set (l1 := [_, _]) 0 (.int .i64 f)
      obtain ⟨c1, _, _⟩ := Blk.c1 (S3.at_ (l1 := [_]))
      have S3 := Lib.hid S3
      have hf : -9223372036854775808 ≤ f ∧ f ≤ 9223372036854775807 := by rw [← HF.out]; unfold sgn wrap64; omega
      clear S2
      go_wp2_with fail
      obtain ⟨W2, hW2⟩ : ∃ W2, w2.setCell ⟨g5, 0, none⟩ (.int .i64 f) = W2 := ⟨_, rfl⟩
      rw [hW2] at S3 c1 ⊢
      clear hW2 d0 d1 d2 d3 d4
      by_cases h10 : b.length < 10
      · have Hno := Lib.hid (readB_short (b := b) h10)
        refine (take_u16_end p v 8 b _ (S3.out.at_ (l1 := [])) (by omega)).mono ?_
        rintro e w3 ⟨rfl, k3⟩
        have S4 := Lib.hid ((S3.out.kp k3).drop.drop.drop)
        clear k3
        go_wp2_with fail
        go_step3
        exact ⟨rfl, ⟨rfl, rfl⟩, S4.out, Hno.out⟩
      · have h10' : 10 ≤ b.length := by omega
        refine (take_u16 p v 8 b _ (S3.out.at_ (l1 := [])) (by omega)).mono ?_
        have hcn := cnt_lt b
        obtain ⟨n, HN⟩ : ∃ n, Hid (cntB b = n) := ⟨_, Lib.hid rfl⟩
        rw [HN.out] at hcn
        rw [show num ((b.drop 8).take 2) = n from HN.out]
        rintro e w3 ⟨rfl, k3, r3⟩
        have S4 := Lib.hid (S3.out.rturn (l1 := []) r3 k3)
        clear k3 r3 c1
        go_wp2
        go_loopw [30] (fun i wr => ∃ (k at_ : Nat) (L : List (List UInt8)) (u : Value) (Bs : List Value), k ≤ n ∧ i = .int .u16 k ∧ Hid (stN b k = some (L, at_)) ∧ Bs.length = k ∧ L.length = k ∧ Held w wr (rrR p v at_ b :: blkR g4 76 #[.pointer (some ⟨p, 0, none⟩)] :: blkR g5 24 #[.int .i64 f, u] :: rowR 25 1 u k Bs :: blkR g2 24 #[.int .i64 0, .slice none 0 0] :: textR L Bs)) (fun i _ => n - (intOf i).toNat)
        case atStart =>
          refine ⟨0, 10, [], .slice none 0 0, [], by omega, rfl, Lib.hid rfl, rfl, rfl, ?_⟩
          have := (S4.out.rownew (World.ownsRow_nil _ 0 25 1) (Kp.refl [] _) (by simp [Value.ownBlock]))
          exact this.perm ((List.Perm.swap _ _ _).trans (List.Perm.cons _ ((List.Perm.swap _ _ _).trans (List.Perm.cons _ (List.Perm.swap _ _ _)))))
        case round =>
          clear S4
          obtain ⟨k, at_, L, u, Bs, hk, rfl, Hst, hBs, hLk, S⟩ := hrel
          have HS := Lib.hid S
          have HBs := Lib.hid hBs
          have HLk := Lib.hid hLk
          clear S hBs hLk
          by_cases hlt : k < n
          · obtain ⟨s, Hs⟩ : ∃ s, Hid (num ((b.drop at_).take 2) = s) := ⟨_, Lib.hid rfl⟩
            have Hsu := Lib.hid (stN_succ Hst.out)
            by_cases hg : at_ + 2 ≤ b.length ∧ s ≤ 4096 ∧ at_ + 2 + s ≤ b.length
            · have hsn : Hid (stN b (k + 1) = some (L ++ [(b.drop (at_ + 2)).take s], at_ + 2 + s)) := Lib.hid (by
                rw [Hsu.out, Hs.out, if_neg (by omega), if_neg (by omega)])
              go_wp2_with fail
              refine (lay_ok g4 g5 p v u f at_ k s b Bs _ w _ (by omega) hg.1 Hs.out hg.2.1 hg.2.2 HS.out).mono ?_
              rintro e w4 ⟨rfl, u', B, S5⟩
              have S5 := Lib.hid S5
              go_wp2
              go_roundw
              case rel =>
                refine ⟨k + 1, at_ + 2 + s, _, u', Bs ++ [B], by omega, by go_num, hsn, by simp [HBs.out], by simp [HLk.out], ?_⟩
                rw [textR_snoc _ _ _ _ (by rw [HLk.out, HBs.out])]
                have hl : ((b.drop (at_ + 2)).take s).length = s := by rw [List.length_take, List.length_drop]; omega
                rw [hl]
                refine S5.out.perm (List.Perm.cons _ (List.Perm.cons _ (List.Perm.cons _ (List.Perm.cons _ ?_))))
                exact (List.Perm.swap _ _ _).trans (List.Perm.cons _ (List.perm_append_singleton _ _).symm)
              case measure => simp [intOf]; omega
            · have Hno : Hid (readB b = none) := Lib.hid (by
                by_cases h1 : b.length < at_ + 2
                · exact readB_stop h10' (show k + 1 ≤ cntB b by rw [HN.out]; omega) (by rw [Hsu.out, if_pos h1])
                · by_cases h2 : b.length < at_ + 2 + s
                  · exact readB_stop h10' (show k + 1 ≤ cntB b by rw [HN.out]; omega) (by rw [Hsu.out, if_neg h1, Hs.out, if_pos h2])
                  · exact readB_long h10' (show k < cntB b by rw [HN.out]; omega) Hst.out (by rw [Hs.out]; omega))
              go_wp2_with fail
              refine (lay_no g4 g5 p v u f at_ k s b Bs _ w _ (by omega) Hs.out (by omega) HS.out).mono ?_
              rintro e w4 ⟨rfl, S5⟩
              have S5 := Lib.hid (S5.sub (.cons_cons _ (List.nil_sublist _)))
              go_wp2_with fail
              go_step3
              exact ⟨rfl, ⟨rfl, rfl⟩, S5.out, Hno.out⟩
          · obtain rfl : k = n := by omega
            have hend : readB b = if at_ = b.length ∧ chk f L = 0 then some (f, L) else none := by
              have := readB_end h10' (L := L) (at_ := at_) (by rw [HN.out]; exact Hst.out)
              rwa [HF.out] at this
            have Hend := Lib.hid hend
            have hle : at_ ≤ b.length := (stN_form h10' _ _ _ Hst.out).2.2.1
            obtain ⟨cc, _, _⟩ := Blk.c1 (HS.out.at_ (l1 := [_]))
            clear hend
            go_wp2_with fail
            refine (r_end p v at_ b _ (HS.out.at_ (l1 := []))).mono ?_
            by_cases he : at_ < b.length
            · have Hno := Lib.hid (show readB b = none from by rw [Hend.out, if_neg]; rintro ⟨h, _⟩; omega)
              rw [if_pos he]
              rintro e w4 ⟨rfl, n4, rfl⟩
              have S5 := Lib.hid (((HS.out.kp ((Kp.refl [] wr).drewN n4)).drop.drop.drop.drop).sub (.cons_cons _ (List.nil_sublist _)))
              obtain ⟨c0, c1, c2, c3, c4⟩ := Blk.c2 (S5.out.at_ (l1 := []))
              go_wp2
              go_step3
              go_wp2
              have S6 := (S5.out.set (l1 := []) 0 (.int .i64 0)).set (l1 := []) 1 (.slice none 0 0)
              obtain ⟨c0, c1, c2, c3, c4⟩ := Blk.c2 (S6.at_ (l1 := []))
              refine jump_ret ?_
              refine bodyPost_ret (v := .tuple #[.agg #[.int .i64 0, .slice none 0 0], .int .i64 250]) (by simp [results, Try.f19, go_sem, c0, c1]) rfl ?_
              exact readPost_none Hno.out S6
            · obtain rfl : at_ = b.length := by omega
              rw [if_neg he]
              rintro e w4 ⟨rfl, n4, rfl⟩
              have S5 := Lib.hid (HS.out.kp ((Kp.refl [] wr).drewN n4))
              have hTx : Txs (wr.drewN n4) u L := texts_of (by rw [HLk.out, HBs.out]) (L1 := [_, _, _]) (by rw [HLk.out]; exact S5.out) (fun r hr => List.mem_cons_of_mem _ hr)
              have HTx := Lib.hid hTx
              obtain ⟨Au, cu, hu, _, _⟩ := ow_form (S5.out.at_ (l1 := [_, _, _]))
              subst hu
              obtain ⟨d0, d1, d2, d3, d4⟩ := Blk.c2 (S5.out.at_ (l1 := [_, _]))
              clear hTx
              go_wp2_with fail
              refine (check_any f hf _ L _ HTx.out).mono ?_
              rintro e w5 ⟨rfl, k5⟩
              have S6 := Lib.hid (S5.out.kp k5)
              obtain ⟨d0, d1, d2, d3, d4⟩ := Blk.c2 (S6.out.at_ (l1 := [_, _]))
              obtain ⟨c0, c1, c2, c3, c4⟩ := Blk.c2 (S6.out.at_ (l1 := [_, _, _, _]))
              clear k5
              by_cases hc : chk f L = 0
              · have HC := Lib.hid (RB_some (f := f) (L := L) (show readB b = some (f, L) by rw [Hend.out]; simp [hc]))
                have hc' : ((chk f L : Nat) : Int) = 0 := by omega
                rw [hc']
                clear hc hc'
                go_wp2
                have S7 := (S6.out.set (l1 := [_, _, _, _]) 0 (.int .i64 f)).set (l1 := [_, _, _, _]) 1 (.slice Au k cu)
                obtain ⟨c0, c1, c2, c3, c4⟩ := Blk.c2 (S7.at_ (l1 := [_, _, _, _]))
                refine jump_ret ?_
                refine bodyPost_ret (v := .tuple #[.agg #[.int .i64 f, .slice Au k cu], .int .i64 0]) (by simp [results, Try.f19, go_sem, c0, c1]) rfl ?_
                refine ⟨.slice Au k cu, Bs, by rw [HC.out.1, HC.out.2]; rfl, by rw [HC.out.1, HLk.out, HBs.out], ?_⟩
                rw [HC.out.1]
                simp only [HLk.out]
                exact S7.drop.drop.drop.sub (.cons_cons _ (.cons _ (List.Sublist.refl _)))
              · have Hno := Lib.hid (show readB b = none from by rw [Hend.out, if_neg]; rintro ⟨_, h⟩; exact hc h)
                have hc' : ¬ ((chk f L : Nat) : Int) = 0 := by omega
                go_wp2
                go_step3
                go_wp2
                have S7 := (S6.out.set (l1 := [_, _, _, _]) 0 (.int .i64 0)).set (l1 := [_, _, _, _]) 1 (.slice none 0 0)
                obtain ⟨c0, c1, c2, c3, c4⟩ := Blk.c2 (S7.at_ (l1 := [_, _, _, _]))
                refine jump_ret ?_
                refine bodyPost_ret (v := .tuple #[.agg #[.int .i64 0, .slice none 0 0], .int .i64 250]) (by simp [results, Try.f19, go_sem, c0, c1]) rfl ?_
                exact readPost_none Hno.out S7
end
/- The reference's Read. -/
section
open Go.RowKit
end
/- Take of entry and of the reference; SameBatch. -/
section
open Go.RowKit
end
/- The law's spoilt: texts that were told are written over, and grown. -/
section
open Go.RowKit
theorem bv_rep (n : Nat) (x : UInt8) : bv (List.replicate n x) = List.replicate n (.int .u8 (x.toNat : Int)) := by simp [bv]
set_option maxRecDepth 100000 in
set_option maxHeartbeats 4000000 in
theorem spoilt15_any {w0 : World} {T : List Res} (v : Value) (L : List (List UInt8)) (Bs : List Value) (w : World) (hB : L.length = Bs.length) (hb : ∀ l, l ∈ L → l.length ≤ 1073741824) (hl : L.length ≤ 1073741824)
    (S0 : Held w0 w (rowR 25 1 v L.length Bs :: (textR L Bs ++ T))) :
    Calls Try.prog 24 #[v] w fun e w' => e = .returned (.tuple #[]) ∧ Held w0 w' T := by
  obtain ⟨i1, hj, hy0, hy1, hy2⟩ := info_parts Try.infoU8
  obtain ⟨A, c, rfl, _, _⟩ := ow_form (S0.at_ (l1 := []))
  have Hb := Lib.hid hb
  have HB := Lib.hid hB
  have H0 := Lib.hid S0
  clear hb hB S0
  go_enter Try.func24, Try.ntmps24
  go_wp2
  go_loopw [2] (fun i wr => ∃ (k : Nat) (xs : List Value) (ts : List (List UInt8)) (Bt : List Value), k ≤ L.length ∧ i = .int .i64 k ∧ Hid (ts.length = L.length ∧ Bt.length = L.length ∧ ∀ j, k ≤ j → ts[j]? = L[j]? ∧ Bt[j]? = Bs[j]? ∧ xs[j]? = Bs[j]?) ∧ Held w0 wr (rowR 25 1 (.slice A L.length c) L.length xs :: (textR ts Bt ++ T))) (fun i _ => L.length - (intOf i).toNat)
  case atStart => exact ⟨0, Bs, L, Bs, Nat.zero_le _, rfl, Lib.hid ⟨rfl, HB.out.symm, fun j _ => ⟨rfl, rfl, rfl⟩⟩, H0.out⟩
  case round =>
    clear H0
    obtain ⟨k, xs, ts, Bt, hk, rfl, Hx, S⟩ := hrel
    by_cases hlt : k < L.length
    · obtain ⟨h1, h2, h3⟩ := Hx.out
      obtain ⟨f1, f2, f3⟩ := h3 k (Nat.le_refl _)
      have hB : Bs[k]? = some (Bs[k]'(by rw [← HB.out]; exact hlt)) := List.getElem?_eq_getElem _
      have hbl := Hb.out _ (List.getElem_mem hlt)
      rw [List.getElem?_eq_getElem hlt] at f1
      rw [hB] at f2 f3
      generalize Bs[k]'_ = B at *
      generalize L[k] = t at *
      obtain ⟨l1, l2, e, hset⟩ := textR_split ts Bt k t B f1 f2
      have Hset := Lib.hid hset
      rw [e, List.append_assoc, List.cons_append] at S
      have S1 : Hid (Held w0 wr ((rowR 25 1 (.slice A L.length c) L.length xs :: l1) ++ rowR 5 1 B t.length (bv t) :: (l2 ++ T))) := Lib.hid S
      obtain ⟨g, c', hv, _, _⟩ := ow_some (S.at_ (l1 := [])) (by omega)
      obtain ⟨Ab, cb, hBv, _, _⟩ := ow_form (S1.out.at_)
      subst hBv
      have hxl := (S.at_ (l1 := [])).1
      injection hv with hA hn hc
      subst hA
      have F3 := Lib.hid f3
      obtain ⟨wo, hwo⟩ : ∃ wo : World, wr = wo := ⟨_, rfl⟩
      subst hwo
      clear hn hc S h1 h2 h3 f1 f2 f3 hB e hset
      go_wp2
      go_loopw [3] (fun j wi => ∃ q : Nat, q ≤ t.length ∧ j = .int .i64 q ∧ Held w0 wi ((rowR 25 1 (.slice (some ⟨g, 0, none⟩) L.length c) L.length xs :: l1) ++ rowR 5 1 (.slice Ab t.length cb) t.length (List.replicate q (.int .u8 90) ++ (bv t).drop q) :: (l2 ++ T))) (fun j _ => t.length - (intOf j).toNat)
      case atStart => exact ⟨0, by omega, rfl, S1.out⟩
      case round =>
        clear S1
        obtain ⟨q, hq, rfl, S⟩ := hrel
        have hcell := (S.at_ (l1 := [])).cellAt k (by omega)
        rw [F3.out] at hcell
        have HS := Lib.hid S
        clear S
        by_cases hqt : q < t.length
        · obtain ⟨gb, cb', hv, _, _⟩ := ow_some HS.out.at_ (by omega)
          injection hv with hA hn hc
          subst hA
          clear hn hc
          have hrow := HS.out.at_
          have hc0 := hrow.cellAt q (by omega)
          have hlen := hrow.1
          rw [List.getElem?_append_right (by simp), List.length_replicate, Nat.sub_self, List.getElem?_drop, Nat.add_zero, List.getElem?_eq_getElem (by rw [bv_length]; exact hqt)] at hc0
          have hf0 := hrow.frozenAt q
          have hlw := ow_lt hrow (g := gb) rfl
          have S2 := Lib.hid (HS.out.rowset ((hrow.stored (g := gb) q (.int .u8 90)).1) ((Kp.refl [gb] _).setCell (p := ⟨gb, q, none⟩) (.inl (by simp)) (.int .u8 90)))
          rw [paint_step (bv t) (.int .u8 90) q (by rw [bv_length]; exact hqt)] at S2
          clear hrow hlen
          go_wp2
          go_roundw
          case rel => exact ⟨q + 1, by omega, by go_num, S2.out⟩
          case measure => simp [intOf]; omega
        · obtain rfl : q = t.length := by omega
          have S2 := HS.out
          rw [List.drop_of_length_le (by rw [bv_length]; omega), List.append_nil] at S2
          have S3 := Lib.hid (S2.alloc (.cells #[.int .u8 90, .int .u8 90, .int .u8 90] 5))
          clear S2
          go_wp2_with (at_builtin; refine wpList_app _ rfl (.tmp 30) (.tmp 31) _ rfl 5 i1 _ 1 1 Try.underlying25 hj hy0 hy1 hy2 rfl (by decide) (.slice Ab t.length cb) t.length (List.replicate t.length (.int .u8 90)) rfl S3.out.at_ (.slice (some ⟨wr.heap.size, 0, none⟩) 3 3) 3 (bv [90, 90, 90]) rfl (rd_lit wr 5 _ [90, 90, 90] rfl (by decide)) (bv_one _) (by unfold maxLen; omega) (by omega) ?_; intro v7 w7 o7 g7 h7; have S7 := Lib.hid (S3.out.grow o7 g7 h7); obtain ⟨A7, c7, hv7, _, _⟩ := ow_form o7; subst hv7; have hc1 := (S7.out.at_ (l1 := [])).cellAt k (by omega); rw [F3.out] at hc1; have hf1 := (S7.out.at_ (l1 := [])).frozenAt k; have hlw := ow_lt (S7.out.at_ (l1 := [])) (g := g) rfl; clear o7 g7 h7)
          have S8 := (S7.out.rowset (l1 := []) ((S7.out.at_ (l1 := [])).stored (g := g) k (.slice A7 (t.length + 3) c7)).1 ((Kp.refl [g] w7).setCell (p := ⟨g, k, none⟩) (.inl (by simp)) (.slice A7 (t.length + 3) c7)))
          have S8 := Lib.hid S8
          go_wp2
          go_roundw
          case rel =>
            obtain ⟨h1, h2, h3⟩ := Hx.out
            refine ⟨k + 1, xs.set k (.slice A7 (t.length + 3) c7), ts.set k (List.replicate (t.length + 3) 90), Bt.set k (.slice A7 (t.length + 3) c7), by omega, by go_num, Lib.hid ⟨by rw [List.length_set, h1], by rw [List.length_set, h2], fun j hj2 => ?_⟩, ?_⟩
            · obtain ⟨f1, f2, f3⟩ := h3 j (by omega)
              exact ⟨by rw [List.getElem?_set_ne (by omega)]; exact f1, by rw [List.getElem?_set_ne (by omega)]; exact f2, by rw [List.getElem?_set_ne (by omega)]; exact f3⟩
            · rw [Hset.out, List.append_assoc, List.cons_append, List.length_replicate]
              have e9 : bv (List.replicate (t.length + 3) 90) = List.replicate t.length (.int .u8 90) ++ bv [90, 90, 90] := by rw [bv_rep, ← List.replicate_append_replicate]; rfl
              rw [e9]
              exact S8.out
          case measure => simp [intOf]; omega
    · go_wp2
      go_end0
      exact ⟨rfl, S.sub (.cons _ (List.sublist_append_right _ _))⟩
end
/- The law's known of layer 15. -/
section
open Go.RowKit
def kL : List (List UInt8) := [[1, 2], []]
def kB : List UInt8 := [0, 0, 0, 0, 0, 0, 0, 7, 0, 2, 0, 2, 1, 2, 0, 0]
theorem kL_chk : chk 7 kL = 0 := by decide +kernel
theorem kL_form : formB 7 kL = kB := by decide +kernel
theorem kL_out : outB 7 kL = kB := by rw [outB_ok kL_chk, kL_form]
theorem kB_read : RB kB = (7, kL) ∧ RE kB = 0 := RB_some (by rw [← kL_form]; exact readB_of kL_chk)
set_option maxRecDepth 100000 in
set_option maxHeartbeats 2000000 in
theorem known15_true (w : World) : Calls Try.prog 10 #[] w fun e w' => e = .returned (.bool true) ∧ Kp [] w w' := by
  have r1 : Rd (w.alloc (.cells #[.int .u8 1, .int .u8 2] 5)) 1 (.slice (some ⟨w.heap.size, 0, none⟩) 2 2) 2 (bv [1, 2]) := rd_lit w 5 _ [1, 2] rfl (by decide)
  have t2 := txs2 25 (g := w.heap.size + 1) (by simp) r1 (show Rd (w.alloc (.cells #[.int .u8 1, .int .u8 2] 5)) 1 (.slice none 0 0) 0 (bv []) from Rd.nil _ _)
  have T2 := Lib.hid t2
  have K2 := Lib.hid (((Kp.refl [] w).alloc (.cells #[.int .u8 1, .int .u8 2] 5)).alloc (.cells #[.slice (some ⟨w.heap.size, 0, none⟩) 2 2, .slice none 0 0] 25))
  clear r1 t2
  go_enter Try.func10, Try.ntmps10
  go_wp2_with fail
  refine (put15_any 7 (by decide) _ kL _ T2.out).mono ?_
  rintro e w1 ⟨u1, rfl, o1⟩
  rw [kL_chk]
  rw [kL_out] at o1
  have N1 := Lib.hid (o1.base K2.out)
  obtain ⟨A1, c1, rfl⟩ := o1.form
  clear o1
  go_wp2_with fail
  refine (read15_any _ kB _ N1.out.rd (by decide)).mono ?_
  rintro e w2 ⟨v, Bs, rfl, hBs, S⟩
  rw [kB_read.1, kB_read.2] at *
  have hBs2 : Bs.length = 2 := hBs.symm
  obtain ⟨gv, cv, rfl, _, _⟩ := ow_some (S.at_ (l1 := [])) (by decide)
  obtain ⟨B0, B1, rfl⟩ : ∃ B0 B1, Bs = [B0, B1] := by
    match Bs, hBs2 with
    | [B0, B1], _ => exact ⟨B0, B1, rfl⟩
  have N2 := Lib.hid (N1.out.kp S.k)
  have S2 := Lib.hid (S.newBlk 24 #[.int .i64 7, .slice (some ⟨gv, 0, none⟩) 2 cv])
  have hc0 := (S2.out.at_ (l1 := [_])).cellAt 0 (by decide)
  have hr0 := Rd.of_own (S2.out.at_ (l1 := [_, _]) : Ow _ 5 1 B0 2 (bv [1, 2]))
  obtain ⟨b0, b1, -⟩ := Blk.c2 (S2.out.at_ (l1 := []))
  have kv := strB (N2.out.kp ((Kp.refl [] w2).alloc (.cells #[.int .i64 7, .slice (some ⟨gv, 0, none⟩) 2 cv] 24))).rd
  have kw := strB hr0
  have K3 := Lib.hid (N1.out.2.1.trans S2.out.k (by simp))
  clear hr0 S
  have hkb : (kB == [0, 0, 0, 0, 0, 0, 0, 7, 0, 2, 0, 2, 1, 2, 0, 0]) = true := by decide
  go_wp2
  go_ret
  exact ⟨rfl, K3.out⟩
end
/- EntryPuts: the walk. -/
section
open Go.RowKit
/-- What lent has told: the row's block, its capacity, the texts, the mark. -/
abbrev LentG := Nat × Nat × List Value × Value
abbrev lentL (x : LentG) (L : List (List UInt8)) : List Res :=
  rowR 25 1 (.slice (some ⟨x.1, 0, none⟩) (L.length + 1) x.2.1) (L.length + 1) (x.2.2.1 ++ [x.2.2.2]) :: rdR x.2.2.2 4 (bv mk4) :: markR L x.2.2.1
end
/- EntryReads: the walk. -/
section
open Go.RowKit
theorem txs_ok {w W : World} {v : Value} {ls : List (List UInt8)} {Bs : List Value} {L : List Res} (hl : ls.length = Bs.length) (S : Held w W L) (h0 : rowR 25 1 v ls.length Bs ∈ L) (hm : ∀ r, r ∈ textR ls Bs → r ∈ L) : Txs W v ls := by
  refine ⟨Bs, Rd.of_own (S.ok _ h0), fun i hi => ?_⟩
  have hB : Bs[i]? = some (Bs[i]'(by omega)) := List.getElem?_eq_getElem (by omega)
  exact ⟨_, hB, Rd.of_own (S.ok _ (hm _ (textR_mem ls Bs i _ _ (List.getElem?_eq_getElem hi) hB)))⟩
end
/- The law's right: a batch that may be, out of any. -/
section
open Go.RowKit
end
/- EntryBack: the walk. -/
section
open Go.RowKit
end
/- What comes in, opened: slices of bytes; how much there is of it. -/
section
open Go.RowKit Go.WideShapes Go.ChangeShapes

section
variable {H : Type} {enc : TypeId × Value → H} {P : Program}
/-! ### Bulk -/
theorem bulk_pos (d : DataW H) : 1 ≤ Rows.uptoBulk d := by
  cases d with
  | lit l => cases l <;> simp [Rows.uptoBulk]
  | nil => simp [Rows.uptoBulk]
  | ptr d => simp [Rows.uptoBulk]
  | slice elems spare => simp [Rows.uptoBulk]
  | agg parts => simp [Rows.uptoBulk]
  | iface t d => simp [Rows.uptoBulk]
  | map entries => simp [Rows.uptoBulk]
  | held h => simp [Rows.uptoBulk]
theorem bulk_len (l : List (DataW H)) : l.length ≤ Rows.uptoBulkAll l := by
  induction l with
  | nil => simp [Rows.uptoBulkAll]
  | cons x r ih => have := bulk_pos x; simp only [Rows.uptoBulkAll, List.length_cons]; omega
theorem bulk_slice (l r : List (DataW H)) : Rows.uptoBulk (.slice l r) = Rows.uptoBulkAll l + Rows.uptoBulkAll r + 1 := by simp [Rows.uptoBulk]
/-- Sums, place by place. -/
def sumTo (f : Nat → Nat) : Nat → Nat
  | 0 => 0
  | n + 1 => sumTo f n + f n
theorem bulk_append (l r : List (DataW H)) : Rows.uptoBulkAll (l ++ r) = Rows.uptoBulkAll l + Rows.uptoBulkAll r := by
  induction l with
  | nil => simp [Rows.uptoBulkAll]
  | cons x l ih => simp only [List.cons_append, Rows.uptoBulkAll, ih]; omega
theorem bulk_range (D : Nat → DataW H) (n : Nat) : Rows.uptoBulkAll ((List.range n).map D) = sumTo (fun i => Rows.uptoBulk (D i)) n := by
  induction n with
  | zero => rfl
  | succ n ih => rw [List.range_succ, List.map_append, bulk_append, ih]; simp [Rows.uptoBulkAll, sumTo]
theorem sumTo_mono {f : Nat → Nat} {m n : Nat} (h : m ≤ n) : sumTo f m ≤ sumTo f n := by
  induction n with
  | zero => rw [show m = 0 by omega]; exact Nat.le_refl _
  | succ n ih =>
    by_cases e : m = n + 1
    · subst e; exact Nat.le_refl _
    · exact Nat.le_trans (ih (by omega)) (Nat.le_add_right _ _)
theorem sumTo_at {f : Nat → Nat} {i n : Nat} (h : i < n) : f i ≤ sumTo f n := Nat.le_trans (Nat.le_add_left _ _) (sumTo_mono (f := f) (show i + 1 ≤ n by omega))
theorem bulk_bound {l : List (DataW H)} (hk : Rows.uptoSmall H l = true) : Rows.uptoBulkAll l ≤ 1048576 := of_decide_eq_true hk

/-! ### A slice of bytes -/
theorem u8_lit {z : Int} (h : (Lit.int .u8 z).wf = true) : 0 ≤ z ∧ z ≤ 255 := by simpa [Lit.wf, IntKind.min, IntKind.max, IntKind.signed, IntKind.bits] using h
theorem open_bytes {W : World} {n : Nat} {t e : TypeId} {cs : List Value} {x : DataW H × List MemPlace} (ht : P.underlying t = some (.slice e)) (he : P.underlying e = some (.int .u8)) (hc : P.cellsOf e = 1)
    (h : DataW.trod enc P W 0 (fun _ => true) true n t cs = some x) : ∃ B bs, cs = [B] ∧ Rd W 1 B bs.length (bv bs) ∧ bs.length + 1 ≤ Rows.uptoBulk x.1 := by
  rcases open_ints ht he hc h with ⟨rfl, rfl⟩ | ⟨a, len, cap, zs, rfl, _, hl, hm, hz, rfl, hcell, hwf⟩
  · exact ⟨_, [], rfl, Rd.nil _ _, by simp [Rows.uptoBulk]⟩
  · simp only [if_true] at hz
    have hbl : ((zs.take len).map fun z => UInt8.ofNat z.toNat).length = len := by rw [List.length_map, List.length_take]; omega
    refine ⟨_, (zs.take len).map fun z => UInt8.ofNat z.toNat, rfl, ?_, ?_⟩
    · rw [hbl]
      refine ⟨by rw [bv_length, hbl]; omega, some a, cap, rfl, hl, hm, (fun h => by cases h), fun ad had j u hu => ?_⟩
      cases had
      rw [bv_get, List.getElem?_map] at hu
      cases hj : (zs.take len)[j]? with
      | none => rw [hj] at hu; simp at hu
      | some z =>
        rw [hj] at hu
        have hz' : zs[j]? = some z := by
          rw [List.getElem?_take] at hj
          split at hj
          · exact hj
          · cases hj
        have hlt : j < zs.length := (List.getElem?_eq_some_iff.1 hz').1
        have hw := u8_lit (hwf z (List.mem_of_getElem? hz'))
        have hg := hcell j hlt
        rw [List.getD_eq_getElem?_getD, hz', Option.getD_some] at hg
        rw [hg]
        simp only [Option.map_some, Option.some.injEq] at hu
        rw [← hu, UInt8.toNat_ofNat', Nat.mod_eq_of_lt (by omega)]
        congr 2
        omega
    · rw [bulk_slice]
      have := bulk_len (lits (H := H) .u8 (zs.take len))
      rw [hbl]
      have hll : (lits (H := H) .u8 (zs.take len)).length = len := by simp [lits]; omega
      omega
end
end
/- Slices of texts that came in, opened. -/
section
open Go.RowKit Go.WideShapes Go.ChangeShapes
/-- How much a list of texts is, in a bulk of b. -/
structure TxsLe (L : List (List UInt8)) (b : Nat) : Prop where
  n : L.length ≤ b
  each : ∀ l, l ∈ L → l.length ≤ b
  all : (L.map List.length).sum + L.length ≤ b
theorem TxsLe.le {L : List (List UInt8)} {b c : Nat} (h : TxsLe L b) (hc : b ≤ c) : TxsLe L c := ⟨by have := h.n; omega, fun r hr => by have := h.each r hr; omega, by have := h.all; omega⟩
theorem sum_take_succ {L : List (List UInt8)} {i : Nat} {l : List UInt8} (h : L[i]? = some l) : ((L.take (i + 1)).map List.length).sum = ((L.take i).map List.length).sum + l.length := by
  rw [List.take_add_one, h, Option.toList_some, List.map_append, List.sum_append]
  simp
section
variable {H : Type} {enc : TypeId × Value → H}
theorem Try.cellsBytesO : Try.prog.cellsOf 25 = 1 := by kernel_rfl
theorem Try.cellsU8O : Try.prog.cellsOf 5 = 1 := by kernel_rfl
theorem open_texts {W : World} {n : Nat} {v : Value} {x : DataW H × List MemPlace} (h : DataW.trod enc Try.prog W 0 (fun _ => true) true n 22 [v] = some x) :
    ∃ L, Txs W v L ∧ TxsLe L (Rows.uptoBulk x.1) := by
  rcases Deep.open_slice Try.underlying22 h with ⟨hv, rfl⟩ | ⟨a, len, cap, m, k, D, Pl, hv, _, hl, hm, hmm, rfl, hel⟩
  · cases hv
    exact ⟨[], ⟨[], Rd.nil _ _, fun i hi => by simp at hi⟩, ⟨by simp, by simp, by simp [Rows.uptoBulk]⟩⟩
  · cases hv
    simp only [if_true] at hmm
    obtain ⟨G, hG⟩ := Deep.choose_lt (α := Option (List UInt8 × Value)) (n := len) (p := fun i o => ∃ r B, o = some (r, B) ∧ W.cell? (a.add i) = some B ∧ Rd W 1 B r.length (bv r) ∧ r.length + 1 ≤ Rows.uptoBulk (D i)) (fun i hi => by
      obtain ⟨cs, h1, h2⟩ := hel i (by omega)
      rw [Try.cellsBytesO, Nat.mul_one] at h1
      obtain ⟨B, r, rfl, hr, hb⟩ := open_bytes Try.underlying25 Try.underlying5 Try.cellsU8O h2
      obtain ⟨_, hlen, hcell⟩ := World.cells?_some h1
      have hc0 := hcell 0 (by simp)
      exact ⟨_, r, B, rfl, by simpa [Addr.add] using hc0, hr, hb⟩)
    have hps : ∀ i, i < len → ∃ r B, ((List.range len).map fun i => match G i with | some (r, _) => r | none => [])[i]? = some r ∧ ((List.range len).map fun i => match G i with | some (_, B) => B | none => undef)[i]? = some B ∧ W.cell? (a.add i) = some B ∧ Rd W 1 B r.length (bv r) ∧ r.length + 1 ≤ Rows.uptoBulk (D i) := fun i hi => by
      obtain ⟨r, B, hg, h1, h2, h3⟩ := hG i hi
      refine ⟨r, B, ?_, ?_, h1, h2, h3⟩
      · rw [List.getElem?_map, List.getElem?_range hi]
        simp [hg]
      · rw [List.getElem?_map, List.getElem?_range hi]
        simp [hg]
    have hlen : ((List.range len).map fun i => match G i with | some (r, _) => r | none => ([] : List UInt8)).length = len := by simp
    have hlenB : ((List.range len).map fun i => match G i with | some (_, B) => B | none => undef).length = len := by simp
    generalize ((List.range len).map fun i => match G i with | some (r, _) => r | none => ([] : List UInt8)) = L at hps hlen
    generalize ((List.range len).map fun i => match G i with | some (_, B) => B | none => undef) = Bs at hps hlenB
    subst hlen
    rw [bulk_slice, bulk_range]
    have hfr : ∀ i, i ≤ L.length → ((L.take i).map List.length).sum + i ≤ sumTo (fun i => Rows.uptoBulk (D i)) i := by
      intro i
      induction i with
      | zero => intro _; simp
      | succ i ih =>
        intro hi
        obtain ⟨r, B, hg, _, _, _, h2⟩ := hps i (by omega)
        rw [sum_take_succ hg]
        have := ih (by omega)
        show _ ≤ sumTo (fun i => Rows.uptoBulk (D i)) i + Rows.uptoBulk (D i)
        omega
    have hall := hfr L.length (Nat.le_refl _)
    rw [List.take_length] at hall
    have hmono := sumTo_mono (f := fun i => Rows.uptoBulk (D i)) (show L.length ≤ m by omega)
    refine ⟨L, ⟨Bs, ⟨by omega, some a, cap, rfl, hl, hm, (fun h => by cases h), fun ad had j u hu => ?_⟩, fun i hi => ?_⟩, ⟨by omega, fun r hr => ?_, by omega⟩⟩
    · cases had
      obtain ⟨r, B, _, hB, hc, _⟩ := hps j (by have := (List.getElem?_eq_some_iff.1 hu).1; omega)
      rw [hu] at hB
      cases hB
      exact hc
    · obtain ⟨r, B, hg, hB, _, hr, _⟩ := hps i hi
      rw [List.getElem?_eq_getElem hi] at hg
      cases hg
      exact ⟨B, hB, hr⟩
    · obtain ⟨i, hi, rfl⟩ := List.getElem_of_mem hr
      obtain ⟨r', B, hg, _, _, _, h2⟩ := hps i hi
      rw [List.getElem?_eq_getElem hi] at hg
      cases hg
      have := sumTo_at (f := fun i => Rows.uptoBulk (D i)) hi
      omega
end
end
/- Batches that came in, opened; EntryPuts within a bulk. -/
section
open Go.RowKit Go.WideShapes Go.ChangeShapes
section
variable {H : Type} {enc : TypeId × Value → H}
end
end
/- Bytes that came in; the walk of EntryBack. -/
section
open Go.RowKit Go.WideShapes Go.ChangeShapes
end
/- Fits of entry: does a batch go with a log? -/
section
open Go.RowKit
theorem txs_len {W : World} {A : Option Addr} {n c : Nat} {L : List (List UInt8)} (h : Txs W (.slice A n c) L) : n = L.length ∧ n ≤ c ∧ L.length ≤ 9223372036854775807 := by
  obtain ⟨vs, ⟨_, A', c', hv, h1, h2, _⟩, _⟩ := h
  cases hv
  unfold maxLen at h2
  exact ⟨rfl, h1, by omega⟩
theorem cut_textsl (kd : IntKind) (A : Option Addr) (n c lo : Nat) (l : Int) (hl : l = lo) (hlo : lo ≤ n) : ∃ A' c', (∀ w, (Instr.sliceAt 22 (.slice A n c) (some (.int kd l)) none none).run Try.prog w = .ok (.slice A' (n - lo) c') w) ∧
    ∀ (W : World) (L : List (List UInt8)), Txs W (.slice A n c) L → Txs W (.slice A' (n - lo) c') (L.drop lo) := by
  subst hl
  have key : ∃ A' c', sliced A lo (lo + (n - lo)) c 1 = .slice A' (n - lo) c' ∧ ∀ (W : World) (xs : List Value), Rd W 1 (.slice A n c) n xs → Rd W 1 (.slice A' (n - lo) c') (n - lo) ((xs.drop lo).take (n - lo)) := by
    by_cases e : c = lo
    · exact ⟨A, c - lo, by simp [sliced, e], fun W xs h1 => h1.cut0 (a := lo) (k := n - lo) (by omega) e⟩
    · exact ⟨A.map (fun x => x.add lo), c - lo, by simp [sliced, e], fun W xs h1 => h1.cut (a := lo) (k := n - lo) (by omega) e⟩
  obtain ⟨A', c', e, h1⟩ := key
  refine ⟨A', c', fun w => ?_, fun W L h => ?_⟩
  · rw [cut_at_texts, run_slice_l w 22 A n c und_texts kd lo (by omega) (by omega), elem_texts, run_size_bytes]
    simp only [Result.andThen_ok, Int.toNat_natCast]
    rw [show lo + (n - lo) = n by omega] at e
    rw [e]
  · obtain ⟨rfl, _⟩ := txs_len h
    obtain ⟨vs, hr, hel⟩ := h
    have hl : (L.drop lo).length = L.length - lo := List.length_drop ..
    have hvl : vs.length = L.length := by have := hr.1; omega
    have hr2 := h1 W vs hr
    rw [List.take_of_length_le (by rw [List.length_drop]; omega)] at hr2
    refine ⟨vs.drop lo, by rw [hl]; exact hr2, fun i hi => ?_⟩
    obtain ⟨u, h2, h3⟩ := hel (lo + i) (by omega)
    refine ⟨u, by rw [List.getElem?_drop]; exact h2, ?_⟩
    rw [List.getElem_drop]
    exact h3
end
/- bytes.Clone; slices.Values over texts, as an iterator. -/
section
open Go.RowKit Go.Shelf
attribute [local go_sem] Oper.semAt_some
set_option maxRecDepth 100000 in
set_option maxHeartbeats 2000000 in
theorem clone15_any (x : Value) (l : List UInt8) (w : World) (hx : Rd w 1 x l.length (bv l)) (hn : l.length ≤ 140737488355200) :
    Calls Try.prog 59 #[x] w fun r w' => ∃ u, r = .returned u ∧ NewB l w u w' := by
  obtain ⟨A, c, rfl, -, -, hA, -⟩ := rd_get2 hx
  have Hx := Lib.hid hx
  cases A with
  | none =>
    have hl := hA rfl
    obtain rfl : l = [] := List.eq_nil_of_length_eq_zero hl
    clear hx hA hl
    go_enter Try.func59, Try.ntmps59
    go_wp2
    go_ret
    exact ⟨_, rfl, NewB.nil _ _ (Kp.refl _ _)⟩
  | some ad =>
    clear hx hA
    have N0 : Hid (NewB [] w (.slice (some ⟨w.heap.size, 0, none⟩) 0 0) (w.alloc (.cells #[] 5))) := Lib.hid ⟨ow_new w 5 1 0 #[] rfl (by decide), (Kp.refl [] w).alloc _, fun g hg => by simp [Value.ownBlock] at hg; omega⟩
    go_enter Try.func59, Try.ntmps59
    go_wp2_with (at_builtin; refine app_newB rfl (.tmp 5) (.tmp 6) rfl (.slice (some ⟨w.heap.size, 0, none⟩) 0 0) [] rfl N0.out (.slice (some ad) l.length c) l rfl (Hx.out.alloc _) (by simp only [List.length_nil]; omega) ?_; intro v3 w3 o3; rw [List.nil_append] at o3; have O3 := Lib.hid o3; clear o3)
    go_ret
    exact ⟨_, rfl, O3.out⟩
theorem Stays.all {B : Nat} {α : Sort _} {p : α → World → Prop} (h : ∀ x, Stays B (p x)) : Stays B (fun W => ∀ x, p x W) := fun W W' hp hk x => h x W W' (hp x) hk
/-- A slice of texts, with its cells. -/
def TxsV (W : World) (v : Value) (vs : List Value) (L : List (List UInt8)) : Prop := Rd W 1 v L.length vs ∧ ∀ i (hi : i < L.length), ∃ u, vs[i]? = some u ∧ Rd W 1 u L[i].length (bv L[i])
theorem TxsV.kp0 {W W' : World} {v : Value} {vs : List Value} {L : List (List UInt8)} (h : TxsV W v vs L) (k : Kp [] W W') : TxsV W' v vs L := ⟨rd_old h.1 k, fun i hi => by obtain ⟨u, h1, h2⟩ := h.2 i hi; exact ⟨u, h1, rd_old h2 k⟩⟩
theorem stays_txs (B : Nat) (v : Value) (vs : List Value) (L : List (List UInt8)) : Stays B (fun W => TxsV W v vs L) :=
  (stays_rd B 1 v L.length vs).and (Stays.all fun i => Stays.all fun hi => Stays.ex fun u => (Stays.pure B _).and (stays_rd B 1 u L[i].length (bv L[i])))
/-- What slices.Values' function hands over: a text's slice, with what it reads. -/
abbrev VX := Value × List UInt8
def VX.encs (x : VX) : Array Value := #[x.1]
def ValOwn (bx n c : Nat) (A : Option Addr) (vs : List Value) (M : List (List UInt8)) (W : World) : Prop := W.cell? ⟨bx, 0, none⟩ = some (.slice A n c) ∧ TxsV W (.slice A n c) vs M
theorem ValOwn.kp {bx n c : Nat} {A : Option Addr} {vs : List Value} {M : List (List UInt8)} {W W' : World} (h : ValOwn bx n c A vs M W) (hk : Kp [] W W') : ValOwn bx n c A vs M W' := ⟨cell_kept h.1 hk, h.2.kp0 hk⟩
def VX.X (vs : List Value) (M : List (List UInt8)) (pre : List VX) (x : VX) (_W0 _W1 : World) : Prop :=
  vs[pre.length]? = some x.1 ∧ M[pre.length]? = some x.2 ∧ pre.map (·.2) = M.take pre.length
set_option maxRecDepth 100000 in
set_option maxHeartbeats 2000000 in
theorem vals_seq (bx k c : Nat) (A : Option Addr) (vs : List Value) (M : List (List UInt8)) (w : World) (hw : ValOwn bx k c A vs M w) (n : Nat) :
    SeqW Try.prog n 73 #[.pointer (some ⟨bx, 0, none⟩)] VX.encs (fun _ W => ValOwn bx k c A vs M W) (VX.X vs M) (fun xs => xs.map (·.2) = M) (fun _ => True) M.length w := by
  intro l J Jx W hk hJ hJx hY h0
  obtain ⟨rfl, hkc, hMl⟩ := txs_len ⟨vs, hw.2⟩
  have HP := Lib.hid (hw.kp hk)
  have HJ := Lib.hid hJ
  have HY := Lib.hid hY
  clear hw hk hJ hJx hY
  refine callsIn_of_wp Try.func73 rfl trivial ?_ rfl
  simp only [Try.ntmps73, List.size_toArray, List.length_cons, List.length_nil, Nat.reduceAdd, Nat.reduceSub, Array.replicate_succ, Array.replicate_zero, List.push_toArray, List.append_toArray, List.nil_append, List.cons_append]
  have hc0 := HP.out.1
  gi_wp2
  gi_loopw [4, 7] (fun _ i wr => ∃ (pre : List VX) (q : Nat), pre.length = q ∧ q ≤ M.length ∧ i = .int .i64 (q : Int) ∧ pre.map (·.2) = M.take q ∧ J pre wr ∧ ValOwn bx M.length c A vs M wr) (fun _ i _ => M.length - (intOf i).toNat)
  case atStart => exact ⟨[], 0, rfl, Nat.zero_le _, rfl, rfl, h0, HP.out⟩
  case round =>
    clear h0 HP hc0
    obtain ⟨pre, q, hpq, hqM, rfl, hpm, hJs, hP⟩ := hrel
    have Hpm := Lib.hid hpm
    have Hpq := Lib.hid hpq
    have HP := Lib.hid hP
    clear hpm hpq hP
    by_cases hlt : q < M.length
    · obtain ⟨-, A', c', he, -, -, hAd, hcs⟩ := HP.out.2.1
      cases he
      obtain ⟨u, hu, hru⟩ := HP.out.2.2 q hlt
      obtain ⟨ad, rfl⟩ : ∃ ad, A = some ad := by
        cases A with
        | none => have := (hAd rfl).1; omega
        | some ad => exact ⟨ad, rfl⟩
      have hcx := hcs ad rfl q u hu
      obtain ⟨Ax, cx, rfl⟩ := rd_form hru
      clear hcs hAd
      have he : M[q]? = some M[q] := List.getElem?_eq_getElem hlt
      have HT : Hid (M.take (q + 1) = M.take q ++ [M[q]]) := Lib.hid (take_succ_of he)
      obtain ⟨fn, tmps, assign, body, hy, hRd⟩ := HY.out pre (.slice Ax M[q].length cx, M[q]) wr wr hJs (Kp.refl _ _) ⟨by rw [Hpq.out]; exact hu, by rw [Hpq.out]; exact he, by rw [Hpq.out]; exact Hpm.out⟩ (by rw [Hpq.out]; exact hlt)
      simp only [VX.encs] at hy
      clear hru hu he
      generalize M[q] = x at *
      gi_wp2
      refine ⟨fun h => absurd h (by simp [Fence.wide]), ?_⟩
      refine hRd.mono ?_
      rintro e W3 (⟨rfl, hJ3, hZ3⟩ | ⟨rfl, hJx3⟩)
      · gi_wp2
        go_roundw
        case rel => exact ⟨pre ++ [(.slice Ax x.length cx, x)], q + 1, by rw [List.length_append, Hpq.out]; rfl, by omega, by go_num, by rw [List.map_append, Hpm.out, HT.out]; rfl, hJ3, hZ3⟩
        case measure => simp [intOf]; omega
      · gi_wp2
        refine bodyPost_ret (results_none rfl _ _ _) rfl ?_
        exact ⟨⟨_, rfl⟩, .inr ⟨_, trivial, hJx3⟩⟩
    · obtain rfl : q = M.length := by omega
      gi_wp2
      go_end0
      exact ⟨⟨_, rfl⟩, .inl ⟨pre, by rw [Hpm.out, List.take_length], hJs⟩⟩
set_option maxRecDepth 100000 in
theorem vals_any (A : Option Addr) (n c : Nat) (w : World) :
    Calls Try.prog 60 #[.slice A n c] w fun e w' => e = .returned (.func (.func 73) #[] #[.pointer (some ⟨w.heap.size, 0, none⟩)]) ∧ w' = w.alloc (.cells #[.slice A n c] 22) := by
  go_enter Try.func60, Try.ntmps60
  go_wp2
  go_ret
  exact ⟨rfl, rfl⟩
end
/- wp_region_sep (XSep) for a region in a round of a range over a function. -/
section
section
variable {P : Program} {Q : Exit → Act → World → Prop} {Γ : Type}
/-- As wp_region_sep, of the orders themselves. RS: the things by their numbers (from l.length on: those held ahead of it, I); fin: the numbers that nobody takes. -/
theorem sep_orders [Inhabited Γ] {a : Act} {w0 w : World} {l : List Oper} (m : Nat) (fin : List Nat) (PV : Nat → (Nat → Value) → (Nat → Γ) → Prop) (RS : Nat → (Nat → Value) → (Nat → Γ) → List Res) (tk rd : Nat → List Nat) {L0 : List Res} (hS : Held w0 w L0)
    (hap : apartB l = true) (hea : earlierB l 0 = true) (hsep : sepB l (l.length + m) tk rd = true) (dp : Nat → List Nat) (hdp : depB l (l.length + m) dp = true) (hd : ∀ s vs vs' gs gs', (∀ j, j ∈ dp s → vs j = vs' j ∧ gs j = gs' j) → RS s vs gs = RS s vs' gs' ∧ (PV s vs gs → PV s vs' gs')) (hfin : (List.range (l.length + m)).filter (endB l.length tk) = fin)
    (hL0 : ((List.range m).flatMap fun j => RS (l.length + j) (fun _ => undef) (fun _ => default)).Perm L0)
    (hs : SepSteps P Q PV RS tk rd w0 a (fun vs => putAll vs l 0 a) l.toArray l 0)
    (hend : ∀ vs gs W, Held w0 W (fin.flatMap fun s => RS s vs gs) → (∀ i, i < l.length → PV i vs gs) → Q .normal (putAll vs l 0 a) W) : wpAny P .any l.toArray Q l.toArray.size (Array.replicate l.toArray.size false) a w.drew := by
  have h0 : ∀ i, (Array.replicate l.length false).getD i false = false := fun i => by
    simp [Array.getElem?_replicate]
    split <;> rfl
  have h := sep_any (P := P) (Q := Q) (m := l.length + m) (sepB_spec hsep) (by omega) dp hdp hd hap hea hs (fun vs gs W listed hall hS hp => hend vs gs W (by
      have : liveL l.length (l.length + m) tk RS listed vs gs = fin.flatMap fun s => RS s vs gs := by
        unfold liveL
        rw [flatMap_filter_if, ← hfin]
        congr 1
        apply List.filter_congr
        intro s hs
        have hs := List.mem_range.1 hs
        apply Bool.eq_iff_iff.2
        rw [liveB_true]
        simp only [endB, List.all_eq_true, List.mem_range]
        constructor
        · rintro ⟨_, h⟩ k hk
          simpa using h k hk (hall k hk)
        · intro h
          refine ⟨?_, fun k hk _ => by simpa using h k hk⟩
          by_cases hsl : s < l.length
          · exact .inr (hall s hsl)
          · exact .inl (by omega)
      rw [this] at hS
      exact hS) hp) l.length (Array.replicate l.length false) (at0 a l) (fun _ => default) w.drew (by simp) (by simp) (fun j oj _ hl => by rw [h0] at hl; cases hl) (by
      refine (hS.kp ((Kp.refl [] w).drew)).perm ?_
      refine hL0.symm.trans (List.Perm.of_eq ?_)
      unfold liveL
      rw [List.range_add, List.flatMap_append]
      have h1 : ((List.range l.length).flatMap fun s => if liveB l.length tk (Array.replicate l.length false) s then RS s (at0 a l) (fun _ => default) else []) = [] := by
        rw [List.flatMap_eq_nil_iff]
        intro s hs
        have hs := List.mem_range.1 hs
        rw [if_neg]
        intro h
        rcases (liveB_true.1 h).1 with h | h
        · omega
        · rw [h0] at h; cases h
      rw [h1, List.nil_append, List.flatMap_map]
      apply flatMap_congr'
      intro j hj
      have hj := List.mem_range.1 hj
      rw [if_pos (liveB_true.2 ⟨.inl (by simp), fun k _ hk => by rw [h0] at hk; cases hk⟩)]
      refine (hd _ _ _ _ _ (fun x hx => ?_)).1
      rw [(depB_spec hdp (by omega)).1 (by omega)] at hx
      cases hx) (fun i hi => by rw [h0] at hi; cases hi) (fun j oj hj _ => by simp [at0, hj])
  rw [putAll_at a l 0 (at0 a l) (fun j o ho => by simp [at0, ho])] at h
  simpa using h
theorem in_region_sep [Inhabited Γ] {rl n : Nat} {id : Nat} {a : Act} {w0 w : World} {l : List Oper} (hp : plainB l = true) (m : Nat) (fin : List Nat) (PV : Nat → (Nat → Value) → (Nat → Γ) → Prop) (RS : Nat → (Nat → Value) → (Nat → Γ) → List Res) (tk rd : Nat → List Nat) {L0 : List Res} (hS : Held w0 w L0) (hm : P.follows .mixedOrders = true)
    (hap : apartB l = true) (hea : earlierB l 0 = true) (hsep : sepB l (l.length + m) tk rd = true) (dp : Nat → List Nat) (hdp : depB l (l.length + m) dp = true) (hd : ∀ s vs vs' gs gs', (∀ j, j ∈ dp s → vs j = vs' j ∧ gs j = gs' j) → RS s vs gs = RS s vs' gs' ∧ (PV s vs gs → PV s vs' gs')) (hfin : (List.range (l.length + m)).filter (endB l.length tk) = fin)
    (hL0 : ((List.range m).flatMap fun j => RS (l.length + j) (fun _ => undef) (fun _ => default)).Perm L0)
    (hs : SepSteps P (Qn Q) PV RS tk rd w0 a (fun vs => putAll vs l 0 a) l.toArray l 0)
    (hend : ∀ vs gs W, Held w0 W (fin.flatMap fun s => RS s vs gs) → (∀ i, i < l.length → PV i vs gs) → Qn Q .normal (putAll vs l 0 a) W) : (Code.region id l.toArray true).wpIn (Fence.wide.inRound rl) n P Q a w :=
  wpIn_region_any hm (any_in hp _ _ _ _ (sep_orders m fin PV RS tk rd hS hap hea hsep dp hdp hd hfin hL0 hs hend))
end
end
/- entry.Cut. -/
section
open Go.RowKit Go.Shelf
attribute [local go_sem] Oper.semAt_some
def cutK (f g : Int) : Nat := if f < g then (g - f).toNat else 0
def cutB (f g : Int) (L : List (List UInt8)) : Int × List (List UInt8) := if L.length ≤ cutK f g then (0, []) else (f + cutK f g, L.drop (cutK f g))
theorem cutB_no {f g : Int} {L : List (List UInt8)} (h : L.length ≤ cutK f g) : cutB f g L = (0, []) := if_pos h
theorem cutB_ok {f g : Int} {L : List (List UInt8)} (h : cutK f g < L.length) : cutB f g L = (f + cutK f g, L.drop (cutK f g)) := if_neg (by omega)
def CutPost15 (f g : Int) (L : List (List UInt8)) (w : World) (e : Ending) (w' : World) : Prop :=
  ∃ v Bs, e = .returned (.agg #[.int .i64 (cutB f g L).1, v]) ∧ (cutB f g L).2.length = Bs.length ∧ Held w w' (rowR 25 1 v (cutB f g L).2.length Bs :: textR (cutB f g L).2 Bs)
theorem u64_gap {f g : Int} (hf : -9223372036854775808 ≤ f ∧ f ≤ 9223372036854775807) (hg : -9223372036854775808 ≤ g ∧ g ≤ 9223372036854775807) (h : f < g) : IntKind.u64.wrap (IntKind.u64.wrap g - IntKind.u64.wrap f) = ((g - f).toNat : Int) := by
  simp [IntKind.wrap, IntKind.bits, IntKind.signed]
  omega
theorem cells_txs {B : Nat} : ∀ (ls : List (List UInt8)) (Bs : List Value), Cells B (textR ls Bs)
  | _ :: ls, _ :: Bs => (cells_txs ls Bs).row
  | [], [] => Cells.nil
  | [], _ :: _ => Cells.nil
  | _ :: _, [] => Cells.nil
/-- What is held between two rounds. -/
abbrev LC (g1 bx n c g6 : Nat) (A : Option Addr) (F : Int) (a0 a1 v : Value) (Bs : List Value) (pre : List VX) : List Res :=
  rowR 25 1 v pre.length Bs :: blkR g6 24 #[.int .i64 F, v] :: blkR bx 22 #[.slice A n c] :: blkR (g1 + 1) 24 #[.int .i64 0, .slice none 0 0] :: blkR g1 24 #[a0, a1] :: textR (pre.map (·.2)) Bs
set_option maxRecDepth 100000 in
set_option maxHeartbeats 4000000 in
theorem cut15_any (f : Int) (hf : -9223372036854775808 ≤ f ∧ f ≤ 9223372036854775807) (v : Value) (g : Int) (hg : -9223372036854775808 ≤ g ∧ g ≤ 9223372036854775807) (L : List (List UInt8)) (w : World) (hv : Txs w v L) (hL : L.length ≤ 1073741824) (hb : ∀ e ∈ L, e.length ≤ 140737488355200) :
    Calls Try.prog 32 #[.agg #[.int .i64 f, v], .int .i64 g] w (CutPost15 f g L w) := by
  obtain ⟨A, c, rfl, -, -⟩ := hv.open_
  have Hv := Lib.hid hv
  have Hb := Lib.hid hb
  clear hv hb
  have S0 := Lib.hid (((Held.start w).newBlk 24 #[.int .i64 f, .slice A L.length c]).newBlk 24 #[.int .i64 0, .slice none 0 0])
  by_cases hfg : f < g
  · have hs := u64_gap hf hg hfg
    obtain ⟨s, HS⟩ : ∃ s, Hid ((g - f).toNat = s) := ⟨_, Lib.hid rfl⟩
    have hsk : Hid (cutK f g = s) := Lib.hid (by unfold cutK; rw [if_pos hfg, HS.out])
    have hfs : f + s = g := by have := HS.out; omega
    rw [HS.out] at hs
    by_cases hsl : L.length ≤ s
    · have hsl' : (L.length : Int) ≤ (s : Int) := by omega
      have HC := Lib.hid (cutB_no (f := f) (g := g) (L := L) (by rw [hsk.out]; exact hsl))
      obtain ⟨c0, c1, -⟩ := Blk.c2 (S0.out.at_ (l1 := []))
      simp only [World.size_alloc] at c0 c1
      have C0 := Lib.hid c0
      have C1 := Lib.hid c1
      go_enter Try.func32, Try.ntmps32
      go_wp2
      have c0 := C0.out
      have c1 := C1.out
      refine bodyPost_ret (v := .agg #[.int .i64 0, .slice none 0 0]) (by simp [results, Try.f32, go_sem, c0, c1]) rfl ?_
      refine ⟨.slice none 0 0, [], by rw [HC.out], by rw [HC.out]; rfl, ?_⟩
      rw [HC.out]
      exact S0.out.drop.drop.rownew (World.ownsRow_nil _ _ _ _) (Kp.refl [] _) (fun g hg => by simp [Value.ownBlock] at hg)
    · have hsl' : ¬ (L.length : Int) ≤ (s : Int) := by omega
      have HC := Lib.hid (cutB_ok (f := f) (g := g) (L := L) (by rw [hsk.out]; omega))
      rw [hsk.out] at HC
      obtain ⟨A', c', q1, q2⟩ := cut_textsl .u64 A L.length c s (s : Int) rfl (by omega)
      have Q2 := Lib.hid (q2 w L Hv.out)
      clear q2
      refine calls_marks Try.func32 rfl ?_
      simp only [Try.ntmps32, List.size_toArray, List.length_cons, List.length_nil, Nat.reduceAdd, Nat.reduceSub, Array.replicate_succ, Array.replicate_zero, List.push_toArray, List.append_toArray, List.nil_append, List.cons_append]
      have S1 := (S0.out.newBlk 24 #[.int .i64 g, .slice none 0 0]).newBlk 22 #[.slice A' (L.length - s) c']
      simp only [World.size_alloc] at S1
      go_wp2_with fail
      refine (vals_any A' (L.length - s) c' _).mono ?_
      rintro e w2 ⟨rfl, hw2⟩
      simp only [World.size_alloc]
      rw [← hw2] at S1
      clear hw2
      have S1 := Lib.hid S1
      go_wp2_with fail
      obtain ⟨bx, hbx⟩ : ∃ bx, w.heap.size + 1 + 1 + 1 = bx := ⟨_, rfl⟩
      obtain ⟨g6, hg6⟩ : ∃ g6, w.heap.size + 1 + 1 = g6 := ⟨_, rfl⟩
      rw [hbx] at S1 ⊢
      rw [hg6] at S1 ⊢
      clear hbx hg6
      obtain ⟨M, HM⟩ : ∃ M, Hid (L.drop s = M) := ⟨_, Lib.hid rfl⟩
      have hMl : M.length = L.length - s := by rw [← HM.out]; try simp
      have hML : ∀ x, x ∈ M → x.length ≤ 140737488355200 := fun x hx => Hb.out x (by rw [← HM.out] at hx; exact List.mem_of_mem_drop hx)
      have HML := Lib.hid hML
      have HC : Hid (cutB f g L = (g, M)) := Lib.hid (by rw [HC.out, hfs]; exact congrArg (Prod.mk g) HM.out)
      have hq2 := Q2.out
      try simp only [List.drop_zero] at hq2
      rw [HM.out] at hq2
      obtain ⟨vs, hq3, hq4⟩ := hq2
      have TM : Hid (TxsV w (.slice A' (L.length - s) c') vs M) := Lib.hid ⟨by first | exact hq3 | (rw [← hMl]; exact hq3), hq4⟩
      have HME : Hid (∀ (V : World) (k : Nat) (u : Value) (x : List UInt8), Kp [] w V → vs[k]? = some u → M[k]? = some x → Rd V 1 u x.length (bv x)) := Lib.hid (fun V k u x kk h1 h2 => by
        obtain ⟨hk, rfl⟩ := List.getElem?_eq_some_iff.1 h2
        obtain ⟨u', h3, h4⟩ := hq4 k hk
        rw [h1] at h3
        cases h3
        exact rd_old h4 kk)
      have S5 : Hid (Held w w2 (LC w.heap.size bx (L.length - s) c' g6 A' g (.int .i64 f) (.slice A L.length c) (.slice none 0 0) [] [])) := Lib.hid ((S1.out.perm (List.Perm.swap _ _ _)).rownew (World.ownsRow_nil _ _ _ _) (Kp.refl [] _) (by simp [Value.ownBlock]))
      clear S1 hq3 hq4 hML Q2
      have hwb := S5.out.k.size
      have hown : ValOwn bx (L.length - s) c' A' vs M w2 := ⟨(S5.out.at_ (l1 := [_, _])).cell 0, TM.out.kp0 S5.out.k⟩
      refine wp_range (n := 3) (gf := 73) (lb := #[.pointer (some ⟨bx, 0, none⟩)]) rfl (enters_of Try.func73 (by kernel_rfl) rfl) (encs := VX.encs) (Z := fun _ W => ValOwn bx (L.length - s) c' A' vs M W) (X := VX.X vs M) (vals_seq bx (L.length - s) c' A' vs M w2 hown _) (fun x => (stays_cell _ _ _).and (stays_txs _ _ _ _)) (fun _ => rfl)
        (fun pre W => ∃ (v : Value) (Bs : List Value), Bs.length = pre.length ∧ Held w W (LC w.heap.size bx (L.length - s) c' g6 A' g (.int .i64 f) (.slice A L.length c) v Bs pre))
        (fun _ _ _ => False) ?hI ?hIx ?h0
        (fun pre x W => vs[pre.length]? = some x.1 ∧ M[pre.length]? = some x.2 ∧ ∃ (v : Value) (Bs : List Value), Bs.length = pre.length ∧ Held w W (LC w.heap.size bx (L.length - s) c' g6 A' g (.int .i64 f) (.slice A L.length c) v Bs pre)) ?hI' ?hprep
        (fun T pre x a' W => ∃ (v : Value) (Bs : List Value), a' = { tmps := (T.setIfInBounds 36 x.1).setIfInBounds 7 x.1, defers := [] } ∧ Bs.length = pre.length ∧ Held w W (LC w.heap.size bx (L.length - s) c' g6 A' g (.int .i64 f) (.slice A L.length c) v Bs pre)) ?hA ?assign ?body ?done ?stop
      case hI => exact fun pre => Stays.ex fun v => Stays.ex fun Bs => (Stays.pure _ _).and (Held.stays hwb (cells_txs _ _).blk.blk.blk.blk.row)
      case hIx => exact fun c pre => Stays.pure _ _
      case h0 => exact ⟨_, [], rfl, S5.out⟩
      case hI' => exact fun pre x => (Stays.pure _ _).and ((Stays.pure _ _).and (Stays.ex fun v => Stays.ex fun Bs => (Stays.pure _ _).and (Held.stays hwb (cells_txs _ _).blk.blk.blk.blk.row)))
      case hprep =>
        rintro pre x W0 W1 ⟨v, Bs, h1, S⟩ k ⟨hx, p1, _⟩ hlen
        exact ⟨hx, p1, v, Bs, h1, S.kp k⟩
      case hA => exact fun pre x a' => Stays.ex fun v => Stays.ex fun Bs => (Stays.pure _ _).and ((Stays.pure _ _).and (Held.stays hwb (cells_txs _ _).blk.blk.blk.blk.row))
      case assign =>
        rintro pre x W ⟨hx, p1, v, Bs, h1, S⟩ K hK
        obtain ⟨vx, x⟩ := x
        simp only [VX.encs]
        gi_wp2
        exact hK _ _ (Kp.refl [] W) ⟨v, Bs, rfl, h1, S⟩
      case body =>
        rintro pre x a' W ⟨hx, p1, _⟩ ⟨v, Bs, rfl, h1, S⟩ hlen ⟨o, ho, hoc⟩ ⟨d, hd, hdc⟩
        obtain ⟨vx, x⟩ := x
        simp only at hx p1
        obtain ⟨Au, cu, hv, _, _⟩ := ow_form (S.at_ (l1 := []))
        subst hv
        have RXc := Lib.hid (fun V (kk : Kp [] w V) => HME.out V _ _ _ kk hx p1)
        obtain ⟨Ax, cx, hvx⟩ := rd_form (RXc.out w (Kp.refl _ _))
        subst hvx
        have hxl := HML.out x (List.mem_of_getElem? p1)
        have H1 := Lib.hid h1
        have hpl : pre.length ≤ 1073741824 := by omega
        have SB := S.withTwo ((cells_txs _ _).blk.blk.blk.blk.row) hwb (show w2.heap.size ≤ w2.heap.size + 1 by omega) (Nat.le_refl _) (by omega) ho hoc hd hdc
        have SC : Hid (Held w W ([blkR g6 24 #[.int .i64 g, .slice Au pre.length cu]] ++ ([rowR 25 1 (.slice Au pre.length cu) pre.length Bs] ++ (objR (w2.heap.size + 1) o :: objR w2.heap.size d :: blkR bx 22 #[.slice A' (L.length - s) c'] :: blkR (w.heap.size + 1) 24 #[.int .i64 0, .slice none 0 0] :: blkR w.heap.size 24 #[.int .i64 f, .slice A L.length c] :: textR (pre.map (·.2)) Bs)))) := Lib.hid (SB.perm ((List.perm_append_comm_assoc [_, _] [_, _] _).trans (List.Perm.swap _ _ _)))
        have Ho := Lib.hid ho
        have Hd := Lib.hid hd
        clear S SB ho hd h1 hx p1
        gi_wp2_with fail
        -- SEP entcutG
        refine in_region_sep (Γ := Unit) (rl := w2.heap.size + 1) (by kernel_rfl) 3 [0, 1, 2, 3, 4, 5, 6, 7, 10]
          (fun i vs gs => match i with | 0 => vs 0 = .pointer (some ⟨g6, 1, none⟩) | 1 => vs 1 = .slice Au pre.length cu | 2 => vs 2 = .slice Ax x.length cx | 3 => ∃ A c, vs 3 = .slice A x.length c | 5 => ∃ A c, vs 5 = .slice A (pre.length + 1) c | 6 => vs 6 = .pointer (some ⟨g6, 1, none⟩) | _ => True)
          (fun i vs gs => match i with | 3 => [rowR 5 1 (vs 3) x.length (bv x)] | 4 => [rowR 25 1 (vs 4) 1 [vs 3]] | 5 => [rowR 25 1 (vs 5) (pre.length + 1) (Bs ++ [vs 3])] | 7 => [blkR g6 24 #[.int .i64 g, vs 5]] | 8 => [blkR g6 24 #[.int .i64 g, .slice Au pre.length cu]] | 9 => [rowR 25 1 (.slice Au pre.length cu) pre.length Bs] | 10 => objR (w2.heap.size + 1) o :: objR w2.heap.size d :: blkR bx 22 #[.slice A' (L.length - s) c'] :: blkR (w.heap.size + 1) 24 #[.int .i64 0, .slice none 0 0] :: blkR w.heap.size 24 #[.int .i64 f, .slice A L.length c] :: textR (pre.map (·.2)) Bs | _ => [])
          (fun i => match i with | 5 => [9] | 7 => [8] | _ => []) (fun i => match i with | 1 => [8] | 5 => [4] | _ => []) SC.out (by kernel_rfl) (by kernel_rfl) (by kernel_rfl) (by kernel_rfl) (fun i => match i with | 0 => [0] | 1 => [1] | 2 => [2] | 3 => [3] | 4 => [3, 4] | 5 => [3, 5] | 6 => [6] | 7 => [5] | _ => []) (by kernel_rfl) ?_ (by kernel_rfl) ?_ ?_ ?_
        · intro s vs vs' gs gs' h
          iterate 11 (rcases s with _ | s; · (first | exact ⟨rfl, id⟩ | (simp only [List.mem_cons, List.not_mem_nil, or_false, forall_eq_or_imp, forall_eq] at h; simp [h])))
          exact ⟨rfl, id⟩
        · simp only [List.range, List.range.loop, List.flatMap_cons, List.flatMap_nil, List.append_nil, List.cons_append, List.nil_append]
          exact List.Perm.refl _
        · refine ⟨?_, ?_, ?_, ?_, ?_, ?_, ?_, ?_, trivial⟩
          · intro vs gs A' W LF hA S hR hd hu K hK
            replace hK := hK default
            have e6 : A'.tmps[6]?.getD undef = .pointer (some ⟨g6, 0, none⟩) := slot_is hA (by kernel_rfl) (Nat.le_of_ble_eq_true (by kernel_rfl)) (by kernel_rfl)
            go_step
            exact hK _ _ S rfl
          · intro vs gs A' W LF hA S hR hd hu K hK
            replace hK := hK default
            have f0 : vs 0 = .pointer (some ⟨g6, 1, none⟩) := hd 0 (by kernel_rfl)
            have e37 : A'.tmps[37]?.getD undef = vs 0 := slot_is hA (by kernel_rfl) (Nat.le_of_ble_eq_true (by kernel_rfl)) (by kernel_rfl)
            rw [f0] at e37
            obtain ⟨q0, q1, q2, q3, q4⟩ := Blk.c2 (S.ok (blkR g6 24 #[.int .i64 g, .slice Au pre.length cu]) (hR 8 (List.mem_singleton.2 rfl) _ (List.mem_singleton.2 rfl)))
            go_step
            exact hK _ _ S rfl
          · intro vs gs A' W LF hA S hR hd hu K hK
            replace hK := hK default
            have e7 : A'.tmps[7]?.getD undef = .slice Ax x.length cx := slot_is hA (by kernel_rfl) (Nat.le_of_ble_eq_true (by kernel_rfl)) (by kernel_rfl)
            go_step
            exact hK _ _ S rfl
          · intro vs gs A' W LF hA S hR hd hu K hK
            replace hK := hK default
            have f2 : vs 2 = .slice Ax x.length cx := hd 2 (by kernel_rfl)
            have e39 : A'.tmps[39]?.getD undef = vs 2 := slot_is hA (by kernel_rfl) (Nat.le_of_ble_eq_true (by kernel_rfl)) (by kernel_rfl)
            rw [f2] at e39
            go_step
            refine (clone15_any _ x _ (RXc.out _ S.k) hxl).mono ?_
            rintro e w' ⟨u, rfl, ou⟩
            obtain ⟨A1, c1, hu⟩ := ou.form
            subst hu
            exact hK _ _ (S.rownew ou.1 ou.2.1 ou.2.2) ⟨A1, c1, rfl⟩
          · intro vs gs A' W LF hA S hR hd hu K hK
            replace hK := hK default
            have f3 : ∃ A c, vs 3 = .slice A x.length c := hd 3 (by kernel_rfl)
            have e40 : A'.tmps[40]?.getD undef = vs 3 := slot_is hA (by kernel_rfl) (Nat.le_of_ble_eq_true (by kernel_rfl)) (by kernel_rfl)
            obtain ⟨A1, c1, hq⟩ := f3
            rw [hq] at e40
            go_step
            have S2 := S.rownew (ow_new W 25 1 1 #[.slice A1 x.length c1] rfl (by decide)) ((Kp.refl [] W).alloc _) (fun g hg => Nat.le_of_eq (Option.some.inj hg))
            rw [← hq] at S2 ⊢
            exact hK _ _ S2 trivial
          · intro vs gs A' W LF hA S hR hd hu K hK
            replace hK := hK default
            have f1 : vs 1 = .slice Au pre.length cu := hd 1 (by kernel_rfl)
            have e38 : A'.tmps[38]?.getD undef = vs 1 := slot_is hA (by kernel_rfl) (Nat.le_of_ble_eq_true (by kernel_rfl)) (by kernel_rfl)
            rw [f1] at e38
            have e41 : A'.tmps[41]?.getD undef = vs 4 := slot_is hA (by kernel_rfl) (Nat.le_of_ble_eq_true (by kernel_rfl)) (by kernel_rfl)
            have hone : (vs 3).oneCell' = true := by obtain ⟨A, c, h⟩ := (hd 3 (by kernel_rfl) : ∃ A c, vs 3 = .slice A x.length c); rw [h]; rfl
            refine op_app (.tmp 38) (.tmp 41) 22 25 rfl Try.infoBytes Try.underlying22 rfl (by decide) (.slice Au pre.length cu) pre.length Bs (by simpa [Act.eval] using e38) S (vs 4) 1 [vs 3] (by simpa [Act.eval] using e41) (rd_of_row (e := 25) S (List.mem_cons_of_mem _ (hR 4 (List.mem_singleton.2 rfl) _ (List.mem_singleton.2 rfl)))) (by simpa using hone) (by unfold maxLen; omega) (by omega) (fun v' w' S' => hK v' w' S' ?_)
            obtain ⟨A1, c1, h1, _⟩ := ow_form (S'.at_ (l1 := []))
            exact ⟨A1, c1, h1⟩
          · intro vs gs A' W LF hA S hR hd hu K hK
            replace hK := hK default
            have e6 : A'.tmps[6]?.getD undef = .pointer (some ⟨g6, 0, none⟩) := slot_is hA (by kernel_rfl) (Nat.le_of_ble_eq_true (by kernel_rfl)) (by kernel_rfl)
            go_step
            exact hK _ _ S rfl
          · intro vs gs A' W LF hA S hR hd hu K hK
            replace hK := hK default
            have f6 : vs 6 = .pointer (some ⟨g6, 1, none⟩) := hd 6 (by kernel_rfl)
            have e43 : A'.tmps[43]?.getD undef = vs 6 := slot_is hA (by kernel_rfl) (Nat.le_of_ble_eq_true (by kernel_rfl)) (by kernel_rfl)
            rw [f6] at e43
            have f5 : ∃ A c, vs 5 = .slice A (pre.length + 1) c := hd 5 (by kernel_rfl)
            have e42 : A'.tmps[42]?.getD undef = vs 5 := slot_is hA (by kernel_rfl) (Nat.le_of_ble_eq_true (by kernel_rfl)) (by kernel_rfl)
            have S1 : Held w W (blkR g6 24 #[.int .i64 g, .slice Au pre.length cu] :: LF) := S
            obtain ⟨q0, q1, q2, q3, q4⟩ := Blk.c2 (S1.at_ (l1 := []))
            obtain ⟨A1, c1, hq⟩ := f5
            rw [hq] at e42
            go_step
            refine hK undef _ ?_ trivial
            show Held w _ (blkR g6 24 #[.int .i64 g, vs 5] :: LF)
            rw [hq]
            exact S1.set (l1 := []) 1 (.slice A1 (pre.length + 1) c1)
        · intro vs gs W S hp
          have S : Held w W (rowR 5 1 (vs 3) x.length (bv x) :: rowR 25 1 (vs 4) 1 [vs 3] :: rowR 25 1 (vs 5) (pre.length + 1) (Bs ++ [vs 3]) :: blkR g6 24 #[.int .i64 g, vs 5] :: objR (w2.heap.size + 1) o :: objR w2.heap.size d :: blkR bx 22 #[.slice A' (L.length - s) c'] :: blkR (w.heap.size + 1) 24 #[.int .i64 0, .slice none 0 0] :: blkR w.heap.size 24 #[.int .i64 f, .slice A L.length c] :: textR (pre.map (·.2)) Bs) := by simpa only [List.flatMap_cons, List.flatMap_nil, List.append_nil, List.nil_append, List.cons_append, List.append_assoc] using S
          have p0 : vs 0 = .pointer (some ⟨g6, 1, none⟩) := hp 0 (Nat.le_of_ble_eq_true rfl)
          have p1 : vs 1 = .slice Au pre.length cu := hp 1 (Nat.le_of_ble_eq_true rfl)
          have p2 : vs 2 = .slice Ax x.length cx := hp 2 (Nat.le_of_ble_eq_true rfl)
          have p6 : vs 6 = .pointer (some ⟨g6, 1, none⟩) := hp 6 (Nat.le_of_ble_eq_true rfl)
          obtain ⟨A5, c5, h5⟩ : ∃ A c, vs 5 = .slice A (pre.length + 1) c := hp 5 (Nat.le_of_ble_eq_true rfl)
          have H5 := Lib.hid h5
          have HS5 := Lib.hid S
          clear hp S
          simp only [putAll, p0, p1, p2, p6, h5, Act.put, List.setIfInBounds_toArray, List.set_cons_succ, List.set_cons_zero]
          clear p0 p1 p2 p6 h5
          refine ⟨rfl, ?_⟩
          gi_wp2
          have S6 := HS5.out
          rw [H5.out] at S6
          have S7 := S6.drop.drop.drop.drop
          refine ⟨S7.same2 Ho.out Hd.out, ⟨(S7.at_ (l1 := [_, _])).cell 0, TM.out.kp0 S7.k⟩, .slice A5 (pre.length + 1) c5, Bs ++ [vs 3], by simp [H1.out], ?_⟩
          have hm : (pre ++ [((.slice Ax x.length cx, x) : VX)]).map (·.2) = pre.map (·.2) ++ [x] := by simp
          unfold LC
          rw [hm, textR_snoc _ _ _ _ (by rw [List.length_map]; exact H1.out.symm), List.length_append]
          exact (S6.sub (.cons_cons _ (.cons _ (.cons_cons _ (.cons_cons _ (.cons _ (.cons _ (List.Sublist.refl _)))))))).perm (List.perm_append_singleton _ _).symm
        -- END entcutG
      case done =>
        rintro xs W hxs ⟨v, Bs, h1, S⟩ hD
        have HE : Hid (cutB f g L = (g, xs.map (·.2))) := Lib.hid (by rw [HC.out, hxs])
        have S1 := Lib.hid (S.withObj hwb hD ((cells_txs _ _).blk.blk.blk.blk.row.not S (Nat.le_refl _) hD rfl))
        obtain ⟨Av, cv, hvv, _, _⟩ := ow_form (S.at_ (l1 := []))
        subst hvv
        have H1 := Lib.hid h1
        obtain ⟨r0, r1, r2, r3, r4⟩ := Blk.c2 (S1.out.at_ (l1 := [_, _]))
        obtain ⟨t0, t1, t2, t3, t4⟩ := Blk.c2 (S1.out.at_ (l1 := [_, _, _, _]))
        have S2 := (S1.out.set (l1 := [_, _, _, _]) 0 (.int .i64 g)).set (l1 := [_, _, _, _]) 1 (.slice Av xs.length cv)
        simp only [List.setIfInBounds_toArray, List.set_cons_succ, List.set_cons_zero, List.cons_append, List.nil_append] at S2
        have S2 := Lib.hid S2
        clear S h1 hxs HC
        go_wp2
        refine ret_marks [w2.heap.size] rfl (by simp) (fun D hDm => by simp at hDm; subst hDm; exact S2.out.at_ (l1 := [])) (fun W' hk => ?_)
        have S3 := S2.out.rest (l1 := [_]) hk (fun g hg => by simp at hg; subst hg; exact ⟨_, List.mem_singleton.2 rfl, by simp [objR]⟩)
        obtain ⟨h4, h5, -⟩ := Blk.c2 (S3.at_ (l1 := [_, _, _]))
        refine ⟨.agg #[.int .i64 g, .slice Av xs.length cv], ?_, .slice Av xs.length cv, Bs, by rw [HE.out], by rw [HE.out, List.length_map]; exact H1.out.symm, ?_⟩
        · simp [results, Try.f32, go_sem, h4, h5]
        · rw [HE.out, List.length_map]
          exact S3.sub (.cons_cons _ (.cons _ (.cons _ (.cons _ (.cons _ (List.Sublist.refl _))))))
      case stop =>
        rintro c pre W _ h
        exact h.elim
  · have hsk : Hid (cutK f g = 0) := Lib.hid (if_neg hfg)
    by_cases hsl : L.length ≤ 0
    · have hsl' : (L.length : Int) ≤ (0 : Int) := by omega
      have HC := Lib.hid (cutB_no (f := f) (g := g) (L := L) (by rw [hsk.out]; exact hsl))
      obtain rfl : L = [] := List.eq_nil_of_length_eq_zero (by omega)
      obtain ⟨c0, c1, -⟩ := Blk.c2 (S0.out.at_ (l1 := []))
      simp only [World.size_alloc] at c0 c1
      have C0 := Lib.hid c0
      have C1 := Lib.hid c1
      go_enter Try.func32, Try.ntmps32
      go_wp2
      have c0 := C0.out
      have c1 := C1.out
      refine bodyPost_ret (v := .agg #[.int .i64 0, .slice none 0 0]) (by simp [results, Try.f32, go_sem, c0, c1]) rfl ?_
      refine ⟨.slice none 0 0, [], by rw [HC.out], by rw [HC.out]; rfl, ?_⟩
      rw [HC.out]
      exact S0.out.drop.drop.rownew (World.ownsRow_nil _ _ _ _) (Kp.refl [] _) (fun g hg => by simp [Value.ownBlock] at hg)
    · have hsl' : ¬ (L.length : Int) ≤ (0 : Int) := by omega
      have hne : ¬ L = [] := by rintro rfl; exact hsl (Nat.le_refl _)
      have HC := Lib.hid (cutB_ok (f := f) (g := g) (L := L) (by rw [hsk.out]; omega))
      rw [hsk.out] at HC
      obtain ⟨A', c', q1, q2⟩ := cut_textsl .u64 A L.length c 0 (0 : Int) rfl (by omega)
      simp only [Nat.sub_zero] at q1 q2
      have Q2 := Lib.hid (q2 w L Hv.out)
      clear q2
      refine calls_marks Try.func32 rfl ?_
      simp only [Try.ntmps32, List.size_toArray, List.length_cons, List.length_nil, Nat.reduceAdd, Nat.reduceSub, Array.replicate_succ, Array.replicate_zero, List.push_toArray, List.append_toArray, List.nil_append, List.cons_append]
      have S1 := (S0.out.newBlk 24 #[.int .i64 f, .slice none 0 0]).newBlk 22 #[.slice A' L.length c']
      simp only [World.size_alloc] at S1
      go_wp2_with fail
      refine (vals_any A' L.length c' _).mono ?_
      rintro e w2 ⟨rfl, hw2⟩
      simp only [World.size_alloc]
      rw [← hw2] at S1
      clear hw2
      have S1 := Lib.hid S1
      go_wp2_with fail
      obtain ⟨bx, hbx⟩ : ∃ bx, w.heap.size + 1 + 1 + 1 = bx := ⟨_, rfl⟩
      obtain ⟨g6, hg6⟩ : ∃ g6, w.heap.size + 1 + 1 = g6 := ⟨_, rfl⟩
      rw [hbx] at S1 ⊢
      rw [hg6] at S1 ⊢
      clear hbx hg6
      obtain ⟨M, HM⟩ : ∃ M, Hid (L = M) := ⟨_, Lib.hid rfl⟩
      have hMl : M.length = L.length := by rw [← HM.out]; try simp
      have hML : ∀ x, x ∈ M → x.length ≤ 140737488355200 := fun x hx => Hb.out x (by rw [← HM.out] at hx; exact hx)
      have HML := Lib.hid hML
      have HC : Hid (cutB f g L = (f, M)) := Lib.hid (by rw [HC.out, show f + ((0 : Nat) : Int) = f by omega]; exact congrArg (Prod.mk f) HM.out)
      have hq2 := Q2.out
      try simp only [List.drop_zero] at hq2
      rw [HM.out] at hq2
      obtain ⟨vs, hq3, hq4⟩ := hq2
      have TM : Hid (TxsV w (.slice A' L.length c') vs M) := Lib.hid ⟨by first | exact hq3 | (rw [← hMl]; exact hq3), hq4⟩
      have HME : Hid (∀ (V : World) (k : Nat) (u : Value) (x : List UInt8), Kp [] w V → vs[k]? = some u → M[k]? = some x → Rd V 1 u x.length (bv x)) := Lib.hid (fun V k u x kk h1 h2 => by
        obtain ⟨hk, rfl⟩ := List.getElem?_eq_some_iff.1 h2
        obtain ⟨u', h3, h4⟩ := hq4 k hk
        rw [h1] at h3
        cases h3
        exact rd_old h4 kk)
      have S5 : Hid (Held w w2 (LC w.heap.size bx L.length c' g6 A' f (.int .i64 f) (.slice A L.length c) (.slice none 0 0) [] [])) := Lib.hid ((S1.out.perm (List.Perm.swap _ _ _)).rownew (World.ownsRow_nil _ _ _ _) (Kp.refl [] _) (by simp [Value.ownBlock]))
      clear S1 hq3 hq4 hML Q2
      have hwb := S5.out.k.size
      have hown : ValOwn bx L.length c' A' vs M w2 := ⟨(S5.out.at_ (l1 := [_, _])).cell 0, TM.out.kp0 S5.out.k⟩
      refine wp_range (n := 3) (gf := 73) (lb := #[.pointer (some ⟨bx, 0, none⟩)]) rfl (enters_of Try.func73 (by kernel_rfl) rfl) (encs := VX.encs) (Z := fun _ W => ValOwn bx L.length c' A' vs M W) (X := VX.X vs M) (vals_seq bx L.length c' A' vs M w2 hown _) (fun x => (stays_cell _ _ _).and (stays_txs _ _ _ _)) (fun _ => rfl)
        (fun pre W => ∃ (v : Value) (Bs : List Value), Bs.length = pre.length ∧ Held w W (LC w.heap.size bx L.length c' g6 A' f (.int .i64 f) (.slice A L.length c) v Bs pre))
        (fun _ _ _ => False) ?hI ?hIx ?h0
        (fun pre x W => vs[pre.length]? = some x.1 ∧ M[pre.length]? = some x.2 ∧ ∃ (v : Value) (Bs : List Value), Bs.length = pre.length ∧ Held w W (LC w.heap.size bx L.length c' g6 A' f (.int .i64 f) (.slice A L.length c) v Bs pre)) ?hI' ?hprep
        (fun T pre x a' W => ∃ (v : Value) (Bs : List Value), a' = { tmps := (T.setIfInBounds 36 x.1).setIfInBounds 7 x.1, defers := [] } ∧ Bs.length = pre.length ∧ Held w W (LC w.heap.size bx L.length c' g6 A' f (.int .i64 f) (.slice A L.length c) v Bs pre)) ?hA ?assign ?body ?done ?stop
      case hI => exact fun pre => Stays.ex fun v => Stays.ex fun Bs => (Stays.pure _ _).and (Held.stays hwb (cells_txs _ _).blk.blk.blk.blk.row)
      case hIx => exact fun c pre => Stays.pure _ _
      case h0 => exact ⟨_, [], rfl, S5.out⟩
      case hI' => exact fun pre x => (Stays.pure _ _).and ((Stays.pure _ _).and (Stays.ex fun v => Stays.ex fun Bs => (Stays.pure _ _).and (Held.stays hwb (cells_txs _ _).blk.blk.blk.blk.row)))
      case hprep =>
        rintro pre x W0 W1 ⟨v, Bs, h1, S⟩ k ⟨hx, p1, _⟩ hlen
        exact ⟨hx, p1, v, Bs, h1, S.kp k⟩
      case hA => exact fun pre x a' => Stays.ex fun v => Stays.ex fun Bs => (Stays.pure _ _).and ((Stays.pure _ _).and (Held.stays hwb (cells_txs _ _).blk.blk.blk.blk.row))
      case assign =>
        rintro pre x W ⟨hx, p1, v, Bs, h1, S⟩ K hK
        obtain ⟨vx, x⟩ := x
        simp only [VX.encs]
        gi_wp2
        exact hK _ _ (Kp.refl [] W) ⟨v, Bs, rfl, h1, S⟩
      case body =>
        rintro pre x a' W ⟨hx, p1, _⟩ ⟨v, Bs, rfl, h1, S⟩ hlen ⟨o, ho, hoc⟩ ⟨d, hd, hdc⟩
        obtain ⟨vx, x⟩ := x
        simp only at hx p1
        obtain ⟨Au, cu, hv, _, _⟩ := ow_form (S.at_ (l1 := []))
        subst hv
        have RXc := Lib.hid (fun V (kk : Kp [] w V) => HME.out V _ _ _ kk hx p1)
        obtain ⟨Ax, cx, hvx⟩ := rd_form (RXc.out w (Kp.refl _ _))
        subst hvx
        have hxl := HML.out x (List.mem_of_getElem? p1)
        have H1 := Lib.hid h1
        have hpl : pre.length ≤ 1073741824 := by omega
        have SB := S.withTwo ((cells_txs _ _).blk.blk.blk.blk.row) hwb (show w2.heap.size ≤ w2.heap.size + 1 by omega) (Nat.le_refl _) (by omega) ho hoc hd hdc
        have SC : Hid (Held w W ([blkR g6 24 #[.int .i64 f, .slice Au pre.length cu]] ++ ([rowR 25 1 (.slice Au pre.length cu) pre.length Bs] ++ (objR (w2.heap.size + 1) o :: objR w2.heap.size d :: blkR bx 22 #[.slice A' (L.length) c'] :: blkR (w.heap.size + 1) 24 #[.int .i64 0, .slice none 0 0] :: blkR w.heap.size 24 #[.int .i64 f, .slice A L.length c] :: textR (pre.map (·.2)) Bs)))) := Lib.hid (SB.perm ((List.perm_append_comm_assoc [_, _] [_, _] _).trans (List.Perm.swap _ _ _)))
        have Ho := Lib.hid ho
        have Hd := Lib.hid hd
        clear S SB ho hd h1 hx p1
        gi_wp2_with fail
        -- SEP entcutF
        refine in_region_sep (Γ := Unit) (rl := w2.heap.size + 1) (by kernel_rfl) 3 [0, 1, 2, 3, 4, 5, 6, 7, 10]
          (fun i vs gs => match i with | 0 => vs 0 = .pointer (some ⟨g6, 1, none⟩) | 1 => vs 1 = .slice Au pre.length cu | 2 => vs 2 = .slice Ax x.length cx | 3 => ∃ A c, vs 3 = .slice A x.length c | 5 => ∃ A c, vs 5 = .slice A (pre.length + 1) c | 6 => vs 6 = .pointer (some ⟨g6, 1, none⟩) | _ => True)
          (fun i vs gs => match i with | 3 => [rowR 5 1 (vs 3) x.length (bv x)] | 4 => [rowR 25 1 (vs 4) 1 [vs 3]] | 5 => [rowR 25 1 (vs 5) (pre.length + 1) (Bs ++ [vs 3])] | 7 => [blkR g6 24 #[.int .i64 f, vs 5]] | 8 => [blkR g6 24 #[.int .i64 f, .slice Au pre.length cu]] | 9 => [rowR 25 1 (.slice Au pre.length cu) pre.length Bs] | 10 => objR (w2.heap.size + 1) o :: objR w2.heap.size d :: blkR bx 22 #[.slice A' (L.length) c'] :: blkR (w.heap.size + 1) 24 #[.int .i64 0, .slice none 0 0] :: blkR w.heap.size 24 #[.int .i64 f, .slice A L.length c] :: textR (pre.map (·.2)) Bs | _ => [])
          (fun i => match i with | 5 => [9] | 7 => [8] | _ => []) (fun i => match i with | 1 => [8] | 5 => [4] | _ => []) SC.out (by kernel_rfl) (by kernel_rfl) (by kernel_rfl) (by kernel_rfl) (fun i => match i with | 0 => [0] | 1 => [1] | 2 => [2] | 3 => [3] | 4 => [3, 4] | 5 => [3, 5] | 6 => [6] | 7 => [5] | _ => []) (by kernel_rfl) ?_ (by kernel_rfl) ?_ ?_ ?_
        · intro s vs vs' gs gs' h
          iterate 11 (rcases s with _ | s; · (first | exact ⟨rfl, id⟩ | (simp only [List.mem_cons, List.not_mem_nil, or_false, forall_eq_or_imp, forall_eq] at h; simp [h])))
          exact ⟨rfl, id⟩
        · simp only [List.range, List.range.loop, List.flatMap_cons, List.flatMap_nil, List.append_nil, List.cons_append, List.nil_append]
          exact List.Perm.refl _
        · refine ⟨?_, ?_, ?_, ?_, ?_, ?_, ?_, ?_, trivial⟩
          · intro vs gs A' W LF hA S hR hd hu K hK
            replace hK := hK default
            have e6 : A'.tmps[6]?.getD undef = .pointer (some ⟨g6, 0, none⟩) := slot_is hA (by kernel_rfl) (Nat.le_of_ble_eq_true (by kernel_rfl)) (by kernel_rfl)
            go_step
            exact hK _ _ S rfl
          · intro vs gs A' W LF hA S hR hd hu K hK
            replace hK := hK default
            have f0 : vs 0 = .pointer (some ⟨g6, 1, none⟩) := hd 0 (by kernel_rfl)
            have e37 : A'.tmps[37]?.getD undef = vs 0 := slot_is hA (by kernel_rfl) (Nat.le_of_ble_eq_true (by kernel_rfl)) (by kernel_rfl)
            rw [f0] at e37
            obtain ⟨q0, q1, q2, q3, q4⟩ := Blk.c2 (S.ok (blkR g6 24 #[.int .i64 f, .slice Au pre.length cu]) (hR 8 (List.mem_singleton.2 rfl) _ (List.mem_singleton.2 rfl)))
            go_step
            exact hK _ _ S rfl
          · intro vs gs A' W LF hA S hR hd hu K hK
            replace hK := hK default
            have e7 : A'.tmps[7]?.getD undef = .slice Ax x.length cx := slot_is hA (by kernel_rfl) (Nat.le_of_ble_eq_true (by kernel_rfl)) (by kernel_rfl)
            go_step
            exact hK _ _ S rfl
          · intro vs gs A' W LF hA S hR hd hu K hK
            replace hK := hK default
            have f2 : vs 2 = .slice Ax x.length cx := hd 2 (by kernel_rfl)
            have e39 : A'.tmps[39]?.getD undef = vs 2 := slot_is hA (by kernel_rfl) (Nat.le_of_ble_eq_true (by kernel_rfl)) (by kernel_rfl)
            rw [f2] at e39
            go_step
            refine (clone15_any _ x _ (RXc.out _ S.k) hxl).mono ?_
            rintro e w' ⟨u, rfl, ou⟩
            obtain ⟨A1, c1, hu⟩ := ou.form
            subst hu
            exact hK _ _ (S.rownew ou.1 ou.2.1 ou.2.2) ⟨A1, c1, rfl⟩
          · intro vs gs A' W LF hA S hR hd hu K hK
            replace hK := hK default
            have f3 : ∃ A c, vs 3 = .slice A x.length c := hd 3 (by kernel_rfl)
            have e40 : A'.tmps[40]?.getD undef = vs 3 := slot_is hA (by kernel_rfl) (Nat.le_of_ble_eq_true (by kernel_rfl)) (by kernel_rfl)
            obtain ⟨A1, c1, hq⟩ := f3
            rw [hq] at e40
            go_step
            have S2 := S.rownew (ow_new W 25 1 1 #[.slice A1 x.length c1] rfl (by decide)) ((Kp.refl [] W).alloc _) (fun g hg => Nat.le_of_eq (Option.some.inj hg))
            rw [← hq] at S2 ⊢
            exact hK _ _ S2 trivial
          · intro vs gs A' W LF hA S hR hd hu K hK
            replace hK := hK default
            have f1 : vs 1 = .slice Au pre.length cu := hd 1 (by kernel_rfl)
            have e38 : A'.tmps[38]?.getD undef = vs 1 := slot_is hA (by kernel_rfl) (Nat.le_of_ble_eq_true (by kernel_rfl)) (by kernel_rfl)
            rw [f1] at e38
            have e41 : A'.tmps[41]?.getD undef = vs 4 := slot_is hA (by kernel_rfl) (Nat.le_of_ble_eq_true (by kernel_rfl)) (by kernel_rfl)
            have hone : (vs 3).oneCell' = true := by obtain ⟨A, c, h⟩ := (hd 3 (by kernel_rfl) : ∃ A c, vs 3 = .slice A x.length c); rw [h]; rfl
            refine op_app (.tmp 38) (.tmp 41) 22 25 rfl Try.infoBytes Try.underlying22 rfl (by decide) (.slice Au pre.length cu) pre.length Bs (by simpa [Act.eval] using e38) S (vs 4) 1 [vs 3] (by simpa [Act.eval] using e41) (rd_of_row (e := 25) S (List.mem_cons_of_mem _ (hR 4 (List.mem_singleton.2 rfl) _ (List.mem_singleton.2 rfl)))) (by simpa using hone) (by unfold maxLen; omega) (by omega) (fun v' w' S' => hK v' w' S' ?_)
            obtain ⟨A1, c1, h1, _⟩ := ow_form (S'.at_ (l1 := []))
            exact ⟨A1, c1, h1⟩
          · intro vs gs A' W LF hA S hR hd hu K hK
            replace hK := hK default
            have e6 : A'.tmps[6]?.getD undef = .pointer (some ⟨g6, 0, none⟩) := slot_is hA (by kernel_rfl) (Nat.le_of_ble_eq_true (by kernel_rfl)) (by kernel_rfl)
            go_step
            exact hK _ _ S rfl
          · intro vs gs A' W LF hA S hR hd hu K hK
            replace hK := hK default
            have f6 : vs 6 = .pointer (some ⟨g6, 1, none⟩) := hd 6 (by kernel_rfl)
            have e43 : A'.tmps[43]?.getD undef = vs 6 := slot_is hA (by kernel_rfl) (Nat.le_of_ble_eq_true (by kernel_rfl)) (by kernel_rfl)
            rw [f6] at e43
            have f5 : ∃ A c, vs 5 = .slice A (pre.length + 1) c := hd 5 (by kernel_rfl)
            have e42 : A'.tmps[42]?.getD undef = vs 5 := slot_is hA (by kernel_rfl) (Nat.le_of_ble_eq_true (by kernel_rfl)) (by kernel_rfl)
            have S1 : Held w W (blkR g6 24 #[.int .i64 f, .slice Au pre.length cu] :: LF) := S
            obtain ⟨q0, q1, q2, q3, q4⟩ := Blk.c2 (S1.at_ (l1 := []))
            obtain ⟨A1, c1, hq⟩ := f5
            rw [hq] at e42
            go_step
            refine hK undef _ ?_ trivial
            show Held w _ (blkR g6 24 #[.int .i64 f, vs 5] :: LF)
            rw [hq]
            exact S1.set (l1 := []) 1 (.slice A1 (pre.length + 1) c1)
        · intro vs gs W S hp
          have S : Held w W (rowR 5 1 (vs 3) x.length (bv x) :: rowR 25 1 (vs 4) 1 [vs 3] :: rowR 25 1 (vs 5) (pre.length + 1) (Bs ++ [vs 3]) :: blkR g6 24 #[.int .i64 f, vs 5] :: objR (w2.heap.size + 1) o :: objR w2.heap.size d :: blkR bx 22 #[.slice A' (L.length) c'] :: blkR (w.heap.size + 1) 24 #[.int .i64 0, .slice none 0 0] :: blkR w.heap.size 24 #[.int .i64 f, .slice A L.length c] :: textR (pre.map (·.2)) Bs) := by simpa only [List.flatMap_cons, List.flatMap_nil, List.append_nil, List.nil_append, List.cons_append, List.append_assoc] using S
          have p0 : vs 0 = .pointer (some ⟨g6, 1, none⟩) := hp 0 (Nat.le_of_ble_eq_true rfl)
          have p1 : vs 1 = .slice Au pre.length cu := hp 1 (Nat.le_of_ble_eq_true rfl)
          have p2 : vs 2 = .slice Ax x.length cx := hp 2 (Nat.le_of_ble_eq_true rfl)
          have p6 : vs 6 = .pointer (some ⟨g6, 1, none⟩) := hp 6 (Nat.le_of_ble_eq_true rfl)
          obtain ⟨A5, c5, h5⟩ : ∃ A c, vs 5 = .slice A (pre.length + 1) c := hp 5 (Nat.le_of_ble_eq_true rfl)
          have H5 := Lib.hid h5
          have HS5 := Lib.hid S
          clear hp S
          simp only [putAll, p0, p1, p2, p6, h5, Act.put, List.setIfInBounds_toArray, List.set_cons_succ, List.set_cons_zero]
          clear p0 p1 p2 p6 h5
          refine ⟨rfl, ?_⟩
          gi_wp2
          have S6 := HS5.out
          rw [H5.out] at S6
          have S7 := S6.drop.drop.drop.drop
          refine ⟨S7.same2 Ho.out Hd.out, ⟨(S7.at_ (l1 := [_, _])).cell 0, TM.out.kp0 S7.k⟩, .slice A5 (pre.length + 1) c5, Bs ++ [vs 3], by simp [H1.out], ?_⟩
          have hm : (pre ++ [((.slice Ax x.length cx, x) : VX)]).map (·.2) = pre.map (·.2) ++ [x] := by simp
          unfold LC
          rw [hm, textR_snoc _ _ _ _ (by rw [List.length_map]; exact H1.out.symm), List.length_append]
          exact (S6.sub (.cons_cons _ (.cons _ (.cons_cons _ (.cons_cons _ (.cons _ (.cons _ (List.Sublist.refl _)))))))).perm (List.perm_append_singleton _ _).symm
        -- END entcutF
      case done =>
        rintro xs W hxs ⟨v, Bs, h1, S⟩ hD
        have HE : Hid (cutB f g L = (f, xs.map (·.2))) := Lib.hid (by rw [HC.out, hxs])
        have S1 := Lib.hid (S.withObj hwb hD ((cells_txs _ _).blk.blk.blk.blk.row.not S (Nat.le_refl _) hD rfl))
        obtain ⟨Av, cv, hvv, _, _⟩ := ow_form (S.at_ (l1 := []))
        subst hvv
        have H1 := Lib.hid h1
        obtain ⟨r0, r1, r2, r3, r4⟩ := Blk.c2 (S1.out.at_ (l1 := [_, _]))
        obtain ⟨t0, t1, t2, t3, t4⟩ := Blk.c2 (S1.out.at_ (l1 := [_, _, _, _]))
        have S2 := (S1.out.set (l1 := [_, _, _, _]) 0 (.int .i64 f)).set (l1 := [_, _, _, _]) 1 (.slice Av xs.length cv)
        simp only [List.setIfInBounds_toArray, List.set_cons_succ, List.set_cons_zero, List.cons_append, List.nil_append] at S2
        have S2 := Lib.hid S2
        clear S h1 hxs HC
        go_wp2
        refine ret_marks [w2.heap.size] rfl (by simp) (fun D hDm => by simp at hDm; subst hDm; exact S2.out.at_ (l1 := [])) (fun W' hk => ?_)
        have S3 := S2.out.rest (l1 := [_]) hk (fun g hg => by simp at hg; subst hg; exact ⟨_, List.mem_singleton.2 rfl, by simp [objR]⟩)
        obtain ⟨h4, h5, -⟩ := Blk.c2 (S3.at_ (l1 := [_, _, _]))
        refine ⟨.agg #[.int .i64 f, .slice Av xs.length cv], ?_, .slice Av xs.length cv, Bs, by rw [HE.out], by rw [HE.out, List.length_map]; exact H1.out.symm, ?_⟩
        · simp [results, Try.f32, go_sem, h4, h5]
        · rw [HE.out, List.length_map]
          exact S3.sub (.cons_cons _ (.cons _ (.cons _ (.cons _ (.cons _ (List.Sublist.refl _))))))
      case stop =>
        rintro c pre W _ h
        exact h.elim
end
/- XInv's rule with guards ('&&', '||'): each step says what the guard does. -/
section

section
variable {P : Program} {ops : Array Oper} {Q : Exit → Act → World → Prop}

/-- Each waits for earlier ones alone. -/
def earlierG : List Oper → Nat → Bool
  | [], _ => true
  | o :: l, k => (o.after.all fun e => !Region.binds .any e || decide (e.on < k)) && earlierG l (k + 1)
theorem earlierG_spec : ∀ (l : List Oper) (k i : Nat) (o : Oper), earlierG l k = true → l[i]? = some o → (∀ e ∈ o.after, Region.binds .any e = true → e.on < k + i)
  | [], _, _, _, _, h => by simp at h
  | x :: l, k, i, o, hB, h => by
    simp only [earlierG, Bool.and_eq_true] at hB
    rcases i with _ | i
    · obtain rfl : x = o := by simpa using h
      intro e he hb
      have := (Array.all_eq_true_iff_forall_mem.1 hB.1) e he
      simpa [hb] using this
    · have := earlierG_spec l (k + 1) i o hB.2 (by simpa using h)
      exact fun e he hb => by have := this e he hb; omega
def InvStepG (P : Program) (Q : Exit → Act → World → Prop) (PV : Nat → Value → World → Prop) (W0 : World) (fr : (Nat → Value) → Act) (ops : Array Oper) (o : Oper) (i : Nat) : Prop :=
  ∀ (vs : Nat → Value) (A : Act) (W : World), fr vs = A → Kp [] W0 W → (∀ j, waitsB .any o j = true → PV j (vs j) W) →
    ∀ K : Act → World → Prop, (∀ v W', Kp [] W W' → PV i v W' → K (A.put o.dst v) W') → wpOp P ops (Qn Q) i K A W
def InvStepsG (P : Program) (Q : Exit → Act → World → Prop) (PV : Nat → Value → World → Prop) (W0 : World) (fr : (Nat → Value) → Act) (ops : Array Oper) : List Oper → Nat → Prop
  | [], _ => True
  | o :: l, i => InvStepG P Q PV W0 fr ops o i ∧ InvStepsG P Q PV W0 fr ops l (i + 1)
theorem InvStepsG.at_ {PV : Nat → Value → World → Prop} {W0 : World} {fr : (Nat → Value) → Act} : ∀ {l : List Oper} {k : Nat}, InvStepsG P Q PV W0 fr ops l k → ∀ {i o}, l[i]? = some o → InvStepG P Q PV W0 fr ops o (k + i)
  | [], _, _, _, _, h => by simp at h
  | x :: l, k, hs, i, o, h => by
    rcases i with _ | i
    · obtain rfl : x = o := by simpa using h
      exact hs.1
    · have := hs.2.at_ (i := i) (o := o) (by simpa using h)
      rwa [show k + 1 + i = k + (i + 1) from by omega] at this
/-- An operation without a guard. -/
theorem wpOp_free {i : Nat} {K : Act → World → Prop} {a : Act} {w : World} (o : Oper) (ho : ops[i]? = some o) (hg : o.guard = none) (h : o.wp P a w K Q) : wpOp P ops Q i K a w := by
  unfold wpOp
  simp only [ho]
  rw [if_pos (by simp [Region.wanted, hg])]
  exact .inl h
theorem yielded_of {a : Act} {j d : Nat} {b : Bool} (hj : (ops[j]?).bind (·.dst) = some d) (hd : a.tmps[d]?.getD undef = .bool b) : yielded ops a.tmps j = some b := by
  unfold yielded
  rw [hj]
  show (match a.tmps[d]? with | some (.bool b) => some b | _ => none) = some b
  cases h : a.tmps[d]? with
  | none => rw [h] at hd; cases hd
  | some v => rw [h] at hd; obtain rfl : v = .bool b := hd; rfl
/-- One whose guard says: go. -/
theorem wpOp_go {i : Nat} {K : Act → World → Prop} {a : Act} {w : World} (o : Oper) (ho : ops[i]? = some o) (j d : Nat) (b : Bool) (hg : o.guard = some (j, b)) (hj : (ops[j]?).bind (·.dst) = some d) (hd : a.tmps[d]?.getD undef = .bool b) (h : o.wp P a w K Q) : wpOp P ops Q i K a w := by
  unfold wpOp
  simp only [ho]
  rw [if_pos (by simp [Region.wanted, hg, yielded_of hj hd])]
  exact .inl h
/-- One whose guard says: pass over. -/
theorem wpOp_skip {i : Nat} {K : Act → World → Prop} {a : Act} {w : World} (o : Oper) (ho : ops[i]? = some o) (j d : Nat) (b : Bool) (hg : o.guard = some (j, b)) (hj : (ops[j]?).bind (·.dst) = some d) (hd : a.tmps[d]?.getD undef = .bool (!b)) (h : K (a.put o.dst undef) w) : wpOp P ops Q i K a w := by
  unfold wpOp
  simp only [ho]
  rw [if_neg (by simp [Region.wanted, hg, yielded_of hj hd])]
  exact h
theorem inv_anyG {PV : Nat → Value → World → Prop} {W0 : World} {a0 : Act} {l : List Oper} (hst : ∀ i v W W', PV i v W → Kp [] W W' → PV i v W') (hap : apartB l = true) (hea : earlierG l 0 = true)
    (hs : InvStepsG P Q PV W0 (fun vs => putAll vs l 0 a0) l.toArray l 0)
    (hend : ∀ vs W, Kp [] W0 W → (∀ i, i < l.length → PV i (vs i) W) → Q .normal (putAll vs l 0 a0) W) :
    ∀ (fuel : Nat) (listed : Array Bool) (vs : Nat → Value) (W : World), listed.size = l.length → (listed.toList.filter (fun b => !b)).length = fuel → Kp [] W0 W → (∀ i, listed.getD i false = true → PV i (vs i) W) →
      wpAny P .any l.toArray Q fuel listed (putAll vs l 0 a0) W := by
  have all_of : ∀ (listed : Array Bool), listed.size = l.length → Region.ready .any l.toArray listed = [] → ∀ i, i < l.length → listed.getD i false = true := by
    intro listed hsz hr i
    induction i using Nat.strongRecOn with
    | _ i ih =>
      intro hi
      cases hl : listed.getD i false with
      | true => rfl
      | false =>
        exfalso
        have hlt : i < listed.size := by omega
        have hmem : i ∈ Region.ready .any l.toArray listed := mem_ready.2 ⟨by simp [hlt] at hl ⊢; exact hl, l[i], by simp [hi], fun e he hb => by
          have := (earlierG_spec l 0 i l[i] hea (by simp [hi])) e he hb
          exact ih e.on (by omega) (by omega)⟩
        rw [hr] at hmem; cases hmem
  have hnil : ∀ (listed : Array Bool) vs W, listed.size = l.length → Kp [] W0 W → (∀ i, listed.getD i false = true → PV i (vs i) W) → Region.ready .any l.toArray listed = [] → Q .normal (putAll vs l 0 a0) W :=
    fun listed vs W hsz hk hp hr => hend vs W hk (fun i hi => hp i (all_of listed hsz hr i hi))
  intro fuel
  induction fuel with
  | zero =>
    intro listed vs W hsz hf hk hp
    have hr : Region.ready .any l.toArray listed = [] := by
      refine List.eq_nil_iff_forall_not_mem.2 fun i hi => ?_
      have h0 := (mem_ready.1 hi).1
      obtain ⟨_, o, ho, _⟩ := mem_ready.1 hi
      have hlt : i < listed.size := by
        have := (Array.getElem?_eq_some_iff.1 ho).1
        simp at this; omega
      have : listed[i] ∈ listed.toList.filter (fun b => !b) := by
        rw [List.mem_filter]
        simp [hlt] at h0
        refine ⟨by simp, by simp [h0]⟩
      rw [List.eq_nil_of_length_eq_zero hf] at this
      cases this
    exact ⟨hr, hnil listed vs W hsz hk hp hr⟩
  | succ fuel ih =>
    intro listed vs W hsz hf hk hp
    refine ⟨hnil listed vs W hsz hk hp, fun i hi => ?_⟩
    obtain ⟨h0, o, ho, hall⟩ := mem_ready.1 hi
    have hol : l[i]? = some o := by simpa using ho
    have hlt : i < listed.size := by
      have := (List.getElem?_eq_some_iff.1 hol).1
      omega
    refine wpOp_n ?_
    have hstep := hs.at_ hol
    rw [Nat.zero_add] at hstep
    refine hstep vs _ W rfl hk (fun j hj => by obtain ⟨e, he, hb, rfl⟩ := waitsB_spec hj; exact hp e.on (hall e he hb)) _ fun v W' hk' hv => ?_
    rw [putAll_upd vs i v l 0 a0 o hap (Nat.zero_le _) (by simpa using hol)]
    refine ih _ _ W' (by simpa using hsz) ?_ (hk.trans hk' (by simp)) (fun j hj => ?_)
    · simp [hlt] at h0
      have h1 : listed.toList = listed.toList.take i ++ false :: listed.toList.drop (i + 1) := by
        rw [← h0]
        have := List.take_append_drop i listed.toList
        rw [List.drop_eq_getElem_cons (by simpa using hlt)] at this
        simpa using this.symm
      have h2 : (listed.setIfInBounds i true).toList = listed.toList.take i ++ true :: listed.toList.drop (i + 1) := by
        rw [Array.toList_setIfInBounds]
        conv => lhs; rw [h1]
        rw [List.set_append_right _ _ (by simp; omega)]
        simp [Nat.min_eq_left (Nat.le_of_lt hlt)]
      rw [h1] at hf
      rw [h2]
      simp only [List.filter_append, List.filter_cons, List.length_append] at hf ⊢
      simp at hf ⊢
      omega
    · by_cases e : i = j
      · subst e; simpa [upd] using hv
      · rw [getD_set_ne false e] at hj
        simp only [upd, show j ≠ i from fun h => e h.symm, if_false]
        exact hst j _ W W' (hp j hj) hk'

end
end
/- Regions and loops as theorems of their own, over an ABSTRACT frame 'a': code is taken out of the function by its number; what the frame holds is told slot by slot ('Sl'), what a region leaves alone by 'Same'. -/
section

/-- The region of that number. -/
def regOf (n : Nat) : Code → Option (Array Oper)
  | .region id ops _ => if id = n then some ops else none
  | .seq a b => match regOf n a with
    | some x => some x
    | none => regOf n b
  | .cond _ a b => match regOf n a with
    | some x => some x
    | none => regOf n b
  | .block _ c => regOf n c
  | .loop c => regOf n c
  | .scope c => regOf n c
  | .rangeFunc _ _ a b => match regOf n a with
    | some x => some x
    | none => regOf n b
  | _ => none
def opsOf (n : Nat) (f : Func) : List Oper := match f.body with
  | some c => match regOf n c with
    | some x => x.toList
    | none => []
  | none => []
/-- The block of that number: what is in it. -/
def blkOf (n : Nat) : Code → Option Code
  | .block id c => if id = n then some c else blkOf n c
  | .seq a b => match blkOf n a with
    | some x => some x
    | none => blkOf n b
  | .cond _ a b => match blkOf n a with
    | some x => some x
    | none => blkOf n b
  | .loop c => blkOf n c
  | .scope c => blkOf n c
  | .rangeFunc _ _ a b => match blkOf n a with
    | some x => some x
    | none => blkOf n b
  | _ => none
def blockOf (n : Nat) (f : Func) : Code := match f.body with
  | some c => (blkOf n c).getD .skip
  | none => .skip
/-- The frame, with these slots put. -/
def putD : List (Nat × Value) → Act → Act
  | [], a => a
  | (d, v) :: l, a => putD l (a.put (some d) v)
/-- What a slot holds. -/
def Sl (a : Act) (d : Nat) (v : Value) : Prop := ∀ h : d < a.tmps.size, a.tmps[d]'h = v
structure Same (a a' : Act) (ds : List Nat) : Prop where
  size : a'.tmps.size = a.tmps.size
  defers : a'.defers = a.defers
  keep : ∀ d v, (ds.contains d) = false → Sl a d v → Sl a' d v
def lastD : List (Nat × Value) → Nat → Option Value
  | [], _ => none
  | (e, v) :: l, d => match lastD l d with
    | some u => some u
    | none => if e = d then some v else none
theorem sl_of {a : Act} {d : Nat} {v : Value} (h : a.tmps[d]? = some v) : Sl a d v := by
  intro hd
  rw [Array.getElem?_eq_getElem hd] at h
  exact Option.some.inj h
theorem Sl.some {a : Act} {d : Nat} {v : Value} (h : Sl a d v) (hd : d < a.tmps.size) : a.tmps[d]? = some v := by
  rw [Array.getElem?_eq_getElem hd, h hd]
theorem sl_put1 {a : Act} {d e : Nat} {v u : Value} (h : Sl a d v) (hne : e ≠ d) : Sl (a.put (some e) u) d v := by
  by_cases hd : d < a.tmps.size
  · refine sl_of ?_
    show (a.tmps.setIfInBounds e u)[d]? = _
    rw [Array.getElem?_setIfInBounds_ne hne]
    exact h.some hd
  · intro hd'
    exact absurd (by simpa [Act.put] using hd') hd
theorem putD_size : ∀ (l : List (Nat × Value)) (a : Act), (putD l a).tmps.size = a.tmps.size
  | [], _ => rfl
  | (d, v) :: l, a => by
    show (putD l (a.put (some d) v)).tmps.size = _
    rw [putD_size l]
    simp [Act.put]
theorem putD_defers : ∀ (l : List (Nat × Value)) (a : Act), (putD l a).defers = a.defers
  | [], _ => rfl
  | (d, v) :: l, a => by
    show (putD l (a.put (some d) v)).defers = _
    rw [putD_defers l]
    rfl
theorem sl_putD_out : ∀ (l : List (Nat × Value)) (a : Act) (d : Nat) (v : Value), (l.map (·.1)).contains d = false → Sl a d v → Sl (putD l a) d v
  | [], _, _, _, _, h => h
  | (e, u) :: l, a, d, v, hn, h => by
    simp only [List.map_cons, List.contains_cons, Bool.or_eq_false_iff] at hn
    exact sl_putD_out l _ d v hn.2 (sl_put1 h (fun e => by simp [e] at hn))
theorem same_putD (l : List (Nat × Value)) (a : Act) : Same a (putD l a) (l.map (·.1)) :=
  ⟨putD_size l a, putD_defers l a, fun d v hn h => sl_putD_out l a d v hn h⟩
/-- The same, as the walk spells it. -/
theorem same_nil {a : Act} {ds : List Nat} : Same a { tmps := a.tmps, defers := a.defers } ds := ⟨rfl, rfl, fun _ _ _ h => h⟩
theorem same_set {a : Act} {t : Array Value} {D : List Deferred} {ds : List Nat} {d : Nat} {v : Value} (hd : ds.contains d = true) (h : Same a { tmps := t, defers := D } ds) : Same a { tmps := t.setIfInBounds d v, defers := D } ds := by
  refine ⟨by rw [← h.size]; simp, h.defers, fun e u hn hs => ?_⟩
  have h1 := h.keep e u hn hs
  have hne : d ≠ e := by
    rintro rfl
    rw [hd] at hn
    cases hn
  have := sl_put1 (u := v) h1 hne
  exact this
theorem lastD_none : ∀ (l : List (Nat × Value)) (d : Nat), lastD l d = none → (l.map (·.1)).contains d = false
  | [], _, _ => rfl
  | (e, u) :: l, d, h => by
    unfold lastD at h
    cases hl : lastD l d with
    | some x => rw [hl] at h; cases h
    | none =>
      rw [hl] at h
      simp only at h
      by_cases he : e = d
      · rw [if_pos he] at h; cases h
      · simp only [List.map_cons, List.contains_cons, Bool.or_eq_false_iff]
        exact ⟨by simpa using fun h => he h.symm, lastD_none l d hl⟩
theorem sl_putD : ∀ (l : List (Nat × Value)) (a : Act) (d : Nat) (v : Value), lastD l d = some v → Sl (putD l a) d v
  | [], _, _, _, h => by cases h
  | (e, u) :: l, a, d, v, h => by
    unfold lastD at h
    cases hl : lastD l d with
    | some x =>
      rw [hl] at h
      cases h
      exact sl_putD l _ d v hl
    | none =>
      rw [hl] at h
      simp only at h
      by_cases he : e = d
      · rw [if_pos he] at h
        cases h
        subst he
        refine sl_putD_out l _ e _ (lastD_none l e hl) ?_
        intro hd
        simp [Act.put]
      · rw [if_neg he] at h; cases h
theorem Sl.eval {a : Act} {d : Nat} {v : Value} (h : Sl a d v) (hd : d < a.tmps.size) : a.eval (.tmp d) = v := by
  simp only [Act.eval]
  rw [Array.getD_eq_getD_getElem?, Array.getElem?_eq_getElem hd]
  exact h hd
/-- A call, its frame abstract. -/
theorem calls_fr {P : Program} {f : FuncId} {fn : Func} {c : Code} {args : Array Value} {w : World} {R : Ending → World → Prop} (hf : P.funcs[f]? = some fn) (hb : fn.body = some c) (N : Nat) (hN : args.size + (fn.ntmps - args.size) = N)
    (h : ∀ a : Act, a.tmps.size = N → a.defers = [] → (∀ i v, args[i]? = some v → Sl a i v) → c.wp P (bodyPost P fn R) a w) : Calls P f args w R :=
  calls_of_wp hf hb (h _ (by simp only [Array.size_append, Array.size_replicate]; exact hN) rfl (fun i v hi => sl_of (by
    rw [Array.getElem?_append_left (Array.getElem?_eq_some_iff.1 hi).1]; exact hi)))
section
variable {vs : Nat → Value} {l : List Oper} {a A : Act} {d j : Nat}
theorem slot_in (hA : (fun vs => putAll vs l 0 a) vs = A) (hB : apartB l = true) (hd : d < a.tmps.size) (h : evA vs l 0 d = some (vs j)) : A.tmps[d]?.getD undef = vs j :=
  slot_is hA hB hd (by rw [h]; rfl)
theorem slot_out {v : Value} (hA : (fun vs => putAll vs l 0 a) vs = A) (hB : apartB l = true) (hd : d < a.tmps.size) (h : evA vs l 0 d = none) (o : Sl a d v) : A.tmps[d]?.getD undef = v :=
  slot_is hA hB hd (by rw [h]; exact o.eval hd)
end
theorem sH {n N : Nat} (d : Nat) (h : n = N) (hd : Nat.ble (d + 1) N = true) : d < n := Nat.lt_of_lt_of_eq (Nat.le_of_ble_eq_true hd) h.symm
theorem sV {vs : Nat → Value} {l : List Oper} {a A : Act} {N j : Nat} {v : Value} (d : Nat) (f : vs j = v) (hA : (fun vs => putAll vs l 0 a) vs = A) (hB : apartB l = true) (h : a.tmps.size = N) (hd : Nat.ble (d + 1) N = true := by rfl) (e : evA vs l 0 d = some (vs j) := by kernel_rfl) : A.tmps[d]?.getD undef = v :=
  (slot_in hA hB (sH d h hd) e).trans f
theorem sO {vs : Nat → Value} {l : List Oper} {a A : Act} {N : Nat} {v : Value} (d : Nat) (o : Sl a d v) (hA : (fun vs => putAll vs l 0 a) vs = A) (hB : apartB l = true) (h : a.tmps.size = N) (hd : Nat.ble (d + 1) N = true := by rfl) (e : evA vs l 0 d = none := by kernel_rfl) : A.tmps[d]?.getD undef = v :=
  slot_out hA hB (sH d h hd) e o
theorem Same.k {a a' : Act} {ds : List Nat} {d : Nat} {v : Value} (hs : Same a a' ds) (o : Sl a d v) (h : ds.contains d = false := by decide) : Sl a' d v := hs.keep d v h o
theorem sS {a a' : Act} {ds : List Nat} (h : Same a a' ds := by repeat (first | (with_reducible refine same_set (by decide) ?_) | (with_reducible exact same_nil))) : Same a a' ds := h
theorem sP {a : Act} {d : Nat} {v : Value} (h : Sl a d v := by unfold Sl; first | (simp [hsz]; done) | (simp [hsz]; omega)) : Sl a d v := h
theorem sP0 {a : Act} {d : Nat} {v : Value} (h : Sl a d v := by unfold Sl; simp [hsz]) : Sl a d v := h
theorem sU {vs : Nat → Value} {l : List Oper} {a A : Act} {N : Nat} (d j : Nat) (hA : (fun vs => putAll vs l 0 a) vs = A) (hB : apartB l = true) (h : a.tmps.size = N) (hd : Nat.ble (d + 1) N = true := by rfl) (e : evA vs l 0 d = some (vs j) := by kernel_rfl) : A.tmps[d]?.getD undef = vs j :=
  slot_in hA hB (sH d h hd) e
def dstL (vs : Nat → Value) : List Oper → Nat → List (Nat × Value)
  | [], _ => []
  | o :: l, k => match o.dst with
    | some d => (d, vs k) :: dstL vs l (k + 1)
    | none => dstL vs l (k + 1)
theorem putAll_eq (vs : Nat → Value) : ∀ (l : List Oper) (k : Nat) (a : Act), putAll vs l k a = putD (dstL vs l k) a
  | [], _, _ => rfl
  | o :: l, k, a => by
    unfold putAll dstL
    rw [putAll_eq vs l (k + 1)]
    cases h : o.dst <;> rfl
theorem sQ {vs : Nat → Value} {l : List Oper} {a : Act} {ds : List Nat} (h : (dstL vs l 0).map (·.1) = ds := by kernel_rfl) : Same a (putD (dstL vs l 0) a) ds := h ▸ same_putD _ a
theorem sX {vs : Nat → Value} {l : List Oper} {a : Act} {d : Nat} {v : Value} (h : lastD (dstL vs l 0) d = some v := by kernel_rfl) : Sl (putD (dstL vs l 0) a) d v := sl_putD _ a d v h
theorem sW {vs : Nat → Value} {l : List Oper} {a : Act} {d j : Nat} {v : Value} (e : vs j = v) (h : lastD (dstL vs l 0) d = some (vs j) := by kernel_rfl) : Sl (putD (dstL vs l 0) a) d v := sl_putD _ a d v (h.trans (congrArg some e))
theorem sB {a b : Nat} (h : Nat.ble a b = true := by kernel_rfl) : a ≤ b := Nat.le_of_ble_eq_true h
theorem kR {S : List Nat} {w : World} : Kp S w w := Kp.refl S w
end
/- An ORDERED region, operation by operation, with guards: XInvG's way for regions that draw no order. -/
section

section
variable {P : Program} {Q : Exit → Act → World → Prop}
def InvStepS (P : Program) (Q : Exit → Act → World → Prop) (PV : Nat → Value → World → Prop) (W0 : World) (fr : (Nat → Value) → Act) (u0 : Nat → Value) (ops : Array Oper) (o : Oper) (i : Nat) : Prop :=
  ∀ (vs : Nat → Value) (A : Act) (W : World), fr vs = A → Kp [] W0 W → (∀ j, Nat.blt j i = true → PV j (vs j) W) → (∀ j, Nat.ble i j = true → vs j = u0 j) →
    ∀ K : Act → World → Prop, (∀ v W', Kp [] W W' → PV i v W' → K (A.put o.dst v) W') → wpOp P ops (Qn Q) i K A W
def InvStepsS (P : Program) (Q : Exit → Act → World → Prop) (PV : Nat → Value → World → Prop) (W0 : World) (fr : (Nat → Value) → Act) (u0 : Nat → Value) (ops : Array Oper) : List Oper → Nat → Prop
  | [], _ => True
  | o :: l, i => InvStepS P Q PV W0 fr u0 ops o i ∧ InvStepsS P Q PV W0 fr u0 ops l (i + 1)
theorem wpList_of_op {ops : Array Oper} {o : Oper} {rest : List Oper} {a : Act} {w : World} {i : Nat} (ho : ops[i]? = some o) (h : wpOp P ops Q i (wpList P ops Q rest) a w) : wpList P ops Q (o :: rest) a w := by
  unfold wpOp at h
  simp only [ho] at h
  unfold wpList
  exact h
theorem seq_inv {PV : Nat → Value → World → Prop} {W0 : World} {a0 : Act} {l l2 : List Oper} {ops : Array Oper} (hops : ∀ (i : Nat) (o : Oper), l[i]? = some o → ops[i]? = some o) (hst : ∀ i v W W', PV i v W → Kp [] W W' → PV i v W') (hap : apartB l = true)
    (hend : ∀ vs W, Kp [] W0 W → (∀ i, i < l.length → PV i (vs i) W) → wpList P ops Q l2 (putAll vs l 0 a0) W) :
    ∀ (rest : List Oper) (i : Nat) (vs : Nat → Value) (W : World), l.drop i = rest → InvStepsS P Q PV W0 (fun vs => putAll vs l 0 a0) (at0 a0 l) ops rest i → Kp [] W0 W → (∀ j, j < i → PV j (vs j) W) → (∀ j, i ≤ j → vs j = at0 a0 l j) →
      wpList P ops Q (rest ++ l2) (putAll vs l 0 a0) W
  | [], i, vs, W, hr, _, hk, hp, _ => by
    have hi : l.length ≤ i := List.drop_eq_nil_iff.1 hr
    exact hend vs W hk (fun j hj => hp j (by omega))
  | o :: rest, i, vs, W, hr, hs, hk, hp, hu => by
    have hol : l[i]? = some o := by
      have : (l.drop i)[0]? = some o := by rw [hr]; rfl
      rwa [List.getElem?_drop, Nat.add_zero] at this
    have hr2 : l.drop (i + 1) = rest := by
      rw [← List.drop_drop, hr]; rfl
    refine wpList_of_op (i := i) (hops i o hol) (wpOp_n ?_)
    refine hs.1 vs _ W rfl hk (fun j hj => hp j (by simpa [Nat.blt_eq] using hj)) (fun j hj => hu j (by simpa [Nat.ble_eq] using hj)) _ fun v W' hk' hv => ?_
    rw [putAll_upd vs i v l 0 a0 o hap (Nat.zero_le _) (by simpa using hol)]
    refine seq_inv hops hst hap hend rest (i + 1) _ W' hr2 hs.2 (hk.trans hk' (by simp)) (fun j hj => ?_) (fun j hj => ?_)
    · by_cases e : j = i
      · subst e; simpa [upd] using hv
      · simp only [upd, if_neg e]
        exact hst j _ W W' (hp j (by omega)) hk'
    · simp only [upd, if_neg (show j ≠ i by omega)]
      exact hu j (by omega)
/-- The region's rule: the first k operations so, what is behind them is walked. -/
theorem wp_region_invSL {id : Nat} {a : Act} {w : World} {l : List Oper} (k : Nat) (PV : Nat → Value → World → Prop) (hap : apartB (l.take k) = true)
    (hst : ∀ i v W W', PV i v W → Kp [] W W' → PV i v W')
    (hs : InvStepsS P Q PV w (fun vs => putAll vs (l.take k) 0 a) (at0 a (l.take k)) l.toArray (l.take k) 0)
    (hend : ∀ vs W, Kp [] w W → (∀ i, i < (l.take k).length → PV i (vs i) W) → wpList P l.toArray Q (l.drop k) (putAll vs (l.take k) 0 a) W) : (Code.region id l.toArray false).wp P Q a w := by
  refine wp_region_lit (l := l) ?_
  have h := seq_inv (P := P) (Q := Q) (a0 := a) (l := l.take k) (l2 := l.drop k) (ops := l.toArray) (fun i o h => by
    rw [List.getElem?_take] at h
    split at h
    · simpa using h
    · cases h) hst hap hend (l.take k) 0 (at0 a (l.take k)) w rfl hs (Kp.refl _ _) (fun j hj => by omega) (fun _ _ => rfl)
  rwa [List.take_append_drop, putAll_at a (l.take k) 0 (at0 a (l.take k)) (fun j o ho => by simp only [at0, Nat.zero_add, ho])] at h
/-- The region's rule. -/
theorem wp_region_invS {id : Nat} {a : Act} {w : World} {l : List Oper} (PV : Nat → Value → World → Prop) (hap : apartB l = true)
    (hst : ∀ i v W W', PV i v W → Kp [] W W' → PV i v W')
    (hs : InvStepsS P Q PV w (fun vs => putAll vs l 0 a) (at0 a l) l.toArray l 0)
    (hend : ∀ vs W, Kp [] w W → (∀ i, i < l.length → PV i (vs i) W) → Q .normal (putAll vs l 0 a) W) : (Code.region id l.toArray false).wp P Q a w := by
  refine wp_region_lit (l := l) ?_
  have h := seq_inv (P := P) (Q := Q) (a0 := a) (l := l) (l2 := []) (ops := l.toArray) (fun i o h => by simpa using h) hst hap hend l 0 (at0 a l) w rfl hs (Kp.refl _ _) (fun j hj => by omega) (fun _ _ => rfl)
  rwa [List.append_nil, putAll_at a l 0 (at0 a l) (fun j o ho => by simp [at0, ho])] at h
end
end
/- Single operations: struct and slice literals of parts that are known. -/
section
theorem op_build {P : Program} {o : Oper} {a : Act} {w : World} {K : Act → World → Prop} {Q : Exit → Act → World → Prop} (t : TypeId) (parts : Array (Nat × Operand)) (ho : o.op = .build t parts) (ps : List (Nat × Value)) (hp : (parts.map fun (i, x) => (i, a.eval x)).toList = ps)
    (cells : Array Value) (hb : P.built t ps = some cells) (h : K (a.put o.dst (.agg cells)) w) : o.wp P a w K Q := by
  refine wp_build t parts ho (by rw [hp, hb]; rfl) ?_
  rw [hp, hb]
  exact h
end
/- Held lists: pull things to the front by number. -/
section
theorem Held.pull {w0 w : World} {L : List Res} (S : Held w0 w L) (i : Nat) {r : Res} (h : L[i]? = some r) : Held w0 w (r :: L.eraseIdx i) := by
  refine S.perm ?_
  clear S
  induction L generalizing i with
  | nil => simp at h
  | cons x L ih =>
    rcases i with _ | i
    · simp at h; subst h; exact List.Perm.refl _
    · exact ((ih i (by simpa using h)).cons x).trans (List.Perm.swap _ _ _)
/-- Some of what is held. -/
theorem Held.some_of {w0 w : World} {L L' : List Res} (S : Held w0 w L) (h : L'.Sublist L) : Held w0 w L' :=
  ⟨S.k, fun r hr => S.ok r (h.subset hr), fun r hr => S.base r (h.subset hr), List.Pairwise.sublist h S.apart⟩
end
end Go.Proofs.Ytdmdnphbheomoaa
