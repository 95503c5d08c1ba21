/- WireWrites: what comes in; what the call holds. -/
import Derived.Test.YtdcmncmpoinlaaaWireAA
namespace Go.Proofs.Ytdcmncmpoinlaaa
open Go.RowKit

/-- What the first i of them write. -/
def encs (ps : List PutD) (i : Nat) : List UInt8 := ((ps.take i).map PutD.enc).flatten
theorem encs_zero (ps : List PutD) : encs ps 0 = [] := by simp [encs]
theorem encs_succ (ps : List PutD) (i : Nat) (p : PutD) (h : ps[i]? = some p) : encs ps (i + 1) = encs ps i ++ p.enc := by
  unfold encs
  rw [List.take_add_one, h]
  simp
theorem encs_over (ps : List PutD) (i : Nat) (h : ps.length ≤ i) : encs ps (i + 1) = encs ps i := by
  unfold encs
  rw [List.take_of_length_le h, List.take_of_length_le (by omega)]

/-- Element i of a slice of Puts. -/
structure PutAt (w : World) (ad : Addr) (i : Nat) (p : PutD) (cs : Array Value) (B : Value) : Prop where
  c : PutC cs p B
  at_ : ∀ j u, cs.toList[j]? = some u → w.cell? ((ad.add (i * 36)).add j) = some u
  b : Rd w 1 B p.b.length (bv p.b)
/-- A slice of Puts. -/
structure PutsIn (w : World) (v : Value) (ps : List PutD) : Prop where
  form : ∃ A c, v = .slice A ps.length c ∧ ps.length ≤ c ∧ c ≤ maxLen ∧ (A = none → ps = []) ∧ ∀ ad, A = some ad → ∀ i p, ps[i]? = some p → ∃ cs B, PutAt w ad i p cs B
theorem rd_old {w w' : World} {s n : Nat} {v : Value} {xs : List Value} (h : Rd w s v n xs) (hk : Kp [] w w') : Rd w' s v n xs := h.kp hk (by simp)
theorem cell_old {w w' : World} {p : Addr} {u : Value} (h : w.cell? p = some u) (hk : Kp [] w w') : w'.cell? p = some u := by
  have hlt : p.block < w.heap.size := by
    rcases Nat.lt_or_ge p.block w.heap.size with h' | h'
    · exact h'
    · simp [World.cell?, Array.getElem?_eq_none h'] at h
  rw [World.cell?_of_block (hk.block p.block hlt (by simp))]; exact h
theorem PutAt.old {w w' : World} {ad : Addr} {i : Nat} {p : PutD} {cs : Array Value} {B : Value} (h : PutAt w ad i p cs B) (hk : Kp [] w w') : PutAt w' ad i p cs B :=
  ⟨h.c, fun j u hu => cell_old (h.at_ j u hu) hk, rd_old h.b hk⟩
theorem PutAt.lt {w : World} {ad : Addr} {i : Nat} {p : PutD} {cs : Array Value} {B : Value} (h : PutAt w ad i p cs B) : ∀ g, B.ownBlock = some g → p.b ≠ [] → g < w.heap.size := by
  intro g hg hne
  obtain ⟨_, A, c, h2, _, _, h5, h6⟩ := h.b
  rw [h2] at hg
  cases A with
  | none => simp [Value.ownBlock] at hg
  | some ad =>
    simp [Value.ownBlock] at hg
    obtain ⟨x, xs, hx⟩ := List.exists_cons_of_ne_nil hne
    have h := h6 ad rfl 0 (.int .u8 x.toNat) (by rw [hx]; rfl)
    rcases Nat.lt_or_ge g w.heap.size with h' | h'
    · exact h'
    · exfalso
      have hb : (ad.add 0).block = g := by rw [← hg]; rfl
      simp [World.cell?, hb, Array.getElem?_eq_none h'] at h

def sel {α : Type} (k : Nat) (x y : α) : α := if k = 0 then x else y

/-- What the call holds: the two writers; what each was given; what each should tell. -/
def St (w0 w : World) (g5 g6 g7 q0 q1 : Nat) (va vb : Value) (b0 b1 : List UInt8) : Prop :=
  ∃ u0 u1 v0 v1, Held w0 w [blkR g5 44 #[.pointer (some ⟨q0, 0, none⟩), .pointer (some ⟨q1, 0, none⟩)], blkR g6 45 #[va, vb], blkR g7 46 #[v0, v1],
    wrR q0 u0 b0, wrR q1 u1 b1, rowR 5 1 v0 b0.length (bv b0), rowR 5 1 v1 b1.length (bv b1)]
/-- Number k's part of it; 'L': the rest. -/
theorem St.pick {w0 w : World} {g5 g6 g7 q0 q1 : Nat} {va vb : Value} {b0 b1 : List UInt8} (h : St w0 w g5 g6 g7 q0 q1 va vb b0 b1) (k : Nat) (hk : k < 2) :
    ∃ u v A7 L, A7[k]? = some v ∧ A7.size = 2 ∧
      Held w0 w (blkR g5 44 #[.pointer (some ⟨q0, 0, none⟩), .pointer (some ⟨q1, 0, none⟩)] :: blkR g6 45 #[va, vb] :: blkR g7 46 A7 ::
        wrR (sel k q0 q1) u (sel k b0 b1) :: rowR 5 1 v (sel k b0 b1).length (bv (sel k b0 b1)) :: L) ∧
      ∀ (w' : World) (u' v' : Value) (b' : List UInt8),
        Held w0 w' (blkR g5 44 #[.pointer (some ⟨q0, 0, none⟩), .pointer (some ⟨q1, 0, none⟩)] :: blkR g6 45 #[va, vb] :: blkR g7 46 (A7.setIfInBounds k v') ::
          wrR (sel k q0 q1) u' b' :: rowR 5 1 v' b'.length (bv b') :: L) → St w0 w' g5 g6 g7 q0 q1 va vb (sel k b' b0) (sel k b1 b') := by
  obtain ⟨u0, u1, v0, v1, H⟩ := h
  have hk2 : k = 0 ∨ k = 1 := by omega
  rcases hk2 with rfl | rfl
  · refine ⟨u0, v0, #[v0, v1], [wrR q1 u1 b1, rowR 5 1 v1 b1.length (bv b1)], rfl, rfl, H.perm ?_, fun w' u' v' b' H' => ⟨u', u1, v', v1, H'.perm ?_⟩⟩
    · exact .cons _ (.cons _ (.cons _ (.cons _ (.swap _ _ _))))
    · exact .cons _ (.cons _ (.cons _ (.cons _ (.swap _ _ _))))
  · refine ⟨u1, v1, #[v0, v1], [wrR q0 u0 b0, rowR 5 1 v0 b0.length (bv b0)], rfl, rfl, H.perm ?_, fun w' u' v' b' H' => ⟨u0, u', v0, v', H'.perm ?_⟩⟩
    · refine .cons _ (.cons _ (.cons _ ?_))
      exact (List.Perm.swap _ _ _).trans (.cons _ ((List.Perm.cons _ (.swap _ _ _)).trans ((List.Perm.swap _ _ _))))
    · refine .cons _ (.cons _ (.cons _ ?_))
      exact ((List.Perm.cons _ ((List.Perm.swap _ _ _).trans (.cons _ (.swap _ _ _)))).trans (.swap _ _ _))
theorem set_same (A : Array Value) (k : Nat) (v : Value) (h : A[k]? = some v) : A.setIfInBounds k v = A := by
  apply Array.ext_getElem?
  intro i
  rw [Array.getElem?_setIfInBounds]
  split
  · rename_i he; subst he
    obtain ⟨hlt, _⟩ := Array.getElem?_eq_some_iff.1 h
    have e := Array.getElem?_eq_getElem hlt
    rw [h] at e
    simp [hlt, Option.some.inj e]
  · rfl
theorem St.start {w0 w1 : World} {q0 : Nat} (S : Held w0 w1 [wrR q0 (.slice none 0 0) []]) (va vb : Value) :
    St w0 ((((w1.alloc (.cells #[.slice none 0 0] 43)).alloc (.cells #[.pointer (some ⟨q0, 0, none⟩), .pointer (some ⟨w1.heap.size, 0, none⟩)] 44)).alloc
      (.cells #[va, vb] 45)).alloc (.cells #[.slice none 0 0, .slice none 0 0] 46)) (w1.heap.size + 1) (w1.heap.size + 1 + 1) (w1.heap.size + 1 + 1 + 1) q0 w1.heap.size va vb [] [] := by
  have S2 := S.wnew (w' := w1.alloc (.cells #[.slice none 0 0] 43)) ⟨Blk.new _ _ _, World.ownsRow_nil _ _ _ _⟩ ((Kp.refl [] _).alloc _)
  have S3 := S2.new (blkR (w1.heap.size + 1) 44 #[.pointer (some ⟨q0, 0, none⟩), .pointer (some ⟨w1.heap.size, 0, none⟩)]) ((Kp.refl [] _).alloc _) (by
    have := Blk.new (w1.alloc (.cells #[.slice none 0 0] 43)) 44 #[.pointer (some ⟨q0, 0, none⟩), .pointer (some ⟨w1.heap.size, 0, none⟩)]
    rwa [World.size_alloc] at this) (fun b hb => by simp [blkR] at hb; simp; omega)
  have S4 := S3.new (blkR (w1.heap.size + 1 + 1) 45 #[va, vb]) ((Kp.refl [] _).alloc _) (by
    have := Blk.new ((w1.alloc (.cells #[.slice none 0 0] 43)).alloc (.cells #[.pointer (some ⟨q0, 0, none⟩), .pointer (some ⟨w1.heap.size, 0, none⟩)] 44)) 45 #[va, vb]
    rwa [World.size_alloc, World.size_alloc] at this) (fun b hb => by simp [blkR] at hb; simp; omega)
  have S5 := S4.new (blkR (w1.heap.size + 1 + 1 + 1) 46 #[.slice none 0 0, .slice none 0 0]) ((Kp.refl [] _).alloc _) (by
    have := Blk.new (((w1.alloc (.cells #[.slice none 0 0] 43)).alloc (.cells #[.pointer (some ⟨q0, 0, none⟩), .pointer (some ⟨w1.heap.size, 0, none⟩)] 44)).alloc (.cells #[va, vb] 45)) 46 #[.slice none 0 0, .slice none 0 0]
    rwa [World.size_alloc, World.size_alloc, World.size_alloc] at this) (fun b hb => by simp [blkR] at hb; simp; omega)
  have S6 := S5.rownew (e := 5) (s := 1) (n := 0) (v := .slice none 0 0) (xs := []) (World.ownsRow_nil _ _ _ _) (Kp.refl [] _) (fun _ hg => nomatch hg)
  have S7 := S6.rownew (e := 5) (s := 1) (n := 0) (v := .slice none 0 0) (xs := []) (World.ownsRow_nil _ _ _ _) (Kp.refl [] _) (fun _ hg => nomatch hg)
  refine ⟨.slice none 0 0, .slice none 0 0, .slice none 0 0, .slice none 0 0, S7.perm ?_⟩
  have P : ∀ r r' b7 b6 b5 x y : Res, [r, r', b7, b6, b5, x, y].Perm [b5, b6, b7, y, x, r, r'] := by
    intro r r' b7 b6 b5 x y
    refine (List.perm_append_comm (l₁ := [r, r'])).trans ?_
    exact List.Perm.append (l₁ := [b7, b6, b5]) (List.reverse_perm [b5, b6, b7]) (List.Perm.swap _ _ _)
  exact P _ _ _ _ _ _ _
theorem sel_in {w : World} {A B : Option Addr} {ca cb : Nat} {ps qs : List PutD} (ha : PutsIn w (.slice A ps.length ca) ps) (hb : PutsIn w (.slice B qs.length cb) qs) (k : Nat) :
    ∃ Ar cr, sel k (Value.slice A ps.length ca) (Value.slice B qs.length cb) = .slice Ar (sel k ps qs).length cr ∧ PutsIn w (.slice Ar (sel k ps qs).length cr) (sel k ps qs) := by
  unfold sel
  split
  · exact ⟨A, ca, rfl, ha⟩
  · exact ⟨B, cb, rfl, hb⟩
theorem sel_encs (ps qs : List PutD) (i k : Nat) (hk : k < 2) : sel k (encs ps (if 0 < k then i + 1 else i)) (encs qs (if 1 < k then i + 1 else i)) = encs (sel k ps qs) i := by
  have : k = 0 ∨ k = 1 := by omega
  rcases this with rfl | rfl <;> simp [sel]
theorem sel_cell {α : Type} (x y : α) (k : Nat) (hk : k < 2) : (#[x, y])[k]? = some (sel k x y) := by
  have : k = 0 ∨ k = 1 := by omega
  rcases this with rfl | rfl <;> rfl
theorem sel_ind {α : Type} (P : α → Prop) {x y : α} (k : Nat) (hx : P x) (hy : P y) : P (sel k x y) := by unfold sel; split <;> assumption
theorem St.step {w0 w : World} {g5 g6 g7 q0 q1 : Nat} {va vb : Value} {ps qs : List PutD} {i k : Nat} {b' : List UInt8} (hk : k < 2)
    (h : St w0 w g5 g6 g7 q0 q1 va vb (sel k b' (encs ps (if 0 < k then i + 1 else i))) (sel k (encs qs (if 1 < k then i + 1 else i)) b')) (hb : b' = encs (sel k ps qs) (i + 1)) :
    St w0 w g5 g6 g7 q0 q1 va vb (encs ps (if 0 < k + 1 then i + 1 else i)) (encs qs (if 1 < k + 1 then i + 1 else i)) := by
  subst hb
  have : k = 0 ∨ k = 1 := by omega
  rcases this with rfl | rfl <;> simpa [sel] using h
theorem St.skip {w0 w : World} {g5 g6 g7 q0 q1 : Nat} {va vb : Value} {ps qs : List PutD} {i k : Nat} (hk : k < 2)
    (h : St w0 w g5 g6 g7 q0 q1 va vb (encs ps (if 0 < k then i + 1 else i)) (encs qs (if 1 < k then i + 1 else i))) (hi : (sel k ps qs).length ≤ i) :
    St w0 w g5 g6 g7 q0 q1 va vb (encs ps (if 0 < k + 1 then i + 1 else i)) (encs qs (if 1 < k + 1 then i + 1 else i)) := by
  have : k = 0 ∨ k = 1 := by omega
  rcases this with rfl | rfl
  · simp only [sel, if_pos] at hi
    simpa [encs_over ps i hi] using h
  · simp only [sel, Nat.one_ne_zero, if_false] at hi
    simpa [encs_over qs i hi] using h

/-- A row of the list is grown. -/
theorem Held.grow {w0 w w' : World} {l1 l2 : List Res} {e : TypeId} {s n n' : Nat} {v v' : Value} {xs xs' : List Value} (h : Held w0 w (l1 ++ rowR e s v n xs :: l2)) (ho : Ow w' e s v' n' xs') (hg : w.grownBy w' v.ownBlock) (hv : v'.ownBlock = v.ownBlock ∨ v'.ownBlock = some w.heap.size) :
    Held w0 w' (l1 ++ rowR e s v' n' xs' :: l2) :=
  h.turnAt (rowR e s v' n' xs') (Kp.of_grown hg) ho (fun b hb => by
    rcases hv with e | e
    · exact .inl (by simpa [rowR, e] using hb)
    · simp only [rowR, e, Option.toList_some, List.mem_singleton] at hb; exact .inr (by omega))
/-- A cell of a block of the list is set. -/
theorem Held.set {w0 w : World} {l1 l2 : List Res} {g : Nat} {t : TypeId} {cs : Array Value} (h : Held w0 w (l1 ++ blkR g t cs :: l2)) (i : Nat) (u : Value) : Held w0 (w.setCell ⟨g, i, none⟩ u) (l1 ++ blkR g t (cs.setIfInBounds i u) :: l2) :=
  h.turnAt (blkR g t (cs.setIfInBounds i u)) ((Kp.refl [g] w).setCell (.inl (by simp)) u) (h.at_.set_ i u) (fun _ hb => .inl hb)
theorem Try.infoPut : (Try.prog.info? 52).map (·.size) = some 36 := by kernel_rfl
theorem run_put {W : World} {ad : Addr} {cs : Array Value} (hc : ∀ j u, cs.toList[j]? = some u → W.cell? (ad.add j) = some u) (hs : cs.size = 36) :
    (Instr.loadAt 52 (.pointer (some ad))).run Try.prog W = .ok (.agg cs) W :=
  run_loadAt_agg W ad _ cs.toList _ hc Try.underlying52 rfl (by rw [Try.infoPut, Array.length_toList, hs])
theorem Held.old_ne {w0 w : World} {l1 l2 : List Res} {q : Nat} {u : Value} {bs : List UInt8} (S : Held w0 w (l1 ++ wrR q u bs :: l2)) {g : Nat} (h : g < w0.heap.size) : g ∉ q :: u.ownBlock.toList := fun hm => by
  have := S.base (wrR q u bs) (by simp) g hm
  omega
theorem same_true (x y : Value) (a : List UInt8) (n m : Nat) (w : World) (hx : Rd w 1 x n (bv a)) (hy : Rd w 1 y m (bv a)) :
    Calls Try.prog 16 #[x, y] w fun e w' => e = .returned (.bool true) ∧ w = w' := by
  have h := same_any x y a a n m w hx hy
  rwa [beq_self_eq_true] at h
theorem Held.rowset {w0 w w' : World} {l1 l2 : List Res} {e : TypeId} {s n : Nat} {v : Value} {xs xs' : List Value} (h : Held w0 w (l1 ++ rowR e s v n xs :: l2)) (ho : Ow w' e s v n xs') (hk : Kp v.ownBlock.toList w w') : Held w0 w' (l1 ++ rowR e s v n xs' :: l2) :=
  h.turnAt (rowR e s v n xs') hk ho (fun _ hb => .inl hb)
end Go.Proofs.Ytdcmncmpoinlaaa
