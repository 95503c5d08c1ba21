/- Several texts in one: WireW, WireX, WireY, WireZ, WireAA, WireAB, WireBA, WireBB, WireBC, WireBD, WireBE, WireBF, WireBG, WireBH, EntM, EntA, EntB, WList, EntC, Cut, EntD, EntE, EntR, PtR, Keep, Full, PtL, WireBI, PtS, PtReads. -/
import Derived.Laws.Cover3
import Derived.Test.YtolfckhjfadhdaaDoorP4
/- Walks for layer 1's laws: the reference's List; 'puts'. -/
namespace Go.Proofs.YtolfckhjfadhdaaDoor
open Go.RowKit

end Go.Proofs.YtolfckhjfadhdaaDoor
/- 'puts': what is written, by the program and by the document. -/
namespace Go.Proofs.YtolfckhjfadhdaaDoor
open Go.RowKit

/-- A Put, as data. -/
structure PutD where
  kind : Int
  x : Nat
  h : List UInt8
  b : List UInt8
  width : Int
/-- The bytes that it writes. -/
def PutD.enc (p : PutD) : List UInt8 :=
  if p.kind = 1 then be 1 p.x else if p.kind = 2 then be 2 p.x else if p.kind = 3 then be 4 p.x else if p.kind = 4 then be 8 p.x else if p.kind = 5 then be 8 p.x
  else if p.kind = 6 then p.h else if p.kind = 7 then p.b
  else if p.kind = 8 then (if 1 ≤ p.width ∧ p.width ≤ 4 ∧ p.b.length < 256 ^ p.width.toNat then be p.width.toNat p.b.length ++ p.b else []) else []
/-- The cells of one. -/
structure PutC (cs : Array Value) (p : PutD) (B : Value) : Prop where
  c0 : cs[0]? = some (.int .i64 p.kind)
  c1 : cs[1]? = some (.int .u64 p.x)
  ch : ((cs.toList.drop 2).take 32) = bv p.h
  c34 : cs[34]? = some B
  c35 : cs[35]? = some (.int .i64 p.width)
  size : cs.size = 36
  hx : p.x < 18446744073709551616
  hh : p.h.length = 32
  hk : -9223372036854775808 ≤ p.kind ∧ p.kind ≤ 9223372036854775807
  hw : -9223372036854775808 ≤ p.width ∧ p.width ≤ 9223372036854775807



/-- What 'puts' leaves. -/
def PutPost (q : Nat) (u : Value) (bs enc : List UInt8) (w : World) (e : Ending) (w' : World) : Prop :=
  ∃ v u', e = .returned (.tuple #[v, .bool true]) ∧ Wr w' q u' (bs ++ enc) ∧ WSt q u u' w w' ∧ Rd w' 1 v enc.length (bv enc)

/-- First something new is made (world w1), then the writer is written to. -/
theorem wst_after {w w1 w' : World} {q : Nat} {u u' : Value} (h1 : Kp [] w w1) (hs : WSt q u u' w1 w') : WSt q u u' w w' :=
  ⟨(h1.more (T := q :: u.ownBlock.toList) (by simp)).trans hs.1 (fun g hg => .inl hg), by
    rcases hs.2 with h | ⟨g, h2, h3⟩
    · exact .inl h
    · exact .inr ⟨g, h2, Nat.le_trans h1.size h3⟩⟩
theorem Wr.kp0 {w w' : World} {q : Nat} {u : Value} {bs : List UInt8} (h : Wr w q u bs) (hk : Kp [] w w') : Wr w' q u bs := h.kp hk (by simp) (fun _ _ => by simp)
/-- What was made new reads as it did, while the writer is written to. -/
theorem rd_beside {w1 w2 w' : World} {e : TypeId} {q n : Nat} {u u' v : Value} {bs : List UInt8} {xs : List Value} (ho : Ow w2 e 1 v n xs) (hf : ∀ g, v.ownBlock = some g → w1.heap.size ≤ g) (hw : Wr w1 q u bs) (hs : WSt q u u' w2 w') : Rd w' 1 v n xs :=
  (Rd.of_own ho).kp hs.1 (fun g hg hm => by
    have h1 := hf g hg
    rcases List.mem_cons.1 hm with h | h
    · have := hw.1.lt; omega
    · have := ow_lt hw.2 (g := g) (by simpa using h); omega)

-- PUTS
end Go.Proofs.YtolfckhjfadhdaaDoor
/- 'puts', the other kinds. -/
namespace Go.Proofs.YtolfckhjfadhdaaDoor
open Go.RowKit

/-- Out of 64 bits to a signed number and back. -/
theorem tou64_wrap (x : Nat) (h : x < 18446744073709551616) : tou64 (wrap64 (x : Int)) = x := by
  unfold wrap64 tou64; omega

theorem run_hash {P : Program} {W : World} {g : Nat} {t : TypeId} {cs : Array Value} {h : List UInt8} (ty : TypeId) (d : TypeDesc) (hb : Blk W g t cs) (hh : (cs.toList.drop 2).take 32 = bv h) (hu : P.underlying ty = some d) (hd : aggB d = true) (hi : (P.info? ty).map (·.size) = some 32) (hl : h.length = 32) :
    (Instr.loadAt ty (.pointer (some ⟨g, 2, none⟩))).run P W = .ok (.agg (bv h).toArray) W := by
  refine run_loadAt_agg W ⟨g, 2, none⟩ ty (bv h) d (fun j u hu' => ?_) hu hd (by rw [hi, bv_length, hl])
  rw [Addr.add_lit, hb.cell]
  rw [← hh, List.getElem?_take] at hu'
  split at hu'
  · rw [List.getElem?_drop] at hu'
    simpa using hu'
  · cases hu'
theorem rd_hash {W : World} {g : Nat} {t : TypeId} {cs : Array Value} {h : List UInt8} (hb : Blk W g t cs) (hh : (cs.toList.drop 2).take 32 = bv h) (hl : h.length = 32) : Rd W 1 (.slice (some ⟨g, 2, none⟩) 32 32) 32 (bv h) :=
  ⟨by rw [bv_length, hl], _, 32, rfl, Nat.le_refl _, by simp [maxLen], (fun h => by cases h), (fun ad had j u hu' => by
    cases had
    rw [Addr.add_lit, hb.cell]
    rw [← hh, List.getElem?_take] at hu'
    split at hu'
    · rw [List.getElem?_drop] at hu'
      simpa using hu'
    · cases hu')⟩

theorem Tryd.infoHash : (Tryd.prog.info? 23).map (·.size) = some 32 := by kernel_rfl
end Go.Proofs.YtolfckhjfadhdaaDoor
/- 'puts', the kinds that lend. -/
namespace Go.Proofs.YtolfckhjfadhdaaDoor
open Go.RowKit

/-- What was lent reads as what was lent. -/
theorem rd_lent {w : World} {e : TypeId} {g c n : Nat} {bs : List UInt8} (h : Ow w e 1 (.slice (some ⟨g, 0, none⟩) (n + 2) c) (n + 2) (bv (bs ++ [165, 166]))) (hl : bs.length = n) : Ow w e 1 (.slice (some ⟨g, 0, none⟩) n c) n (bv bs) := by
  have h1 := ow_take h (m := n) (by omega) (by omega)
  rwa [bv_append, Nat.mul_one, List.take_append_of_le_length (by rw [bv_length, hl]; exact Nat.le_refl _), List.take_of_length_le (by rw [bv_length, hl]; exact Nat.le_refl _)] at h1

end Go.Proofs.YtolfckhjfadhdaaDoor
/- 'puts', all kinds; its loop. -/
namespace Go.Proofs.YtolfckhjfadhdaaDoor
open Go.RowKit

end Go.Proofs.YtolfckhjfadhdaaDoor
/- WireWrites: what comes in; what the call holds. -/
namespace Go.Proofs.YtolfckhjfadhdaaDoor
open Go.RowKit

/-- What the first i of them write. -/
def encs (ps : List PutD) (i : Nat) : List UInt8 := ((ps.take i).map PutD.enc).flatten
theorem encs_zero (ps : List PutD) : encs ps 0 = [] := by simp [encs]
theorem encs_succ (ps : List PutD) (i : Nat) (p : PutD) (h : ps[i]? = some p) : encs ps (i + 1) = encs ps i ++ p.enc := by
  unfold encs
  rw [List.take_add_one, h]
  simp
theorem encs_over (ps : List PutD) (i : Nat) (h : ps.length ≤ i) : encs ps (i + 1) = encs ps i := by
  unfold encs
  rw [List.take_of_length_le h, List.take_of_length_le (by omega)]

/-- Element i of a slice of Puts. -/
structure PutAt (w : World) (ad : Addr) (i : Nat) (p : PutD) (cs : Array Value) (B : Value) : Prop where
  c : PutC cs p B
  at_ : ∀ j u, cs.toList[j]? = some u → w.cell? ((ad.add (i * 36)).add j) = some u
  b : Rd w 1 B p.b.length (bv p.b)
/-- A slice of Puts. -/
structure PutsIn (w : World) (v : Value) (ps : List PutD) : Prop where
  form : ∃ A c, v = .slice A ps.length c ∧ ps.length ≤ c ∧ c ≤ maxLen ∧ (A = none → ps = []) ∧ ∀ ad, A = some ad → ∀ i p, ps[i]? = some p → ∃ cs B, PutAt w ad i p cs B
theorem cell_old {w w' : World} {p : Addr} {u : Value} (h : w.cell? p = some u) (hk : Kp [] w w') : w'.cell? p = some u := by
  have hlt : p.block < w.heap.size := by
    rcases Nat.lt_or_ge p.block w.heap.size with h' | h'
    · exact h'
    · simp [World.cell?, Array.getElem?_eq_none h'] at h
  rw [World.cell?_of_block (hk.block p.block hlt (by simp))]; exact h
theorem PutAt.old {w w' : World} {ad : Addr} {i : Nat} {p : PutD} {cs : Array Value} {B : Value} (h : PutAt w ad i p cs B) (hk : Kp [] w w') : PutAt w' ad i p cs B :=
  ⟨h.c, fun j u hu => cell_old (h.at_ j u hu) hk, rd_old h.b hk⟩
theorem PutAt.lt {w : World} {ad : Addr} {i : Nat} {p : PutD} {cs : Array Value} {B : Value} (h : PutAt w ad i p cs B) : ∀ g, B.ownBlock = some g → p.b ≠ [] → g < w.heap.size := by
  intro g hg hne
  obtain ⟨_, A, c, h2, _, _, h5, h6⟩ := h.b
  rw [h2] at hg
  cases A with
  | none => simp [Value.ownBlock] at hg
  | some ad =>
    simp [Value.ownBlock] at hg
    obtain ⟨x, xs, hx⟩ := List.exists_cons_of_ne_nil hne
    have h := h6 ad rfl 0 (.int .u8 x.toNat) (by rw [hx]; rfl)
    rcases Nat.lt_or_ge g w.heap.size with h' | h'
    · exact h'
    · exfalso
      have hb : (ad.add 0).block = g := by rw [← hg]; rfl
      simp [World.cell?, hb, Array.getElem?_eq_none h'] at h

def sel {α : Type} (k : Nat) (x y : α) : α := if k = 0 then x else y

theorem sel_in {w : World} {A B : Option Addr} {ca cb : Nat} {ps qs : List PutD} (ha : PutsIn w (.slice A ps.length ca) ps) (hb : PutsIn w (.slice B qs.length cb) qs) (k : Nat) :
    ∃ Ar cr, sel k (Value.slice A ps.length ca) (Value.slice B qs.length cb) = .slice Ar (sel k ps qs).length cr ∧ PutsIn w (.slice Ar (sel k ps qs).length cr) (sel k ps qs) := by
  unfold sel
  split
  · exact ⟨A, ca, rfl, ha⟩
  · exact ⟨B, cb, rfl, hb⟩
theorem sel_encs (ps qs : List PutD) (i k : Nat) (hk : k < 2) : sel k (encs ps (if 0 < k then i + 1 else i)) (encs qs (if 1 < k then i + 1 else i)) = encs (sel k ps qs) i := by
  have : k = 0 ∨ k = 1 := by omega
  rcases this with rfl | rfl <;> simp [sel]
theorem sel_cell {α : Type} (x y : α) (k : Nat) (hk : k < 2) : (#[x, y])[k]? = some (sel k x y) := by
  have : k = 0 ∨ k = 1 := by omega
  rcases this with rfl | rfl <;> rfl
theorem sel_ind {α : Type} (P : α → Prop) {x y : α} (k : Nat) (hx : P x) (hy : P y) : P (sel k x y) := by unfold sel; split <;> assumption
theorem Held.old_ne {w0 w : World} {l1 l2 : List Res} {q : Nat} {u : Value} {bs : List UInt8} (S : Held w0 w (l1 ++ wrR q u bs :: l2)) {g : Nat} (h : g < w0.heap.size) : g ∉ q :: u.ownBlock.toList := fun hm => by
  have := S.base (wrR q u bs) (by simp) g hm
  omega
theorem same_true (x y : Value) (a : List UInt8) (n m : Nat) (w : World) (hx : Rd w 1 x n (bv a)) (hy : Rd w 1 y m (bv a)) :
    Calls Tryd.prog 24 #[x, y] w fun e w' => e = .returned (.bool true) ∧ w = w' := by
  have h := same_any x y a a n m w hx hy
  rwa [beq_self_eq_true] at h
end Go.Proofs.YtolfckhjfadhdaaDoor
/- WireReads: the reference's reader. -/
namespace Go.Proofs.YtolfckhjfadhdaaDoor
open Go.RowKit

/-- The reference's reader: its block d, the bytes' slice x, the place, the bytes. -/
structure Dr (w : World) (d : Nat) (x : Value) (a : Nat) (bs : List UInt8) : Prop where
  blk : Blk w d 99 #[x, .int .i64 a]
  rd : Rd w 1 x bs.length (bv bs)
  le : a ≤ bs.length
  len : bs.length ≤ 140737488355328
  ne : bs ≠ [] → x.ownBlock ≠ some d
theorem Dr.kp {w w' : World} {S : List Nat} {d a : Nat} {x : Value} {bs : List UInt8} (h : Dr w d x a bs) (hk : Kp S w w') (hd : d ∉ S) (hx : ∀ g, x.ownBlock = some g → bs ≠ [] → g ∉ S) : Dr w' d x a bs :=
  ⟨h.blk.kp hk hd, h.rd.kpl hk (fun g hg hne => hx g hg (bv_ne hne)), h.le, h.len, h.ne⟩
theorem Dr.kp0 {w w' : World} {d a : Nat} {x : Value} {bs : List UInt8} (h : Dr w d x a bs) (hk : Kp [] w w') : Dr w' d x a bs := h.kp hk (by simp) (fun _ _ _ => by simp)
theorem Dr.moved {w w' : World} {d a b : Nat} {x : Value} {bs : List UInt8} (h : Dr w d x a bs) (hk : Kp [d] w w') (hb : Blk w' d 99 #[x, .int .i64 b]) (hle : b ≤ bs.length) : Dr w' d x b bs :=
  ⟨hb, h.rd.kpl hk (fun g hg hne hm => by simp at hm; subst hm; exact h.ne (bv_ne hne) hg), hle, h.len, h.ne⟩
theorem Dr.set {w : World} {d a b : Nat} {x : Value} {bs : List UInt8} (h : Dr w d x a bs) (hle : b ≤ bs.length) : Dr (w.setCell ⟨d, 1, none⟩ (.int .i64 b)) d x b bs ∧ Kp [d] w (w.setCell ⟨d, 1, none⟩ (.int .i64 b)) := by
  have k : Kp [d] w (w.setCell ⟨d, 1, none⟩ (.int .i64 b)) := (Kp.refl [d] w).setCell (.inl (by simp)) _
  exact ⟨h.moved k (by simpa using h.blk.set_ 1 (.int .i64 b)) hle, k⟩

set_option maxHeartbeats 400000 in
theorem d_left (d : Nat) (x : Value) (a : Nat) (bs : List UInt8) (w : World) (h : Dr w d x a bs) :
    Calls Tryd.prog 71 #[.pointer (some ⟨d, 0, none⟩)] w fun e w' => e = .returned (.int .i64 ((bs.length : Int) - a)) ∧ ∃ n, w' = w.drewN n := by
  have hc0 := h.blk.cell 0
  have hc1 := h.blk.cell 1
  obtain ⟨A, c, rfl⟩ := rd_form h.rd
  simp at hc0 hc1
  have hle := h.le
  have hlen := h.len
  go_enter Tryd.func71, Tryd.ntmps71
  go_wp2
  go_quiet (fail)
  go_wp2
  go_ret
  exact ⟨rfl, _, rfl⟩

set_option maxHeartbeats 400000 in
theorem d_number_end (d : Nat) (x : Value) (a : Nat) (bs : List UInt8) (k : Int) (hk : (bs.length : Int) - a < k) (w : World) (h : Dr w d x a bs) :
    Calls Tryd.prog 53 #[.pointer (some ⟨d, 0, none⟩), .int .i64 k] w fun e w' => e = .returned (.tuple #[.int .u64 0, .int .i64 110]) ∧ Kp [] w w' := by
  go_enter Tryd.func53, Tryd.ntmps53
  go_wp2_with (go_at_call 71; refine (d_left d x a bs w h).mono ?_; rintro e w' ⟨rfl, nq, rfl⟩)
  go_ret2
  exact ⟨rfl, Kp.drew' nq⟩

set_option maxHeartbeats 800000 in
theorem d_number (d : Nat) (x : Value) (a : Nat) (bs : List UInt8) (k : Nat) (hk8 : k ≤ 8) (hk : a + k ≤ bs.length) (w : World) (h : Dr w d x a bs) :
    Calls Tryd.prog 53 #[.pointer (some ⟨d, 0, none⟩), .int .i64 k] w fun e w' => e = .returned (.tuple #[.int .u64 (num ((bs.drop a).take k)), .int .i64 0]) ∧ Dr w' d x (a + k) bs ∧ Kp [d] w w' := by
  have hc0 := h.blk.cell 0
  have hc1 := h.blk.cell 1
  obtain ⟨A, c, rfl⟩ := rd_form h.rd
  simp at hc0 hc1
  have hle := h.le
  have hlen := h.len
  have hkl : ¬ ((bs.length : Int) - a < k) := by omega
  have hf1 := h.blk.frozen 1
  have hdl := h.blk.lt
  obtain ⟨hrl, A', c', hv, hr1, hr2, hr3, hr4⟩ := h.rd
  cases hv
  have Hst := Lib.hid (fun q : Nat => (show Dr (w.drewN q) d _ a bs from ⟨h.blk, h.rd, h.le, h.len, h.ne⟩).set hk)
  have Hr := Lib.hid (And.intro hr3 hr4)
  clear hr1 hr2 hr3 hr4 hrl
  go_enter Tryd.func53, Tryd.ntmps53
  go_wp2_with (go_at_call 71; refine (d_left d _ a bs w h).mono ?_; rintro e w' ⟨rfl, nq, rfl⟩)
  go_loopw [6, 7] (fun n t wr => ∃ j : Nat, j ≤ k ∧ t = .int .i64 j ∧ n = .int .u64 (num ((bs.drop a).take j)) ∧ ∃ q, wr = w.drewN q) (fun _ t _ => k - (intOf t).toNat)
  case atStart => exact ⟨0, Nat.zero_le _, rfl, rfl, nq, rfl⟩
  case round =>
    obtain ⟨j, hj, rfl, rfl, qq, rfl⟩ := hrel
    by_cases hlt : j < k
    · obtain ⟨ad, rfl⟩ : ∃ ad, A = some ad := by
        cases A with
        | none => have := (Hr.out.1 rfl).1; omega
        | some ad => exact ⟨ad, rfl⟩
      have hdl2 : j < (bs.drop a).length := by rw [List.length_drop]; omega
      obtain ⟨q, n, hq, hn, hcell, hnext, hnow⟩ : ∃ q n : Nat, q < 256 ∧ n < 72057594037927936 ∧ w.cell? (ad.add (a + j)) = some (.int .u8 (q : Int)) ∧ num ((bs.drop a).take (j + 1)) = 256 * n + q ∧ num ((bs.drop a).take j) = n := by
        refine ⟨(bs.drop a)[j].toNat, num ((bs.drop a).take j), (bs.drop a)[j].toNat_lt, ?_, Hr.out.2 ad rfl (a + j) _ (by rw [bv_get, ← List.getElem?_drop, List.getElem?_eq_getElem hdl2]; rfl), num_take (bs.drop a) j hdl2, rfl⟩
        have h1 := num_lt ((bs.drop a).take j)
        rw [List.length_take, Nat.min_eq_left (by omega)] at h1
        have : 256 ^ j ≤ 256 ^ 7 := Nat.pow_le_pow_right (by omega) (by omega)
        omega
      rw [hnow]
      have Hnext := Lib.hid hnext
      clear hnext hnow
      have hidx : ((a : Int) + (j : Int)).toNat = a + j := by omega
      go_wp2
      go_quiet (fail)
      go_wp2
      go_roundw
      case rel => exact ⟨j + 1, by omega, by go_num, by rw [Hnext.out]; simp, _, rfl⟩
      case measure => simp [intOf]; omega
    · obtain rfl : j = k := by omega
      go_wp2
      go_ret2
      obtain ⟨g1, g2⟩ := Hst.out qq
      rw [Int.natCast_add] at g1 g2
      exact ⟨rfl, g1, ((Kp.refl [d] w).drewN qq).trans g2 (fun g hg => .inl hg)⟩

set_option maxHeartbeats 400000 in
theorem r_signed (p : Nat) (v : Value) (a : Nat) (bs : List UInt8) (hk : a + 8 ≤ bs.length) (w : World) (h : Rr w p v a bs) :
    Calls Tryd.prog 50 #[.pointer (some ⟨p, 0, none⟩)] w fun e w' => e = .returned (.tuple #[.int .i64 (wrap64 (num ((bs.drop a).take 8))), .int .i64 0]) ∧ Kp [p] w w' ∧ Rr w' p v (a + 8) bs := by
  go_enter Tryd.func50, Tryd.ntmps50
  go_wp2_with (go_at_call 69; refine (take_u64 p v a bs w h hk).mono ?_; rintro e w' ⟨rfl, k1, h1⟩)
  go_ret2
  exact ⟨rfl, k1, h1⟩
set_option maxHeartbeats 400000 in
theorem r_signed_end (p : Nat) (v : Value) (a : Nat) (bs : List UInt8) (hk : bs.length < a + 8) (w : World) (h : Rr w p v a bs) :
    Calls Tryd.prog 50 #[.pointer (some ⟨p, 0, none⟩)] w fun e w' => e = .returned (.tuple #[.int .i64 0, .int .i64 110]) ∧ Kp [] w w' := by
  go_enter Tryd.func50, Tryd.ntmps50
  go_wp2_with (go_at_call 69; refine (take_u64_end p v a bs w h hk).mono ?_; rintro e w' ⟨rfl, k1⟩)
  go_ret2
  exact ⟨rfl, k1⟩
end Go.Proofs.YtolfckhjfadhdaaDoor
/- WireReads: Raw, List. -/
namespace Go.Proofs.YtolfckhjfadhdaaDoor
open Go.RowKit

theorem eg_raw_in : ∀ args w, (callFunc 68 args).run Tryd.prog w = .ok (.enter 68 args) w := fun _ _ => by kernel_rfl
set_option maxRecDepth 100000 in
set_option maxHeartbeats 800000 in
theorem raw_in (g : Nat) (x0 x : Value) (k : Nat) (bs : List UInt8) (w : World) (hx : Rd w 1 x k (bv bs)) (hk : k ≤ 140737488355328) (hg : Blk w g 45 #[x0]) :
    Calls Tryd.prog 68 #[x, .pointer (some ⟨g, 0, none⟩)] w fun e w' => e = .returned (.int .i64 0) ∧ ∃ v, Ow w' 5 1 v k (bv bs) ∧ Blk w' g 45 #[v] ∧ Kp [g] w w' ∧ ∀ b, v.ownBlock = some b → w.heap.size ≤ b := by
  go_enter Tryd.func68, Tryd.ntmps68
  go_wp2_with fail
  refine (clone_any x bs k w hx hk).mono ?_
  rintro e w1 ⟨v1, rfl, o1, k1, f1⟩
  have hg1 := hg.kp k1 (by simp)
  have hc1 := hg1.cell 0
  have hz1 := hg1.frozen 0
  have hl1 := hg1.lt
  simp at hc1
  obtain ⟨A1, c1, rfl, _, _⟩ := ow_form o1
  have Hg1 := Lib.hid hg1
  clear hg1
  go_wp2
  go_ret
  refine ⟨rfl, _, ow_kp o1 ((Kp.refl [g] _).setCell (.inl (by simp)) _) (fun b hb hm => ?_), by simpa using Hg1.out.set_ 0 _, (k1.more (by simp)).setCell (.inl (by simp)) _, f1⟩
  have h1 := f1 b hb
  have h2 := hg.lt
  simp at hm
  omega

set_option maxRecDepth 100000 in
set_option maxHeartbeats 800000 in
theorem r_raw (p : Nat) (v : Value) (a : Nat) (bs : List UInt8) (k : Nat) (w : World) (h : Rr w p v a bs) (hk : a + k ≤ bs.length) :
    Calls Tryd.prog 49 #[.pointer (some ⟨p, 0, none⟩), .int .i64 k] w fun e w' => ∃ u, e = .returned (.tuple #[u, .int .i64 0]) ∧ Ow w' 5 1 u k (bv ((bs.drop a).take k)) ∧ Kp [p] w w' ∧ Rr w' p v (a + k) bs ∧ ∀ b, u.ownBlock = some b → w.heap.size ≤ b := by
  have hp := h.blk.lt
  have hlen := h.len
  have hnext : Calls Tryd.prog 67 #[.pointer (some ⟨p, 0, none⟩), .int .i64 k, .func (.func 68) #[] #[.pointer (some ⟨w.heap.size, 0, none⟩)]] (w.alloc (.cells #[.slice none 0 0] 45))
      fun e w' => e = .returned (.int .i64 0) ∧ ∃ u, w'.cell? ⟨w.heap.size, 0, none⟩ = some u ∧ Ow w' 5 1 u k (bv ((bs.drop a).take k)) ∧ Kp [p] w w' ∧ Rr w' p v (a + k) bs ∧ ∀ b, u.ownBlock = some b → w.heap.size ≤ b :=
    next_ok p v a bs k hk _ _ _ (h.alloc _) _ eg_raw_in (fun A c W hkp hr hrd => by
      have hb : Blk W w.heap.size 45 #[.slice none 0 0] := (Blk.new w _ _).kp hkp (by simp; omega)
      have k1 : Kp [p] w W := ((Kp.refl [p] w).alloc _).trans hkp (fun g hg => .inl hg)
      refine (raw_in w.heap.size _ _ k _ W hrd (by omega) hb).mono ?_
      rintro e w' ⟨rfl, u, hu, hb', hkk, hf⟩
      refine ⟨rfl, u, by simpa using hb'.cell 0, hu, k1.trans hkk (fun g hg => .inr (by simp at hg; omega)), hr.kp hkk (by simp; omega) (fun g hg hm => by simp at hm; subst hm; have := h.vlt _ hg; omega), fun b hb => ?_⟩
      have := hf b hb
      have := k1.size
      omega)
  have Hn := Lib.hid hnext
  clear hnext
  generalize (bs.drop a).take k = cs at *
  go_enter Tryd.func49, Tryd.ntmps49
  go_wp2_with (first
    | (go_at_call 67; refine Hn.out.mono ?_; rintro e w' ⟨rfl, u, hc, hu, hkp, hr, hf⟩; obtain ⟨A1, c1, rfl, _, _⟩ := ow_form hu))
  go_ret2
  exact ⟨_, rfl, hu, hkp, hr, hf⟩

set_option maxRecDepth 100000 in
set_option maxHeartbeats 800000 in
theorem r_raw_end (p : Nat) (v : Value) (a : Nat) (bs : List UInt8) (k : Int) (w : World) (h : Rr w p v a bs) (hk : (bs.length : Int) - a < k) :
    Calls Tryd.prog 49 #[.pointer (some ⟨p, 0, none⟩), .int .i64 k] w fun e w' => e = .returned (.tuple #[.slice none 0 0, .int .i64 110]) ∧ Kp [] w w' := by
  have hn := next_end p v a bs k hk (.func (.func 68) #[] #[.pointer (some ⟨w.heap.size, 0, none⟩)]) _ (h.alloc (.cells #[.slice none 0 0] 45))
  have Hn := Lib.hid hn
  have hk0 : ¬ k < 0 := by have := h.le; omega
  clear hn
  go_enter Tryd.func49, Tryd.ntmps49
  go_wp2_with (first
    | (go_at_call 67; refine Hn.out.mono ?_; rintro e w' ⟨rfl, nq, rfl⟩; have hc : ((w.alloc (.cells #[.slice none 0 0] 45)).drewN nq).cell? ⟨w.heap.size, 0, none⟩ = some (.slice none 0 0) := by simp))
  go_ret2
  exact ⟨rfl, ((Kp.refl [] w).alloc _).drewN _⟩

set_option maxHeartbeats 800000 in
theorem r_raw_arg (p : Nat) (k : Int) (w : World) (hk : k < 0) :
    Calls Tryd.prog 49 #[.pointer (some ⟨p, 0, none⟩), .int .i64 k] w fun e w' => e = .returned (.tuple #[.slice none 0 0, .int .i64 2]) ∧ w = w' := by
  go_enter Tryd.func49, Tryd.ntmps49
  go_wp2
  go_ret2
  exact ⟨rfl, rfl⟩

end Go.Proofs.YtolfckhjfadhdaaDoor
/- WireReads: the reference's Raw; List. -/
namespace Go.Proofs.YtolfckhjfadhdaaDoor
open Go.RowKit

end Go.Proofs.YtolfckhjfadhdaaDoor
/- WireReads: List. -/
namespace Go.Proofs.YtolfckhjfadhdaaDoor
open Go.RowKit

theorem r_leftn (p : Nat) (v : Value) (a : Nat) (bs : List UInt8) (m : Nat) (hm : bs.length = a + m) (w : World) (h : Rr w p v a bs) :
    Calls Tryd.prog 86 #[.pointer (some ⟨p, 0, none⟩)] w fun e w' => e = .returned (.int .i64 m) ∧ ∃ n, w' = w.drewN n := by
  have := r_left p v a bs w h
  rwa [show (bs.length : Int) - a = m by omega] at this

end Go.Proofs.YtolfckhjfadhdaaDoor
/- WireReads: the reader's List. -/
namespace Go.Proofs.YtolfckhjfadhdaaDoor
open Go.RowKit

/-- The three blocks that List makes. -/
def listW (w : World) (p most : Nat) : World := ((w.alloc (.cells #[.pointer (some ⟨p, 0, none⟩)] 91)).alloc (.cells #[.int .i64 most] 3)).alloc (.cells #[.slice none 0 0] 45)
theorem listW_kp (w : World) (p most : Nat) : Kp [] w (listW w p most) := (((Kp.refl [] w).alloc _).alloc _).alloc _
theorem listW_size (w : World) (p most : Nat) : (listW w p most).heap.size = w.heap.size + 1 + 1 + 1 := by simp [listW]
theorem listW_blks (w : World) (p most : Nat) : Blk (listW w p most) w.heap.size 91 #[.pointer (some ⟨p, 0, none⟩)] ∧ Blk (listW w p most) (w.heap.size + 1) 3 #[.int .i64 most] ∧ Blk (listW w p most) (w.heap.size + 1 + 1) 45 #[.slice none 0 0] := by
  refine ⟨((Blk.new w _ _).alloc _).alloc _, ?_, ?_⟩
  · have := Blk.new (w.alloc (.cells #[.pointer (some ⟨p, 0, none⟩)] 91)) 3 #[.int .i64 most]
    rw [World.size_alloc] at this
    exact this.alloc _
  · have := Blk.new ((w.alloc (.cells #[.pointer (some ⟨p, 0, none⟩)] 91)).alloc (.cells #[.int .i64 most] 3)) 45 #[.slice none 0 0]
    rwa [World.size_alloc, World.size_alloc] at this

end Go.Proofs.YtolfckhjfadhdaaDoor
/- WireReads: the reference's List. -/
namespace Go.Proofs.YtolfckhjfadhdaaDoor
open Go.RowKit

theorem d_leftn (d : Nat) (x : Value) (a : Nat) (bs : List UInt8) (m : Nat) (hm : bs.length = a + m) (w : World) (h : Dr w d x a bs) :
    Calls Tryd.prog 71 #[.pointer (some ⟨d, 0, none⟩)] w fun e w' => e = .returned (.int .i64 m) ∧ ∃ n, w' = w.drewN n := by
  have := d_left d x a bs w h
  rwa [show (bs.length : Int) - a = m by omega] at this
theorem Dr.drewN {w : World} {d a : Nat} {x : Value} {bs : List UInt8} (h : Dr w d x a bs) (n : Nat) : Dr (w.drewN n) d x a bs := ⟨h.blk, h.rd, h.le, h.len, h.ne⟩

end Go.Proofs.YtolfckhjfadhdaaDoor
/- WireReads: Hash. -/
namespace Go.Proofs.YtolfckhjfadhdaaDoor
open Go.RowKit

theorem eg_hash_in : ∀ args w, (callFunc 70 args).run Tryd.prog w = .ok (.enter 70 args) w := fun _ _ => by kernel_rfl
set_option maxRecDepth 100000 in
set_option maxHeartbeats 800000 in
theorem hash_in (g : Nat) (x : Value) (cs : List UInt8) (hl : cs.length = 32) (cur : Array Value) (hcur : cur.size = 32) (w : World) (hx : Rd w 1 x 32 (bv cs)) (hg : Blk w g 23 cur) :
    Calls Tryd.prog 70 #[x, .pointer (some ⟨g, 0, none⟩)] w fun e w' => e = .returned (.int .i64 0) ∧ Blk w' g 23 (bv cs).toArray ∧ Kp [g] w w' := by
  obtain ⟨hrl, A, c, rfl, hc1, hc2, hA, hcells⟩ := hx
  obtain ⟨ad, rfl⟩ : ∃ ad, A = some ad := by
    cases A with
    | none => have := (hA rfl).1; omega
    | some ad => exact ⟨ad, rfl⟩
  have hcs := hcells ad rfl
  have Hcs := Lib.hid hcs
  have Hl := Lib.hid hl
  have Hcur := Lib.hid hcur
  clear hcells hcs hl hcur hA hrl
  have hat : ∀ w, (Instr.arrayAt 23 (.slice (some ad) 32 c)).run Tryd.prog w = .ok (.pointer (some ad)) w := fun w => run_arrayAt w 23 _ 32 _ 32 c Tryd.underlying23 (Nat.le_refl _)
  go_enter Tryd.func70, Tryd.ntmps70
  go_wp2_with (first
    | (refine wpList_load_agg rfl 23 (.tmp 5) rfl ad rfl (bv cs) _ Hcs.out Tryd.underlying23 rfl (by rw [Tryd.infoHash, bv_length, Hl.out]) ?_)
    | (refine wpList_store_agg rfl 23 (.tmp 1) (.tmp 6) rfl g 0 rfl (bv cs).toArray rfl 23 cur hg (by rw [Tryd.infoHash, List.size_toArray, bv_length, Hl.out]) (by rw [Hcur.out, List.size_toArray, bv_length, Hl.out]; decide) (by simpa using bv_one cs) ?_; intro w1 b1 k1))
  go_ret
  refine ⟨rfl, ?_, k1⟩
  have e : ((cur.toList.take 0) ++ (bv cs).toArray.toList ++ cur.toList.drop (0 + (bv cs).toArray.size)).toArray = (bv cs).toArray := by
    rw [List.drop_eq_nil_of_le (by rw [Array.length_toList, Hcur.out, List.size_toArray, bv_length, Hl.out]; decide)]
    simp
  rw [e] at b1
  exact b1
end Go.Proofs.YtolfckhjfadhdaaDoor
/- WireReads: Hash, of both. -/
namespace Go.Proofs.YtolfckhjfadhdaaDoor
open Go.RowKit

/-- The two blocks that Hash makes. -/
def hashW (w : World) : World := (w.alloc (.cells (hashA (List.replicate 32 0)) 23)).alloc (.cells (hashA (List.replicate 32 0)) 23)
theorem hashW_kp (w : World) : Kp [] w (hashW w) := ((Kp.refl [] w).alloc _).alloc _
theorem hashW_blks (w : World) : Blk (hashW w) w.heap.size 23 (hashA (List.replicate 32 0)) ∧ Blk (hashW w) (w.heap.size + 1) 23 (hashA (List.replicate 32 0)) := by
  refine ⟨(Blk.new w _ _).alloc _, ?_⟩
  have := Blk.new (w.alloc (.cells (hashA (List.replicate 32 0)) 23)) 23 (hashA (List.replicate 32 0))
  rwa [World.size_alloc] at this
set_option maxRecDepth 100000 in
set_option maxHeartbeats 800000 in
theorem r_hash_end (p : Nat) (v : Value) (a : Nat) (bs : List UInt8) (hk : bs.length < a + 32) (w : World) (h : Rr w p v a bs) :
    Calls Tryd.prog 51 #[.pointer (some ⟨p, 0, none⟩)] w fun e w' => e = .returned (.tuple #[.agg (hashA (List.replicate 32 0)), .int .i64 110]) ∧ Kp [] w w' := by
  have hn := next_end p v a bs 32 (by omega) (.func (.func 70) #[] #[.pointer (some ⟨w.heap.size + 1, 0, none⟩)]) _ (h.kp' (hashW_kp w))
  have Hn := Lib.hid hn
  clear hn
  go_enter Tryd.func51, Tryd.ntmps51
  go_wp2_with fail
  refine Hn.out.mono ?_
  rintro e w1 ⟨rfl, n, rfl⟩
  obtain ⟨hb1, hb2⟩ := hashW_blks w
  have b1 := hb1.drewN n
  have b2 := hb2.drewN n
  have k1 := (hashW_kp w).drewN n
  generalize (hashW w).drewN n = w1 at *
  have Hc := Lib.hid b2.agg
  go_wp2_with (first
    | (refine wpList_load_agg rfl 23 (.tmp 4) rfl ⟨w.heap.size + 1, 0, none⟩ rfl (bv (List.replicate 32 0)) _ Hc.out Tryd.underlying23 rfl (by rw [Tryd.infoHash]; rfl) ?_)
    | (refine wpList_store_agg rfl 23 (.tmp 2) (.tmp 9) rfl w.heap.size 0 rfl (hashA (List.replicate 32 0)) rfl 23 _ b1 (by rw [Tryd.infoHash]; rfl) (by decide) (bv_one _) ?_; intro w2 c2 k2))
  have e2 := set_all (hashA (List.replicate 32 0)) (hashA (List.replicate 32 0)) rfl
  rw [e2] at c2
  exact bodyPost_ret (results_cell_tmp (by rfl) rfl c2 Tryd.underlying23 rfl (by rw [Tryd.infoHash]; rfl)) rfl ⟨rfl, k1.trans k2 (by simp)⟩

set_option maxRecDepth 100000 in
set_option maxHeartbeats 800000 in
theorem r_hash (p : Nat) (v : Value) (a : Nat) (bs : List UInt8) (hk : a + 32 ≤ bs.length) (w : World) (h : Rr w p v a bs) :
    Calls Tryd.prog 51 #[.pointer (some ⟨p, 0, none⟩)] w fun e w' => e = .returned (.tuple #[.agg (hashA ((bs.drop a).take 32)), .int .i64 0]) ∧ Kp [p] w w' ∧ Rr w' p v (a + 32) bs := by
  have hp := h.blk.lt
  have hvl := h.vlt
  have hcl : ((bs.drop a).take 32).length = 32 := by rw [List.length_take, List.length_drop]; omega
  have hnext : Calls Tryd.prog 67 #[.pointer (some ⟨p, 0, none⟩), .int .i64 32, .func (.func 70) #[] #[.pointer (some ⟨w.heap.size + 1, 0, none⟩)]] (hashW w)
      fun e w' => e = .returned (.int .i64 0) ∧ Blk w' w.heap.size 23 (hashA (List.replicate 32 0)) ∧ Blk w' (w.heap.size + 1) 23 (hashA ((bs.drop a).take 32)) ∧ Kp [p] w w' ∧ Rr w' p v (a + 32) bs :=
    next_ok p v a bs 32 hk _ _ _ (h.kp' (hashW_kp w)) _ eg_hash_in (fun A c W hkp hr hrd => by
      obtain ⟨b1, b2⟩ := hashW_blks w
      have k1 : Kp [p] w W := ((hashW_kp w).more (T := [p]) (by simp)).trans hkp (fun g hg => .inl hg)
      have c1 := b1.kp hkp (by simp; omega)
      refine (hash_in (w.heap.size + 1) _ ((bs.drop a).take 32) hcl _ (by simp [hashA_size]) W hrd (b2.kp hkp (by simp; omega))).mono ?_
      rintro e w' ⟨rfl, hb', hkk⟩
      exact ⟨rfl, c1.kp hkk (by simp), hb', k1.trans hkk (fun g hg => by simp at hg; right; omega), hr.kp hkk (by simp; omega) (fun g hg hm => by simp at hm; have := hvl g hg; omega)⟩)
  have Hn := Lib.hid hnext
  clear hnext
  have hz : (hashA ((bs.drop a).take 32)).size = 32 := by rw [hashA_size, hcl]
  have h1 : ∀ u ∈ (hashA ((bs.drop a).take 32)).toList, u.oneCell' = true := bv_one _
  generalize hashA ((bs.drop a).take 32) = ha at *
  have Hz := Lib.hid hz
  clear hz hcl hk
  go_enter Tryd.func51, Tryd.ntmps51
  go_wp2_with fail
  refine Hn.out.mono ?_
  rintro e w1 ⟨rfl, b1, b2, k1, hr⟩
  have Hc := Lib.hid b2.agg
  go_wp2_with (first
    | (refine wpList_load_agg rfl 23 (.tmp 4) rfl ⟨w.heap.size + 1, 0, none⟩ rfl ha.toList _ Hc.out Tryd.underlying23 rfl (by rw [Tryd.infoHash, Array.length_toList, Hz.out]) ?_)
    | (refine wpList_store_agg rfl 23 (.tmp 2) (.tmp 9) rfl w.heap.size 0 rfl ha rfl 23 _ b1 (by rw [Tryd.infoHash, Hz.out]) (by rw [Hz.out]; decide) h1 ?_; intro w2 c2 k2))
  have e2 := set_all (hashA (List.replicate 32 0)) ha (by rw [Hz.out]; rfl)
  rw [e2] at c2
  exact bodyPost_ret (results_cell_tmp (by rfl) rfl c2 Tryd.underlying23 rfl (by rw [Tryd.infoHash, Hz.out])) rfl ⟨rfl, k1.trans k2 (fun g hg => by simp at hg; right; omega), hr.kp k2 (by simp; omega) (fun g hg hm => by simp at hm; have := hvl g hg; omega)⟩
end Go.Proofs.YtolfckhjfadhdaaDoor
/- Batches and entries as bytes: the plain mathematics. -/
namespace Go.Proofs.YtolfckhjfadhdaaDoor
open Go.RowKit

def chk (f : Int) (L : List (List UInt8)) : Nat :=
  if f < 0 ∨ 4611686018427387904 < f ∨ 4611686018427387904 - f + 1 < (L.length : Int) then 4
  else if L.length = 0 then 2
  else if 1024 < L.length then 5
  else if L.any (fun e => decide (4096 < e.length)) then 3 else 0
def item (e : List UInt8) : List UInt8 := be 2 e.length ++ e
def items (L : List (List UInt8)) : List UInt8 := L.flatMap item
def formB (f : Int) (L : List (List UInt8)) : List UInt8 := be 8 (tou64 f) ++ be 2 L.length ++ items L
def outB (f : Int) (L : List (List UInt8)) : List UInt8 := if chk f L = 0 then formB f L else []
theorem item_length (e : List UInt8) : (item e).length = e.length + 2 := by simp [item]; omega
theorem items_nil : items [] = [] := rfl
theorem items_cons (e : List UInt8) (L : List (List UInt8)) : items (e :: L) = item e ++ items L := rfl
theorem items_append (L M : List (List UInt8)) : items (L ++ M) = items L ++ items M := by simp [items]
theorem items_take_succ {L : List (List UInt8)} {k : Nat} {e : List UInt8} (h : L[k]? = some e) : items (L.take (k + 1)) = items (L.take k) ++ item e := by
  rw [List.take_add_one, h, Option.toList_some, items_append]; simp [items]
theorem any_long_take_succ {L : List (List UInt8)} {k : Nat} {e : List UInt8} (h : L[k]? = some e) : (L.take (k + 1)).any (fun e => decide (4096 < e.length)) = ((L.take k).any (fun e => decide (4096 < e.length)) || decide (4096 < e.length)) := by
  rw [List.take_add_one, h, Option.toList_some, List.any_append]; simp
theorem any_long_of {L : List (List UInt8)} {k : Nat} {e : List UInt8} (h : L[k]? = some e) (hl : 4096 < e.length) : L.any (fun e => decide (4096 < e.length)) = true :=
  List.any_eq_true.2 ⟨e, List.mem_of_getElem? h, by simpa using hl⟩
theorem chk_zero {f : Int} {L : List (List UInt8)} (h : chk f L = 0) : 0 ≤ f ∧ f ≤ 4611686018427387904 ∧ (L.length : Int) ≤ 4611686018427387904 - f + 1 ∧ 0 < L.length ∧ L.length ≤ 1024 ∧ ∀ e ∈ L, e.length ≤ 4096 := by
  unfold chk at h
  split at h
  · cases h
  · split at h
    · cases h
    · split at h
      · cases h
      · split at h
        · cases h
        · rename_i h1 h2 h3 h4
          refine ⟨by omega, by omega, by omega, by omega, by omega, fun e he => ?_⟩
          have : ¬ 4096 < e.length := fun hl => h4 (List.any_eq_true.2 ⟨e, he, by simpa using hl⟩)
          omega
theorem chk_ok {f : Int} {L : List (List UInt8)} (h1 : 0 ≤ f) (h2 : f ≤ 4611686018427387904) (h3 : (L.length : Int) ≤ 4611686018427387904 - f + 1) (h4 : 0 < L.length) (h5 : L.length ≤ 1024) (h6 : ∀ e ∈ L, e.length ≤ 4096) : chk f L = 0 := by
  unfold chk
  rw [if_neg (by omega), if_neg (by omega), if_neg (by omega), if_neg]
  intro ha
  obtain ⟨e, he, hl⟩ := List.any_eq_true.1 ha
  have := h6 e he
  simp at hl
  omega
theorem items_length_le (L : List (List UInt8)) (h : ∀ e ∈ L, e.length ≤ 4096) : (items L).length ≤ 4098 * L.length := by
  induction L with
  | nil => simp [items]
  | cons e L ih =>
    rw [items_cons, List.length_append, item_length, List.length_cons]
    have h1 := h e (by simp)
    have h2 := ih (fun x hx => h x (by simp [hx]))
    omega
theorem formB_length (f : Int) (L : List (List UInt8)) : (formB f L).length = 10 + (items L).length := by unfold formB; simp [be_length]; omega

/-! ### one entry -/
def may (n : Int) (e : List UInt8) : Nat := if n < 0 ∨ 4611686018427387904 < n then 4 else if 4096 < e.length then 3 else 0
def formO (n : Int) (e : List UInt8) : List UInt8 := be 8 (tou64 n) ++ item e
def outO (n : Int) (e : List UInt8) : List UInt8 := if may n e = 0 then formO n e else []
theorem may_zero {n : Int} {e : List UInt8} (h : may n e = 0) : 0 ≤ n ∧ n ≤ 4611686018427387904 ∧ e.length ≤ 4096 := by
  unfold may at h
  split at h
  · cases h
  · split at h
    · cases h
    · omega
theorem may_ok {n : Int} {e : List UInt8} (h1 : 0 ≤ n) (h2 : n ≤ 4611686018427387904) (h3 : e.length ≤ 4096) : may n e = 0 := by
  unfold may; rw [if_neg (by omega), if_neg (by omega)]

/-! ### numbers as eight bytes -/
def sgn (b : List UInt8) : Int := wrap64 (num b)
theorem tou64_of_nonneg {f : Int} (h : 0 ≤ f) (h2 : f ≤ 9223372036854775807) : (tou64 f : Int) = f := by
  have := wrap_u64_nat f
  rw [← this]
  simp [IntKind.wrap, IntKind.bits, IntKind.signed]
  omega
theorem sgn_be {f : Int} (h1 : 0 ≤ f) (h2 : f ≤ 9223372036854775807) : sgn (be 8 (tou64 f)) = f := by
  have h := tou64_of_nonneg h1 h2
  unfold sgn
  rw [num_be_lt (tou64_lt f)]
  unfold wrap64
  rw [h]
  omega
theorem num_inj_len : ∀ (a b : List UInt8), a.length = b.length → num a = num b → a = b
  | [], [], _, _ => rfl
  | x :: a, y :: b, hl, h => by
    rw [num_cons, num_cons] at h
    simp only [List.length_cons, Nat.add_right_cancel_iff] at hl
    have ha := num_lt a
    have hb := num_lt b
    rw [hl] at h ha
    have hp : 0 < 256 ^ b.length := Nat.pow_pos (by decide)
    have hx : x.toNat = y.toNat := by
      have e1 : (x.toNat * 256 ^ b.length + num a) / 256 ^ b.length = x.toNat := by
        rw [Nat.mul_comm, Nat.mul_add_div hp, Nat.div_eq_of_lt ha, Nat.add_zero]
      have e2 : (y.toNat * 256 ^ b.length + num b) / 256 ^ b.length = y.toNat := by
        rw [Nat.mul_comm, Nat.mul_add_div hp, Nat.div_eq_of_lt hb, Nat.add_zero]
      rw [← e1, h, e2]
    rw [hx] at h
    have := UInt8.toNat_inj.1 hx
    subst this
    rw [num_inj_len a b hl (by omega)]
  | [], _ :: _, hl, _ => by simp at hl
  | _ :: _, [], hl, _ => by simp at hl
theorem be_num (k : Nat) (b : List UInt8) (h : b.length = k) : be k (num b) = b := by
  refine num_inj_len _ _ (by simp [h]) ?_
  rw [num_be_lt]
  rw [← h]
  exact num_lt b
theorem sgn_nonneg {b : List UInt8} (hb : b.length = 8) (h : 0 ≤ sgn b) : be 8 (tou64 (sgn b)) = b := by
  have hn := num_lt b
  rw [hb] at hn
  unfold sgn at h ⊢
  have h1 : (wrap64 (num b) : Int) = num b := by
    unfold wrap64 at h ⊢
    omega
  have h2 : (num b : Int) ≤ 9223372036854775807 := by
    rw [← h1]
    unfold wrap64
    omega
  rw [h1]
  have h3 := tou64_of_nonneg (f := (num b : Int)) (by omega) h2
  have h4 : tou64 (num b : Int) = num b := by omega
  rw [h4]
  exact be_num 8 b hb

/-! ### what bytes are -/
def stN (b : List UInt8) : Nat → Option (List (List UInt8) × Nat)
  | 0 => some ([], 10)
  | k + 1 => match stN b k with
    | none => none
    | some (L, at_) => if b.length < at_ + 2 then none else if b.length < at_ + 2 + num ((b.drop at_).take 2) then none else some (L ++ [(b.drop (at_ + 2)).take (num ((b.drop at_).take 2))], at_ + 2 + num ((b.drop at_).take 2))
theorem stN_none {b : List UInt8} {k : Nat} (h : stN b k = none) : ∀ d, stN b (k + d) = none
  | 0 => h
  | d + 1 => by rw [← Nat.add_assoc, stN, stN_none h d]
theorem stN_none_le {b : List UInt8} {k n : Nat} (h : stN b k = none) (hn : k ≤ n) : stN b n = none := by
  rw [show n = k + (n - k) by omega]; exact stN_none h _
theorem stN_succ {b : List UInt8} {k at_ : Nat} {L : List (List UInt8)} (h : stN b k = some (L, at_)) : stN b (k + 1) = if b.length < at_ + 2 then none else if b.length < at_ + 2 + num ((b.drop at_).take 2) then none else some (L ++ [(b.drop (at_ + 2)).take (num ((b.drop at_).take 2))], at_ + 2 + num ((b.drop at_).take 2)) := by
  rw [stN, h]
/-- What k rounds have found: the entries' form stands in the bytes. -/
theorem stN_form {b : List UInt8} (hb : 10 ≤ b.length) : ∀ (k at_ : Nat) (L : List (List UInt8)), stN b k = some (L, at_) → L.length = k ∧ 10 ≤ at_ ∧ at_ ≤ b.length ∧ (b.drop 10).take (at_ - 10) = items L
  | 0, at_, L, h => by
    simp only [stN, Option.some.injEq, Prod.mk.injEq] at h
    obtain ⟨rfl, rfl⟩ := h
    simp [items, hb]
  | k + 1, at_, L, h => by
    cases hk : stN b k with
    | none => rw [stN, hk] at h; cases h
    | some p =>
      obtain ⟨L', a'⟩ := p
      obtain ⟨h1, h2, h3, h4⟩ := stN_form hb k a' L' hk
      rw [stN_succ hk] at h
      split at h
      · cases h
      · split at h
        · cases h
        · rename_i q1 q2
          simp only [Option.some.injEq, Prod.mk.injEq] at h
          obtain ⟨rfl, rfl⟩ := h
          have hl2 : ((b.drop a').take 2).length = 2 := by rw [List.length_take, List.length_drop]; omega
          generalize hs : num ((b.drop a').take 2) = s at *
          refine ⟨by simp [h1], by omega, by omega, ?_⟩
          rw [items_append, show a' + 2 + s - 10 = (a' - 10) + (2 + s) by omega, List.take_add, h4]
          congr 1
          rw [List.drop_drop, show 10 + (a' - 10) = a' by omega, List.take_add, List.drop_drop]
          have hl3 : ((b.drop (a' + 2)).take s).length = s := by rw [List.length_take, List.length_drop]; omega
          simp only [items, List.flatMap_cons, List.flatMap_nil, List.append_nil, item, hl3]
          rw [← hs, be_num 2 _ hl2, hs]
theorem stN_mem {b : List UInt8} {e : List UInt8} : ∀ (d k at_ at' : Nat) (L L' : List (List UInt8)), stN b k = some (L, at_) → e ∈ L → stN b (k + d) = some (L', at') → e ∈ L'
  | 0, k, at_, at', L, L', h, he, h' => by
    rw [Nat.add_zero, h] at h'
    cases h'
    exact he
  | d + 1, k, at_, at', L, L', h, he, h' => by
    cases hk : stN b (k + d) with
    | none => rw [← Nat.add_assoc, stN, hk] at h'; cases h'
    | some p =>
      obtain ⟨L1, a1⟩ := p
      have ih := stN_mem d k at_ a1 L L1 h he hk
      rw [← Nat.add_assoc, stN_succ hk] at h'
      split at h'
      · cases h'
      · split at h'
        · cases h'
        · simp only [Option.some.injEq, Prod.mk.injEq] at h'
          obtain ⟨rfl, rfl⟩ := h'
          exact List.mem_append_left _ ih
def cntB (b : List UInt8) : Nat := num ((b.drop 8).take 2)
def readB (b : List UInt8) : Option (Int × List (List UInt8)) :=
  if b.length < 10 then none else
    match stN b (cntB b) with
    | none => none
    | some (L, at_) => if at_ = b.length ∧ chk (sgn (b.take 8)) L = 0 then some (sgn (b.take 8), L) else none
theorem readB_short {b : List UInt8} (h : b.length < 10) : readB b = none := if_pos h
theorem readB_stop {b : List UInt8} (h : 10 ≤ b.length) {k : Nat} (hk : k ≤ cntB b) (hs : stN b k = none) : readB b = none := by
  unfold readB
  rw [if_neg (by omega), stN_none_le hs hk]
theorem readB_end {b : List UInt8} (h : 10 ≤ b.length) {L : List (List UInt8)} {at_ : Nat} (hs : stN b (cntB b) = some (L, at_)) : readB b = if at_ = b.length ∧ chk (sgn (b.take 8)) L = 0 then some (sgn (b.take 8), L) else none := by
  unfold readB
  rw [if_neg (by omega), hs]
/-- An entry that is too long: no batch's bytes. -/
theorem readB_long {b : List UInt8} (h : 10 ≤ b.length) {k at_ : Nat} {L : List (List UInt8)} (hk : k < cntB b) (hs : stN b k = some (L, at_)) (hl : 4096 < num ((b.drop at_).take 2)) : readB b = none := by
  cases hn : stN b (k + 1) with
  | none => exact readB_stop h (show k + 1 ≤ cntB b by omega) hn
  | some p =>
    obtain ⟨L1, a1⟩ := p
    rw [stN_succ hs] at hn
    split at hn
    · cases hn
    · split at hn
      · cases hn
      · rename_i q1 q2
        simp only [Option.some.injEq, Prod.mk.injEq] at hn
        obtain ⟨h1, h2⟩ := hn
        cases he : stN b (cntB b) with
        | none => exact readB_stop h (Nat.le_refl _) he
        | some p =>
          obtain ⟨L2, a2⟩ := p
          rw [readB_end h he, if_neg]
          rintro ⟨_, hc⟩
          have hs1 : stN b (k + 1) = some (L1, a1) := by
            rw [stN_succ hs, if_neg q1, if_neg q2, h1, h2]
          have hm := stN_mem (cntB b - (k + 1)) (k + 1) a1 a2 L1 L2 hs1 (e := (b.drop (at_ + 2)).take (num ((b.drop at_).take 2))) (by rw [← h1]; simp) (by rw [show k + 1 + (cntB b - (k + 1)) = cntB b by omega]; exact he)
          have := (chk_zero hc).2.2.2.2.2 _ hm
          rw [List.length_take, List.length_drop] at this
          omega
/-- What is read is written as what was read. -/
theorem readB_form {b : List UInt8} {f : Int} {L : List (List UInt8)} (h : readB b = some (f, L)) : chk f L = 0 ∧ formB f L = b := by
  by_cases hs : b.length < 10
  · rw [readB_short hs] at h; cases h
  · cases hn : stN b (cntB b) with
    | none => rw [readB_stop (by omega) (Nat.le_refl _) hn] at h; cases h
    | some p =>
      obtain ⟨L', a'⟩ := p
      rw [readB_end (by omega) hn] at h
      split at h
      · rename_i hc
        simp only [Option.some.injEq, Prod.mk.injEq] at h
        obtain ⟨rfl, rfl⟩ := h
        refine ⟨hc.2, ?_⟩
        obtain ⟨h1, h2, h3, h4⟩ := stN_form (by omega) _ _ _ hn
        have hl8 : (b.take 8).length = 8 := by rw [List.length_take]; omega
        have hl2 : ((b.drop 8).take 2).length = 2 := by rw [List.length_take, List.length_drop]; omega
        unfold formB
        rw [← h4, h1, sgn_nonneg hl8 (chk_zero hc.2).1]
        unfold cntB
        rw [be_num 2 _ hl2, hc.1, List.append_assoc]
        rw [List.take_of_length_le (l := b.drop 10) (by rw [List.length_drop]; omega)]
        conv => rhs; rw [← List.take_append_drop 8 b]
        congr 1
        conv => rhs; rw [← List.take_append_drop 2 (b.drop 8)]
        rw [List.drop_drop]
      · cases h
theorem tou64_be_num {f : Int} : num (be 8 (tou64 f)) = tou64 f := num_be_lt (tou64_lt f)
/-- The rounds over a form. -/
theorem stN_of (hd : List UInt8) (hh : hd.length = 10) (M : List (List UInt8)) (r : List UInt8) (hM : ∀ e ∈ M, e.length ≤ 4096) : ∀ k, k ≤ M.length → stN (hd ++ items M ++ r) k = some (M.take k, 10 + (items (M.take k)).length)
  | 0, _ => by simp [stN, items]
  | k + 1, hk => by
    have hlt : k < M.length := hk
    have he : M[k]? = some M[k] := List.getElem?_eq_getElem hlt
    have hd1 : (hd ++ items M ++ r).drop (10 + (items (M.take k)).length) = item M[k] ++ (items (M.drop (k + 1)) ++ r) := by
      have h1 : items M = items (M.take k) ++ (item M[k] ++ items (M.drop (k + 1))) := by
        rw [← items_cons, ← List.drop_eq_getElem_cons hlt, ← items_append, List.take_append_drop]
      rw [h1, List.append_assoc, ← List.drop_drop, List.drop_append_of_le_length (by omega), List.drop_of_length_le (by omega : hd.length ≤ 10), List.nil_append, List.append_assoc, List.drop_left, List.append_assoc]
    have h2 : ((hd ++ items M ++ r).drop (10 + (items (M.take k)).length)).take 2 = be 2 M[k].length := by
      rw [hd1]
      unfold item
      rw [List.append_assoc, List.take_left' (by simp)]
    have hlen : (hd ++ items M ++ r).length = 10 + (items (M.take k)).length + (M[k].length + 2) + ((items (M.drop (k + 1))).length + r.length) := by
      have := congrArg List.length hd1
      simp only [List.length_drop, List.length_append, item_length] at this ⊢
      have h3 : 10 + (items (M.take k)).length ≤ hd.length + (items M).length + r.length := by
        have h1 : items M = items (M.take k) ++ items (M.drop k) := by rw [← items_append, List.take_append_drop]
        rw [h1]; simp only [List.length_append]; omega
      omega
    have hn : num (be 2 M[k].length) = M[k].length := num_be_lt (by have := hM M[k] (List.getElem_mem hlt); simp; omega)
    rw [stN_succ (stN_of hd hh M r hM k (by omega)), h2, hn, if_neg (by omega), if_neg (by omega)]
    have h4 : ((hd ++ items M ++ r).drop (10 + (items (M.take k)).length + 2)).take M[k].length = M[k] := by
      rw [← List.drop_drop, hd1]
      unfold item
      rw [List.append_assoc, List.drop_left' (by simp), List.take_left]
    rw [h4, items_take_succ he, List.take_add_one, he, Option.toList_some, List.length_append, item_length]
    congr 2
    omega
theorem formB_take8 (f : Int) (L : List (List UInt8)) (r : List UInt8) : (formB f L ++ r).take 8 = be 8 (tou64 f) := by
  unfold formB
  rw [List.append_assoc, List.append_assoc, List.take_left' (by simp)]
theorem formB_cnt (f : Int) (L : List (List UInt8)) (r : List UInt8) (h : L.length < 65536) : cntB (formB f L ++ r) = L.length := by
  unfold cntB formB
  rw [List.append_assoc, List.append_assoc, List.drop_left' (by simp), List.take_left' (by simp), num_be_lt (by simpa using h)]
theorem formB_st (f : Int) (L : List (List UInt8)) (r : List UInt8) (h : ∀ e ∈ L, e.length ≤ 4096) : stN (formB f L ++ r) L.length = some (L, (formB f L).length) := by
  have := stN_of (be 8 (tou64 f) ++ be 2 L.length) (by simp) L r h L.length (Nat.le_refl _)
  rw [List.take_length] at this
  rw [formB_length]
  exact this
/-- What is written is read. -/
theorem readB_of {f : Int} {L : List (List UInt8)} (h : chk f L = 0) : readB (formB f L) = some (f, L) := by
  obtain ⟨h1, h2, h3, h4, h5, h6⟩ := chk_zero h
  have hc := formB_cnt f L [] (by omega)
  have hs := formB_st f L [] h6
  have ht := formB_take8 f L []
  rw [List.append_nil] at hc hs ht
  rw [readB_end (by rw [formB_length]; omega) (by rw [hc]; exact hs), ht, sgn_be h1 (by omega), if_pos ⟨rfl, h⟩]
/-- With bytes behind it is none. -/
theorem readB_more {f : Int} {L : List (List UInt8)} (h : chk f L = 0) (r : List UInt8) (hr : r ≠ []) : readB (formB f L ++ r) = none := by
  obtain ⟨h1, h2, h3, h4, h5, h6⟩ := chk_zero h
  have hc := formB_cnt f L r (by omega)
  have hs := formB_st f L r h6
  have hl : 0 < r.length := List.length_pos_iff.2 hr
  rw [readB_end (by rw [List.length_append, formB_length]; omega) (by rw [hc]; exact hs), if_neg]
  rintro ⟨e, _⟩
  rw [List.length_append] at e
  omega
/-- Cut off anywhere, it is none. -/
theorem readB_cut {f : Int} {L : List (List UInt8)} (h : chk f L = 0) (k : Nat) (hk : k < (formB f L).length) : readB ((formB f L).take k) = none := by
  cases hr : readB ((formB f L).take k) with
  | none => rfl
  | some p =>
    obtain ⟨g, M⟩ := p
    obtain ⟨h1, h2⟩ := readB_form hr
    have h3 : formB f L = formB g M ++ (formB f L).drop k := by rw [h2, List.take_append_drop]
    have h4 := readB_more h1 ((formB f L).drop k) (fun e => by
      have := congrArg List.length e
      rw [List.length_drop] at this
      simp at this
      omega)
    rw [← h3, readB_of h] at h4
    cases h4
theorem formB_inj {f g : Int} {L M : List (List UInt8)} (h1 : chk f L = 0) (h2 : chk g M = 0) (h : formB f L = formB g M) : f = g ∧ L = M := by
  have e := readB_of h1
  rw [h, readB_of h2] at e
  simp only [Option.some.injEq, Prod.mk.injEq] at e
  exact ⟨e.1.symm, e.2.symm⟩

def takeO (b : List UInt8) : Option (Int × List UInt8) :=
  if b.length < 10 then none else
    if num ((b.drop 8).take 2) ≤ 4096 ∧ 10 + num ((b.drop 8).take 2) = b.length ∧ may (sgn (b.take 8)) (b.drop 10) = 0 then some (sgn (b.take 8), b.drop 10) else none
theorem formO_length (n : Int) (e : List UInt8) : (formO n e).length = 10 + e.length := by unfold formO; simp [item_length]; omega
theorem takeO_short {b : List UInt8} (h : b.length < 10) : takeO b = none := if_pos h
theorem takeO_def {b : List UInt8} (h : 10 ≤ b.length) : takeO b = if num ((b.drop 8).take 2) ≤ 4096 ∧ 10 + num ((b.drop 8).take 2) = b.length ∧ may (sgn (b.take 8)) (b.drop 10) = 0 then some (sgn (b.take 8), b.drop 10) else none := if_neg (by omega)
theorem formO_take8 (n : Int) (e : List UInt8) : (formO n e).take 8 = be 8 (tou64 n) := by unfold formO; rw [List.take_left' (by simp)]
theorem formO_len2 (n : Int) (e : List UInt8) (h : e.length < 65536) : num (((formO n e).drop 8).take 2) = e.length := by
  unfold formO item
  rw [List.drop_left' (by simp), List.take_left' (by simp), num_be_lt (by simpa using h)]
theorem formO_drop (n : Int) (e : List UInt8) : (formO n e).drop 10 = e := by
  unfold formO item
  rw [← List.append_assoc, List.drop_left' (by simp)]
theorem takeO_of {n : Int} {e : List UInt8} (h : may n e = 0) : takeO (formO n e) = some (n, e) := by
  obtain ⟨h1, h2, h3⟩ := may_zero h
  rw [takeO_def (by rw [formO_length]; omega), formO_take8, formO_len2 n e (by omega), formO_drop, sgn_be h1 (by omega), if_pos ⟨h3, (formO_length n e).symm, h⟩]
theorem takeO_form {b : List UInt8} {n : Int} {e : List UInt8} (h : takeO b = some (n, e)) : may n e = 0 ∧ formO n e = b := by
  by_cases hs : b.length < 10
  · rw [takeO_short hs] at h; cases h
  · rw [takeO_def (by omega)] at h
    split at h
    · rename_i hc
      simp only [Option.some.injEq, Prod.mk.injEq] at h
      obtain ⟨rfl, rfl⟩ := h
      refine ⟨hc.2.2, ?_⟩
      have hl8 : (b.take 8).length = 8 := by rw [List.length_take]; omega
      have hl2 : ((b.drop 8).take 2).length = 2 := by rw [List.length_take, List.length_drop]; omega
      unfold formO item
      rw [sgn_nonneg hl8 (may_zero hc.2.2).1]
      have : (b.drop 10).length = num ((b.drop 8).take 2) := by rw [List.length_drop]; omega
      rw [this, be_num 2 _ hl2]
      conv => rhs; rw [← List.take_append_drop 8 b]
      congr 1
      conv => rhs; rw [← List.take_append_drop 2 (b.drop 8)]
      rw [List.drop_drop]
    · cases h
/-- The definition's way: the bytes behind the tenth, with the number that stands ahead, are written as the bytes. -/
theorem takeO_by {b : List UInt8} (h : 10 ≤ b.length) : takeO b = if may (sgn (b.take 8)) (b.drop 10) = 0 ∧ formO (sgn (b.take 8)) (b.drop 10) = b then some (sgn (b.take 8), b.drop 10) else none := by
  by_cases hc : may (sgn (b.take 8)) (b.drop 10) = 0 ∧ formO (sgn (b.take 8)) (b.drop 10) = b
  · rw [if_pos hc]
    have := takeO_of hc.1
    rwa [hc.2] at this
  · rw [if_neg hc]
    cases ht : takeO b with
    | none => rfl
    | some p =>
      obtain ⟨n, e⟩ := p
      exfalso
      have hf := takeO_form ht
      rw [takeO_def h] at ht
      split at ht
      · simp only [Option.some.injEq, Prod.mk.injEq] at ht
        obtain ⟨rfl, rfl⟩ := ht
        exact hc hf
      · cases ht
end Go.Proofs.YtolfckhjfadhdaaDoor
/- Check of entry and of the reference. -/
namespace Go.Proofs.YtolfckhjfadhdaaDoor
open Go.RowKit
theorem chk_4 {f : Int} {L : List (List UInt8)} (h : f < 0 ∨ 4611686018427387904 < f ∨ 4611686018427387904 - f + 1 < (L.length : Int)) : chk f L = 4 := if_pos h
theorem chk_2 {f : Int} {L : List (List UInt8)} (h1 : 0 ≤ f) (h2 : f ≤ 4611686018427387904) (h4 : L.length = 0) : chk f L = 2 := by
  unfold chk; rw [if_neg (by omega), if_pos h4]
theorem chk_5 {f : Int} {L : List (List UInt8)} (h1 : 0 ≤ f) (h2 : f ≤ 4611686018427387904) (h3 : (L.length : Int) ≤ 4611686018427387904 - f + 1) (h5 : 1024 < L.length) : chk f L = 5 := by
  unfold chk; rw [if_neg (by omega), if_neg (by omega), if_pos h5]
theorem chk_3 {f : Int} {L : List (List UInt8)} (h1 : 0 ≤ f) (h2 : f ≤ 4611686018427387904) (h3 : (L.length : Int) ≤ 4611686018427387904 - f + 1) (h4 : ¬ L.length = 0) (h5 : ¬ 1024 < L.length) (h : L.any (fun e => decide (4096 < e.length)) = true) : chk f L = 3 := by
  unfold chk; rw [if_neg (by omega), if_neg (by omega), if_neg (by omega), if_pos h]
theorem chk_0 {f : Int} {L : List (List UInt8)} (h1 : 0 ≤ f) (h2 : f ≤ 4611686018427387904) (h3 : (L.length : Int) ≤ 4611686018427387904 - f + 1) (h4 : ¬ L.length = 0) (h5 : ¬ 1024 < L.length) (h : L.any (fun e => decide (4096 < e.length)) = false) : chk f L = 0 := by
  unfold chk; rw [if_neg (by omega), if_neg (by omega), if_neg (by omega), if_neg (by rw [h]; simp)]
theorem Txs.len_le {w : World} {v : Value} {L : List (List UInt8)} (h : Txs w v L) : L.length ≤ 9223372036854775807 := by
  obtain ⟨vs, ⟨_, A', c', _, h1, h2, _⟩, _⟩ := h
  unfold maxLen at h2
  omega
theorem Txs.at_ {w : World} {ad : Addr} {n c : Nat} {L : List (List UInt8)} (h : Txs w (.slice (some ad) n c) L) {k : Nat} (hk : k < L.length) : ∃ A c, w.cell? (ad.add k) = some (.slice A L[k].length c) ∧ Rd w 1 (.slice A L[k].length c) L[k].length (bv L[k]) := by
  obtain ⟨A', c', e, _, h2⟩ := h.open_
  cases e
  obtain ⟨u, h3, h4⟩ := h2 ad rfl k hk
  obtain ⟨A, c, rfl, _⟩ := rd_get2 h4
  exact ⟨A, c, h3, h4⟩
end Go.Proofs.YtolfckhjfadhdaaDoor
/- The reference's Put and One for layer 15. -/
namespace Go.Proofs.YtolfckhjfadhdaaDoor
open Go.RowKit
/-- A new row of bytes. -/
def NewB (bs : List UInt8) (w : World) (v : Value) (w' : World) : Prop := Ow w' 5 1 v bs.length (bv bs) ∧ Kp [] w w' ∧ ∀ g, v.ownBlock = some g → w.heap.size ≤ g
theorem NewB.rd {bs : List UInt8} {w w' : World} {v : Value} (h : NewB bs w v w') : Rd w' 1 v bs.length (bv bs) := Rd.of_own h.1
theorem NewB.nil (w w' : World) (h : Kp [] w w') : NewB [] w (.slice none 0 0) w' := ⟨World.ownsRow_nil _ _ _ _, h, by simp [Value.ownBlock]⟩
theorem NewB.base {bs : List UInt8} {w0 w w' : World} {v : Value} (k : Kp [] w0 w) (h : NewB bs w v w') : NewB bs w0 v w' := ⟨h.1, k.trans h.2.1 (by simp), fun g hg => Nat.le_trans k.size (h.2.2 g hg)⟩
theorem NewB.kp {bs : List UInt8} {w0 w w' : World} {v : Value} (h : NewB bs w0 v w) (k : Kp [] w w') : NewB bs w0 v w' := ⟨ow_kp h.1 k (by simp), h.2.1.trans k (by simp), h.2.2⟩
theorem NewB.form {bs : List UInt8} {w0 w : World} {v : Value} (h : NewB bs w0 v w) : ∃ A c, v = .slice A bs.length c := by obtain ⟨A, c, rfl, _⟩ := ow_form h.1; exact ⟨A, c, rfl⟩
/-- 'append(v, y...)' onto a new row. -/
theorem app_newB {ops : Array Oper} {rest : List Oper} {o : Oper} {a : Act} {w : World} {Q : Exit → Act → World → Prop} (hgd : o.guard = none) (s x : Operand)
    (ho : o.op = .call { callee := .builtin .append, args := #[s, x], argTypes := #[45, 45] })
    (v : Value) (xs : List UInt8) (hs : a.eval s = v) {w0 : World} (hown : NewB xs w0 v w)
    (y : Value) (ys : List UInt8) (hx : a.eval x = y) (hr : Rd w 1 y ys.length (bv ys)) (hb : xs.length + ys.length ≤ 140737488355328)
    (h : ∀ v' w', NewB (xs ++ ys) w0 v' w' → wpList Tryd.prog ops Q rest (a.put o.dst v') w') : wpList Tryd.prog ops Q (o :: rest) a w :=
  app_bytes hgd s x ho v xs hs hown.1 y ys hx hr w0 hown.2.1 hown.2.2 hb (fun v' w' h1 h2 _ h4 _ => h v' w' ⟨h1, h2, h4⟩)
theorem number15_step {w wr w1 : World} {v v' : Value} {i x : Nat} {o : Obj} (hi : i + 1 ≤ 8)
    (hown1 : Ow w1 5 1 v' (7 - i + 1) (bv ((be 8 x).take (7 - i)) ++ [Value.int .u8 ((x : Int) / 2 ^ (8 * i) % 256)])) (hkp : Kp [] w wr) (hf : ∀ g, v.ownBlock = some g → w.heap.size ≤ g)
    (hg1 : (wr.alloc o).grownBy w1 v.ownBlock) (hat1 : v'.ownBlock = v.ownBlock ∨ v'.ownBlock = some (wr.heap.size + 1)) :
    Ow w1 5 1 v' (8 - i) (bv ((be 8 x).take (8 - i))) ∧ Kp [] w w1 ∧ ∀ g, v'.ownBlock = some g → w.heap.size ≤ g := by
  refine ⟨?_, (hkp.alloc o).grown hg1 (fun g hg => .inr (hf g hg)), fun g hg => ?_⟩
  · rw [be_take_succ 8 x i (by omega), bv_append, show 8 - i = 7 - i + 1 from by omega, show 7 - i + 1 - 1 = 7 - i from by omega]
    rw [byte_of] at hown1
    exact hown1
  · rcases hat1 with h | h
    · rw [h] at hg; exact hf g hg
    · rw [h] at hg; cases hg; have := hkp.size; omega
theorem bv_be2 (n : Nat) : bv (be 2 n) = [.int .u8 ((n : Int) / 256 % 256), .int .u8 ((n : Int) % 256)] := by
  rw [be_succ, be_succ, bv_cons, bv_cons]
  simp only [be_zero, bv_nil, UInt8.toNat_ofNat', Nat.pow_one, Nat.pow_zero, Nat.div_one, Nat.reducePow]
  congr 3
theorem own_be2 {w : World} {g : Nat} (hg : g = w.heap.size) (n : Nat) : Ow (w.alloc (.cells #[.int .u8 ((n : Int) / 256 % 256), .int .u8 ((n : Int) % 256)] 5)) 5 1 (.slice (some ⟨g, 0, none⟩) 2 2) (be 2 n).length (bv (be 2 n)) := by
  subst hg
  have := ow_new w 5 1 2 #[.int .u8 ((n : Int) / 256 % 256), .int .u8 ((n : Int) % 256)] rfl (by decide)
  rw [be_length, bv_be2]
  exact this
def PutPost15 (k : IntKind) (f : Int) (L : List (List UInt8)) (w : World) (e : Ending) (w' : World) : Prop :=
  ∃ u, e = .returned (.tuple #[u, .int k (chk f L : Int)]) ∧ NewB (outB f L) w u w'
theorem outB_no {f : Int} {L : List (List UInt8)} (h : chk f L ≠ 0) : outB f L = [] := if_neg h
theorem outB_ok {f : Int} {L : List (List UInt8)} (h : chk f L = 0) : outB f L = formB f L := if_pos h
theorem formB_take_succ {f : Int} {L : List (List UInt8)} {k : Nat} {e : List UInt8} (h : L[k]? = some e) : be 8 (tou64 f) ++ be 2 L.length ++ items (L.take (k + 1)) = be 8 (tou64 f) ++ be 2 L.length ++ items (L.take k) ++ item e := by
  rw [items_take_succ h, List.append_assoc, List.append_assoc, List.append_assoc]
theorem chk_take_le {f : Int} {L : List (List UInt8)} (h : chk f L = 0) (k : Nat) : (items (L.take k)).length ≤ 4196352 := by
  obtain ⟨h1, h2, h3, h4, h5, h6⟩ := chk_zero h
  have h7 := items_length_le (L.take k) (fun e he => h6 e (List.mem_of_mem_take he))
  have h8 : (L.take k).length ≤ L.length := by rw [List.length_take]; omega
  omega
theorem num_pre {f : Int} {n : Nat} : (be 8 (tou64 f) ++ be 2 n).length = 10 := by simp
end Go.Proofs.YtolfckhjfadhdaaDoor
/- A fellow of w_list (XWireC): an empty list may share the writer's block. -/
namespace Go.Proofs.YtolfckhjfadhdaaDoor
open Go.RowKit
end Go.Proofs.YtolfckhjfadhdaaDoor
/- Put and One of entry. -/
namespace Go.Proofs.YtolfckhjfadhdaaDoor
open Go.RowKit
theorem may_4 {n : Int} {e : List UInt8} (h : n < 0 ∨ 4611686018427387904 < n) : may n e = 4 := if_pos h
theorem may_3 {n : Int} {e : List UInt8} (h1 : 0 ≤ n) (h2 : n ≤ 4611686018427387904) (h : 4096 < e.length) : may n e = 3 := by
  unfold may; rw [if_neg (by omega), if_pos h]
def OnePost (k : IntKind) (n : Int) (e : List UInt8) (w : World) (r : Ending) (w' : World) : Prop :=
  ∃ u, r = .returned (.tuple #[u, .int k (may n e : Int)]) ∧ NewB (outO n e) w u w'
theorem outO_no {n : Int} {e : List UInt8} (h : may n e ≠ 0) : outO n e = [] := if_neg h
theorem outO_ok {n : Int} {e : List UInt8} (h : may n e = 0) : outO n e = formO n e := if_pos h
end Go.Proofs.YtolfckhjfadhdaaDoor
/- Slices of bytes, cut: one run equation each, with what the cut reads. -/
namespace Go.Proofs.YtolfckhjfadhdaaDoor
open Go.RowKit

/-- What a cut slice is good for. -/
def CutOf (A : Option Addr) (n c lo m : Nat) (A' : Option Addr) (c' : Nat) : Prop :=
  ∀ (W : World) (bs : List UInt8), Rd W 1 (.slice A n c) n (bv bs) → Rd W 1 (.slice A' m c') m (bv ((bs.drop lo).take m))
theorem cut_of {A : Option Addr} {n c lo m : Nat} (h : lo + m ≤ n) : ∃ A' c', sliced A lo (lo + m) c 1 = .slice A' m c' ∧ CutOf A n c lo m A' c' ∧ ∀ g, (Value.slice A' m c').ownBlock = some g → (Value.slice A n c).ownBlock = some g := by
  by_cases e : c = lo
  · refine ⟨A, c - lo, by simp [sliced, e], fun W bs h1 => ?_, fun g hg => by cases A <;> simp_all [Value.ownBlock]⟩
    have := h1.cut0 (a := lo) (k := m) h e
    rwa [bv_drop] at this
  · refine ⟨A.map (fun x => x.add lo), c - lo, by simp [sliced, e], fun W bs h1 => ?_, fun g hg => ?_⟩
    · have := h1.cut (a := lo) (k := m) h e
      rwa [bv_drop] at this
    · cases A with
      | none => simp [Value.ownBlock] at hg
      | some ad =>
        simp only [Option.map_some, Value.ownBlock] at hg ⊢
        rw [← hg]; simp [block_of_add]
theorem run_size_u8 (w : World) : (sizeOf 5).run Tryd.prog w = .ok 1 w := by
  obtain ⟨i0, hi, hz0, hz1, hz2⟩ := info_parts Tryd.infoU8
  simp [sizeOf, typeInfo, hi, hz1]
theorem cut_at (w : World) (x : Value) (lo hi mx : Option Value) : (Instr.sliceAt 45 x lo hi mx).run Tryd.prog w = (Instr.slice 45 x lo hi mx).run Tryd.prog w := by
  simp [Instr.sliceAt, run_underlying Tryd.underlying45]
theorem elem_u8 : Tryd.prog.elem 45 = 5 := by kernel_rfl
theorem und_u8 : Tryd.prog.underlying 45 = some (.slice (Tryd.prog.elem 45)) := by rw [elem_u8]; exact Tryd.underlying45
theorem cut_hi (A : Option Addr) (n c k : Nat) (h : Int) (hh : h = k) (hk : k ≤ n) (hc : n ≤ c) : ∃ A' c', (∀ w, (Instr.sliceAt 45 (.slice A n c) none (some (.int .i64 h)) none).run Tryd.prog w = .ok (.slice A' k c') w) ∧ CutOf A n c 0 k A' c' ∧ ∀ g, (Value.slice A' k c').ownBlock = some g → (Value.slice A n c).ownBlock = some g := by
  subst hh
  obtain ⟨A', c', e, h1, h2⟩ := cut_of (A := A) (n := n) (c := c) (lo := 0) (m := k) (by omega)
  refine ⟨A', c', fun w => ?_, h1, h2⟩
  rw [cut_at, run_slice_h w 45 A n c und_u8 .i64 k (by omega) (by omega), elem_u8, run_size_u8]
  simp only [Result.andThen_ok, Int.toNat_natCast]
  rw [Nat.zero_add] at e
  rw [e]
theorem cut_lo (A : Option Addr) (n c lo m : Nat) (l : Int) (hl : l = lo) (hm : lo + m = n) : ∃ A' c', (∀ w, (Instr.sliceAt 45 (.slice A n c) (some (.int .i64 l)) none none).run Tryd.prog w = .ok (.slice A' m c') w) ∧ CutOf A n c lo m A' c' ∧ ∀ g, (Value.slice A' m c').ownBlock = some g → (Value.slice A n c).ownBlock = some g := by
  subst hl
  obtain ⟨A', c', e, h1, h2⟩ := cut_of (A := A) (n := n) (c := c) (lo := lo) (m := m) (by omega)
  refine ⟨A', c', fun w => ?_, h1, h2⟩
  rw [cut_at, run_slice_l w 45 A n c und_u8 .i64 lo (by omega) (by omega), elem_u8, run_size_u8]
  simp only [Result.andThen_ok, Int.toNat_natCast]
  rw [← hm, e]
theorem cut_lh (A : Option Addr) (n c lo m : Nat) (l h : Int) (hl : l = lo) (hh : h = lo + m) (hm : lo + m ≤ n) (hc : n ≤ c) : ∃ A' c', (∀ w, (Instr.sliceAt 45 (.slice A n c) (some (.int .i64 l)) (some (.int .i64 h)) none).run Tryd.prog w = .ok (.slice A' m c') w) ∧ CutOf A n c lo m A' c' ∧ ∀ g, (Value.slice A' m c').ownBlock = some g → (Value.slice A n c).ownBlock = some g := by
  subst hl hh
  obtain ⟨A', c', e, h1, h2⟩ := cut_of (A := A) (n := n) (c := c) (lo := lo) (m := m) (by omega)
  refine ⟨A', c', fun w => ?_, h1, h2⟩
  rw [cut_at, run_slice_lh w 45 A n c und_u8 .i64 .i64 lo ((lo : Int) + (m : Int)) (by omega) (by omega) (by omega), elem_u8, run_size_u8]
  simp only [Result.andThen_ok, Int.toNat_natCast]
  rw [show ((lo : Int) + (m : Int)).toNat = lo + m from by omega, e]
end Go.Proofs.YtolfckhjfadhdaaDoor
/- The law's lent: texts in memory of their own, with marks behind. -/
namespace Go.Proofs.YtolfckhjfadhdaaDoor
open Go.RowKit
theorem cut_u8c (A : Option Addr) (n c k : Nat) (h : Int) (hh : h = k) (hk : k ≤ c) (w : World) : (Instr.sliceAt 45 (.slice A n c) none (some (.int .i64 h)) none).run Tryd.prog w = .ok (.slice A k c) w := by
  subst hh
  rw [cut_at, run_slice_h w 45 A n c und_u8 .i64 k (by omega) (by omega), elem_u8, run_size_u8]
  simp only [Result.andThen_ok, Int.toNat_natCast]
  congr 1
  by_cases e : c = 0
  · simp [sliced, e]
  · cases A with
    | none => simp [sliced, e]
    | some ad => simp [sliced, e, Addr.add]
theorem cut_u8 (A : Option Addr) (n c k : Nat) (h : Int) (hh : h = k) (hk : k ≤ n) (hc : n ≤ c) (w : World) : (Instr.sliceAt 45 (.slice A n c) none (some (.int .i64 h)) none).run Tryd.prog w = .ok (.slice A k c) w := cut_u8c A n c k h hh (by omega) w
theorem run_size_bytes (w : World) : (sizeOf 45).run Tryd.prog w = .ok 1 w := by
  obtain ⟨i0, hi, hz0, hz1, hz2⟩ := info_parts Tryd.infoBytes
  simp [sizeOf, typeInfo, hi, hz1]
theorem cut_at_texts (w : World) (x : Value) (lo hi mx : Option Value) : (Instr.sliceAt 112 x lo hi mx).run Tryd.prog w = (Instr.slice 112 x lo hi mx).run Tryd.prog w := by
  simp [Instr.sliceAt, run_underlying Tryd.underlying112]
theorem elem_texts : Tryd.prog.elem 112 = 45 := by kernel_rfl
theorem und_texts : Tryd.prog.underlying 112 = some (.slice (Tryd.prog.elem 112)) := by rw [elem_texts]; exact Tryd.underlying112
theorem cut_textsc (A : Option Addr) (n c k : Nat) (h : Int) (hh : h = k) (hk : k ≤ c) (w : World) : (Instr.sliceAt 112 (.slice A n c) none (some (.int .i64 h)) none).run Tryd.prog w = .ok (.slice A k c) w := by
  subst hh
  rw [cut_at_texts, run_slice_h w 112 A n c und_texts .i64 k (by omega) (by omega), elem_texts, run_size_bytes]
  simp only [Result.andThen_ok, Int.toNat_natCast]
  congr 1
  by_cases e : c = 0
  · simp [sliced, e]
  · cases A with
    | none => simp [sliced, e]
    | some ad => simp [sliced, e, Addr.add]
theorem cut_texts (A : Option Addr) (n c k : Nat) (h : Int) (hh : h = k) (hk : k ≤ n) (hc : n ≤ c) (w : World) : (Instr.sliceAt 112 (.slice A n c) none (some (.int .i64 h)) none).run Tryd.prog w = .ok (.slice A k c) w := cut_textsc A n c k h hh (by omega) w
/-- Texts with a mark behind each. -/
def markR : List (List UInt8) → List Value → List Res
  | l :: ls, B :: Bs => rowR 5 1 (grow1 B) (l.length + 1) (bv (l ++ [165])) :: markR ls Bs
  | _, _ => []
theorem markR_snoc : ∀ (ls : List (List UInt8)) (Bs : List Value) (l : List UInt8) (B : Value), ls.length = Bs.length → markR (ls ++ [l]) (Bs ++ [B]) = markR ls Bs ++ [rowR 5 1 (grow1 B) (l.length + 1) (bv (l ++ [165]))]
  | [], [], _, _, _ => rfl
  | _ :: ls, _ :: Bs, l, B, h => by simp only [List.cons_append, markR, markR_snoc ls Bs l B (by simpa using h)]
  | [], _ :: _, _, _, h => by simp at h
  | _ :: _, [], _, _, h => by simp at h
theorem markR_mem : ∀ (ls : List (List UInt8)) (Bs : List Value) (i : Nat) (l : List UInt8) (B : Value), ls[i]? = some l → Bs[i]? = some B → rowR 5 1 (grow1 B) (l.length + 1) (bv (l ++ [165])) ∈ markR ls Bs
  | l0 :: ls, B0 :: Bs, 0, l, B, h1, h2 => by cases h1; cases h2; exact List.mem_cons_self ..
  | l0 :: ls, B0 :: Bs, i + 1, l, B, h1, h2 => List.mem_cons_of_mem _ (markR_mem ls Bs i l B h1 h2)
  | [], _, _, _, _, h1, _ => by simp at h1
  | _ :: _, [], _, _, _, _, h2 => by simp at h2
theorem grow1_form {w : World} {B : Value} {n : Nat} {xs : List Value} (h : Ow w 5 1 (grow1 B) (n + 1) xs) : ∃ A c, B = .slice A n c ∧ n + 1 ≤ c := by
  obtain ⟨A, c, e, h1, _⟩ := ow_form h
  cases B <;> simp only [grow1] at e <;> try cases e
  exact ⟨_, _, rfl, h1⟩
/-- A marked text reads as the text. -/
theorem mark_rd {w : World} {B : Value} {l : List UInt8} (h : Ow w 5 1 (grow1 B) (l.length + 1) (bv (l ++ [165]))) : Rd w 1 B l.length (bv l) := by
  obtain ⟨A, c, rfl, hc⟩ := grow1_form h
  obtain ⟨h1, A', c', e, h2, h3, h4, h5⟩ := Rd.of_own h
  simp only [grow1] at e
  cases e
  refine ⟨by rw [bv_length]; omega, A, c, rfl, by omega, h3, (fun hA => ?_), (fun ad had j u hu => h5 ad had j u ?_)⟩
  · have := h4 hA; omega
  · rw [bv_append]
    have hj := (List.getElem?_eq_some_iff.1 hu).1
    rw [List.getElem?_append_left hj]
    exact hu
def mk4 : List UInt8 := [109, 97, 114, 107]
/-- What lent leaves. -/
def LentPost (L : List (List UInt8)) (w : World) (e : Ending) (w' : World) : Prop :=
  ∃ g c Bs M, e = .returned (.slice (some ⟨g, 0, none⟩) L.length c) ∧ Bs.length = L.length ∧ Held w w' (rowR 45 1 (.slice (some ⟨g, 0, none⟩) (L.length + 1) c) (L.length + 1) (Bs ++ [M]) :: rdR M 4 (bv mk4) :: markR L Bs)
end Go.Proofs.YtolfckhjfadhdaaDoor
/- The reference's Same of layer 15; the law's kept. -/
namespace Go.Proofs.YtolfckhjfadhdaaDoor
open Go.RowKit
/-- What is held of lent texts. -/
structure Lent (w : World) (g c : Nat) (Bs : List Value) (M : Value) (L : List (List UInt8)) : Prop where
  len : Bs.length = L.length
  row : Ow w 45 1 (.slice (some ⟨g, 0, none⟩) (L.length + 1) c) (L.length + 1) (Bs ++ [M])
  mark : Rd w 1 M 4 (bv mk4)
  texts : ∀ (i : Nat) (l : List UInt8) (B : Value), L[i]? = some l → Bs[i]? = some B → Ow w 5 1 (grow1 B) (l.length + 1) (bv (l ++ [165]))
theorem Lent.kp {w w' : World} {g c : Nat} {Bs : List Value} {M : Value} {L : List (List UInt8)} (h : Lent w g c Bs M L) (k : Kp [] w w') : Lent w' g c Bs M L :=
  ⟨h.len, ow_kp h.row k (by simp), rd_old h.mark k, fun i l B h1 h2 => ow_kp (h.texts i l B h1 h2) k (by simp)⟩
theorem Lent.txs {w : World} {g c : Nat} {Bs : List Value} {M : Value} {L : List (List UInt8)} (h : Lent w g c Bs M L) : Txs w (.slice (some ⟨g, 0, none⟩) L.length c) L := by
  obtain ⟨h1, A, c', e, h2, h3, h4, h5⟩ := Rd.of_own h.row
  cases e
  refine ⟨Bs, ⟨by rw [h.len]; omega, _, c, rfl, by omega, h3, (fun hA => by cases hA), fun ad had j u hu => h5 ad had j u ?_⟩, fun i hi => ?_⟩
  · rw [List.getElem?_append_left (List.getElem?_eq_some_iff.1 hu).1]
    exact hu
  · have hB : Bs[i]? = some (Bs[i]'(by rw [h.len]; exact hi)) := List.getElem?_eq_getElem _
    exact ⟨_, hB, mark_rd (h.texts i _ _ (List.getElem?_eq_getElem hi) hB)⟩
theorem Lent.of {w0 w : World} {g c : Nat} {Bs : List Value} {M : Value} {L : List (List UInt8)} {LL : List Res} (hB : Bs.length = L.length) (S : Held w0 w LL)
    (h1 : rowR 45 1 (.slice (some ⟨g, 0, none⟩) (L.length + 1) c) (L.length + 1) (Bs ++ [M]) ∈ LL) (h2 : rdR M 4 (bv mk4) ∈ LL) (h3 : ∀ r, r ∈ markR L Bs → r ∈ LL) : Lent w g c Bs M L :=
  ⟨hB, S.ok _ h1, (S.ok _ h2).1, fun i l B hl hb => S.ok (rowR 5 1 (grow1 B) (l.length + 1) (bv (l ++ [165]))) (h3 _ (markR_mem L Bs i l B hl hb))⟩
theorem Lent.at_ {w : World} {g c : Nat} {Bs : List Value} {M : Value} {L : List (List UInt8)} (h : Lent w g c Bs M L) {k : Nat} (hk : k < L.length) : ∃ gb cb, w.cell? ⟨g, k, none⟩ = some (.slice (some ⟨gb, 0, none⟩) L[k].length cb) ∧ L[k].length + 1 ≤ cb ∧ Ow w 5 1 (.slice (some ⟨gb, 0, none⟩) (L[k].length + 1) cb) (L[k].length + 1) (bv (L[k] ++ [165])) := by
  have hB : Bs[k]? = some (Bs[k]'(by rw [h.len]; exact hk)) := List.getElem?_eq_getElem _
  have ho := h.texts k _ _ (List.getElem?_eq_getElem hk) hB
  have hc := h.row.cellAt k (by omega)
  rw [List.getElem?_append_left (by rw [h.len]; exact hk), hB] at hc
  obtain ⟨A, cb, e, hcb⟩ := grow1_form ho
  rw [e] at ho hc
  simp only [grow1] at ho
  obtain ⟨gb, c', e2, _, _⟩ := ow_some ho (by omega)
  injection e2 with e2 _ _
  subst e2
  exact ⟨gb, cb, hc, hcb, ho⟩
end Go.Proofs.YtolfckhjfadhdaaDoor
/- Same of entry: slices.EqualFunc over bytes.Equal. -/
namespace Go.Proofs.YtolfckhjfadhdaaDoor
open Go.RowKit
set_option maxRecDepth 100000 in
set_option maxHeartbeats 2000000 in
theorem bytesEq_any (x y : Value) (a b : List UInt8) (w : World) (hx : Rd w 1 x a.length (bv a)) (hy : Rd w 1 y b.length (bv b)) :
    Calls Tryd.prog 52 #[x, y] w fun e w' => e = .returned (.bool (a == b)) ∧ w = w' := by
  have k1 := strB hx
  have k2 := strB hy
  go_enter Tryd.func52, Tryd.ntmps52
  go_wp2
  go_ret
  exact ⟨rfl, rfl⟩
end Go.Proofs.YtolfckhjfadhdaaDoor
/- Read of point. -/
namespace Go.Proofs.YtolfckhjfadhdaaDoor
open Go.RowKit
def rdS (bs : List UInt8) : Int := wrap64 (num ((bs.drop 4).take 8))
def rdH (bs : List UInt8) : List UInt8 := (bs.drop 12).take 32
def RVok (bs : List UInt8) : Prop := bs.length = 48 ∧ 0 ≤ rdS bs ∧ formL (rdS bs) (rdH bs) = bs
instance (bs : List UInt8) : Decidable (RVok bs) := by unfold RVok; exact inferInstance
def RVs (bs : List UInt8) : Int × List UInt8 := if RVok bs then (rdS bs, rdH bs) else (0, List.replicate 32 0)
def REs (bs : List UInt8) : Int := if RVok bs then 0 else 290
theorem RV_no {bs : List UInt8} (h : ¬ RVok bs) : RVs bs = (0, List.replicate 32 0) ∧ REs bs = 290 := ⟨if_neg h, if_neg h⟩
theorem RV_yes {bs : List UInt8} (h : RVok bs) : RVs bs = (rdS bs, rdH bs) ∧ REs bs = 0 := ⟨if_pos h, if_pos h⟩
def PtRdPost (bs : List UInt8) (w : World) (e : Ending) (w' : World) : Prop := e = .returned (.tuple #[.agg (ptA (RVs bs).1 (RVs bs).2), .int .i64 (REs bs)]) ∧ Kp [] w w'
theorem rdS_bounds (bs : List UInt8) : -9223372036854775808 ≤ rdS bs ∧ rdS bs ≤ 9223372036854775807 := by unfold rdS wrap64; omega
theorem Held.rnew {w0 w w' : World} {L : List Res} {p : Nat} {v : Value} {a : Nat} {bs : List UInt8} (h : Held w0 w L) (hr : Rr w' p v a bs) (hk : Kp [] w w') (hp : w.heap.size ≤ p) (hv : ∀ g, v.ownBlock = some g → w.heap.size ≤ g) : Held w0 w' (rrR p v a bs :: L) :=
  h.new _ hk hr (fun b hb => by
    rcases List.mem_cons.1 hb with rfl | hb
    · exact hp
    · exact hv b (by simpa using hb))
set_option maxRecDepth 100000 in
set_option maxHeartbeats 4000000 in
theorem ptread_any (x : Value) (bs : List UInt8) (hn : bs.length ≤ 140737488355328) (w : World) (hx : Rd w 1 x bs.length (bv bs)) : Calls Tryd.prog 26 #[x] w (PtRdPost bs w) := by
  have HZ : Hid (zeroP.size = 33) := Lib.hid rfl
  have HZO := Lib.hid (ptA_one 0 (List.replicate 32 0))
  have HX := Lib.hid hx
  have S0 := Lib.hid (((Held.start w).newBlk 25 zeroP).newBlk 25 zeroP)
  rw [World.size_alloc] at S0
  obtain ⟨A, c, rfl⟩ := rd_form hx
  clear hx
  go_enter Tryd.func26, Tryd.ntmps26
  go_wp2_with fail
  have HK1 : Kp [] w ((w.alloc (.cells zeroP 25)).alloc (.cells zeroP 25)) := ((Kp.refl [] w).alloc _).alloc _
  change Calls _ _ _ ((w.alloc (.cells zeroP 25)).alloc (.cells zeroP 25)) _
  generalize (w.alloc (.cells zeroP 25)).alloc (.cells zeroP 25) = w1 at *
  obtain ⟨g2, hg2⟩ : ∃ g2, w.heap.size = g2 := ⟨_, rfl⟩
  obtain ⟨g4, hg4⟩ : ∃ g4, g2 + 1 = g4 := ⟨_, rfl⟩
  rw [hg2, hg4] at S0 ⊢
  clear hg2 hg4
  refine (new_reader _ bs w1 (rd_old HX.out HK1) hn).mono ?_
  rintro e w2 ⟨p, v, rfl, hp, hr, hv, k2⟩
  have S2 := Lib.hid (S0.out.rnew hr k2 hp hv)
  clear hp hr hv k2 HK1
  by_cases h4 : 4 ≤ bs.length
  · go_wp2_with fail
    refine (r_raw p v 0 bs 4 w2 (S2.out.at_ (l1 := [])) (by omega)).mono ?_
    rintro e w3 ⟨u, rfl, ou, k3, h3, fu⟩
    have S3 := Lib.hid (S2.out.turnAt (l1 := []) (rrR p v (0 + 4) bs) (k3.more (T := p :: v.ownBlock.toList) (by simp)) h3 (fun _ h => .inl h))
    clear ou k3 h3 fu
    by_cases h12 : 12 ≤ bs.length
    · go_wp2_with fail
      refine (r_signed p v (0 + 4) bs (by omega) w3 (S3.out.at_ (l1 := []))).mono ?_
      rintro e w4 ⟨rfl, k4, h4'⟩
      have S4 := Lib.hid (S3.out.turnAt (l1 := []) (rrR p v (0 + 4 + 8) bs) (k4.more (T := p :: v.ownBlock.toList) (by simp)) h4' (fun _ h => .inl h))
      clear k4 h4'
      rw [show wrap64 (num ((bs.drop (0 + 4)).take 8)) = rdS bs from rfl]
      have hzb := rdS_bounds bs
      obtain ⟨z, Hz⟩ : ∃ z, Hid (rdS bs = z) := ⟨_, Lib.hid rfl⟩
      rw [Hz.out] at hzb ⊢
      have q4 := pt_c0 (show Blk w4 g4 25 (ptA 0 (List.replicate 32 0)) from S4.out.at_ (l1 := [_]))
      have q5 := (S4.out.at_ (l1 := [_])).frozen 0
      have q6 := (S4.out.at_ (l1 := [_])).lt
      have S5 : Hid (Held w (w4.setCell ⟨g4, 0, none⟩ (.int .i64 z)) [rrR p v 12 bs, blkR g4 25 (ptA z (List.replicate 32 0)), blkR g2 25 zeroP]) := Lib.hid (S4.out.set (l1 := [_]) 0 (.int .i64 z))
      clear S4
      go_wp2_with fail
      generalize w4.setCell ⟨g4, 0, none⟩ (.int .i64 z) = w5 at *
      by_cases h44 : 44 ≤ bs.length
      · refine (r_hash p v 12 bs (by omega) w5 (S5.out.at_ (l1 := []))).mono ?_
        rintro e w6 ⟨rfl, k6, h6'⟩
        have S6 := Lib.hid (S5.out.turnAt (l1 := []) (rrR p v (12 + 32) bs) (k6.more (T := p :: v.ownBlock.toList) (by simp)) h6' (fun _ h => .inl h))
        clear k6 h6'
        rw [show (bs.drop 12).take 32 = rdH bs from rfl]
        have hhl : (rdH bs).length = 32 := by unfold rdH; rw [List.length_take, List.length_drop]; omega
        obtain ⟨hh, Hh⟩ : ∃ hh, Hid (rdH bs = hh) := ⟨_, Lib.hid rfl⟩
        rw [Hh.out] at hhl ⊢
        have Hhl := Lib.hid hhl
        have Hha : Hid ((hashA hh).size = 32) := Lib.hid (by rw [hashA_size, hhl])
        have HPsz := Lib.hid (ptA_size (s := z) hhl)
        clear hhl
        go_wp2_with (first
          | (refine wpList_plain rfl (fun K hK => op_store_part (.tmp 32) (.tmp 30) 23 rfl g4 1 rfl (hashA hh) rfl 25 _ (S6.out.at_ (l1 := [_])) (by rw [Hha.out]; exact Tryd.infoHashP) (by rw [Hha.out]; exact Nat.le_refl _) (hashA_one hh) (fun w7 b7 k7 => hK _ _ ?_)); have S7 := Lib.hid (Held.setBlk (l1 := [_]) S6.out (by rw [pt_lay _ _ _ (by rw [← hashA_size, Hha.out]) rfl] at b7; exact b7) k7); clear b7 k7 hK K)
          | (refine wpList_load_blk rfl 25 (.tmp 4) rfl g4 rfl 25 _ (S7.out.at_ (l1 := [_])) _ Tryd.underlying25 rfl (by rw [HPsz.out]; exact Tryd.infoPointP) ?_))
        refine (pbytes_any z hh Hhl.out w7).mono ?_
        rintro e w8 ⟨v8, rfl, o8, k8, f8⟩
        have S8 := Lib.hid (S7.out.rownew o8 k8 f8)
        obtain ⟨A8, c8, rfl, _, _⟩ := ow_form o8
        clear o8 k8 f8
        by_cases hz0 : z < 0
        · have HE : Hid (txE z = 2) := Lib.hid (if_pos hz0)
          have HNo := Lib.hid (RV_no (bs := bs) (fun h => by have := h.2.1; rw [Hz.out] at this; omega))
          rw [HE.out]
          go_wp2_with (refine wpList_store_blk rfl 25 (.tmp 2) (.tmp 49) rfl g2 rfl zeroP (by kernel_rfl) 25 _ (S8.out.at_ (l1 := [_, _, _])) (by rw [HZ.out]; exact Tryd.infoPointP) rfl HZO.out ?_; intro w9 b9 k9; have S9 := Lib.hid (Held.setBlk (l1 := [_, _, _]) S8.out b9 k9); clear b9 k9)
          refine bodyPost_ret (results_cell_tmp (by rfl) rfl (S9.out.at_ (l1 := [_, _, _])) Tryd.underlying25 rfl (by rw [HZ.out]; exact Tryd.infoPointP)) rfl ?_
          exact ⟨by rw [HNo.out.1, HNo.out.2]; rfl, S9.out.k⟩
        · have HE : Hid (txE z = 0 ∧ ptB z hh = formL z hh) := Lib.hid ⟨if_neg hz0, if_neg hz0⟩
          rw [HE.out.1]
          rw [HE.out.2] at S8 ⊢
          obtain ⟨fl, Hfl⟩ : ∃ fl, Hid (formL z hh = fl) := ⟨_, Lib.hid rfl⟩
          have Hfll : Hid (fl.length = 48) := Lib.hid (by rw [← Hfl.out, formL_length Hhl.out])
          rw [Hfl.out] at S8 ⊢
          have HEq := Lib.hid (bytesEq_any (.slice A8 fl.length c8) (.slice A bs.length c) fl bs w8 (Rd.of_own (S8.out.at_ (l1 := []))) (rd_old HX.out S8.out.k))
          by_cases hq : fl = bs
          · have HYes := Lib.hid (RV_yes (bs := bs) ⟨by rw [← hq]; exact Hfll.out, by rw [Hz.out]; omega, by rw [Hz.out, Hh.out, Hfl.out]; exact hq⟩)
            rw [show (fl == bs) = true from by rw [hq]; exact beq_self_eq_true bs] at HEq
            clear hq
            go_wp2_with (first
              | (go_at_call 52; refine HEq.out.mono ?_; rintro e w' ⟨rfl, rfl⟩)
              | (refine wpList_load_blk rfl 25 (.tmp 4) rfl g4 rfl 25 _ (S8.out.at_ (l1 := [_, _])) _ Tryd.underlying25 rfl (by rw [HPsz.out]; exact Tryd.infoPointP) ?_)
              | (refine wpList_store_blk rfl 25 (.tmp 2) (.tmp 50) rfl g2 rfl (ptA z hh) (by kernel_rfl) 25 _ (S8.out.at_ (l1 := [_, _, _])) (by rw [HPsz.out]; exact Tryd.infoPointP) (by rw [HPsz.out, HZ.out]) (ptA_one z hh) ?_; intro w9 b9 k9; have S9 := Lib.hid (Held.setBlk (l1 := [_, _, _]) S8.out b9 k9); clear b9 k9))
            refine bodyPost_ret (results_cell_tmp (by rfl) rfl (S9.out.at_ (l1 := [_, _, _])) Tryd.underlying25 rfl (by rw [HPsz.out]; exact Tryd.infoPointP)) rfl ?_
            exact ⟨by rw [HYes.out.1, HYes.out.2, Hz.out, Hh.out]; rfl, S9.out.k⟩
          · have HNo := Lib.hid (RV_no (bs := bs) (fun h => hq (by have := h.2.2; rw [Hz.out, Hh.out, Hfl.out] at this; exact this)))
            rw [beq_false_of_ne hq] at HEq
            clear hq
            go_wp2_with (first
              | (go_at_call 52; refine HEq.out.mono ?_; rintro e w' ⟨rfl, rfl⟩)
              | (refine wpList_store_blk rfl 25 (.tmp 2) (.tmp 49) rfl g2 rfl zeroP (by kernel_rfl) 25 _ (S8.out.at_ (l1 := [_, _, _])) (by rw [HZ.out]; exact Tryd.infoPointP) rfl HZO.out ?_; intro w9 b9 k9; have S9 := Lib.hid (Held.setBlk (l1 := [_, _, _]) S8.out b9 k9); clear b9 k9))
            refine bodyPost_ret (results_cell_tmp (by rfl) rfl (S9.out.at_ (l1 := [_, _, _])) Tryd.underlying25 rfl (by rw [HZ.out]; exact Tryd.infoPointP)) rfl ?_
            exact ⟨by rw [HNo.out.1, HNo.out.2]; rfl, S9.out.k⟩
      · have HNo := Lib.hid (RV_no (bs := bs) (fun h => by have := h.1; omega))
        refine (r_hash_end p v 12 bs (by omega) w5 (S5.out.at_ (l1 := []))).mono ?_
        rintro e w6 ⟨rfl, k6⟩
        have S6 := Lib.hid (S5.out.kp k6)
        clear k6
        go_wp2_with (first
          | (refine wpList_plain rfl (fun K hK => op_store_part (.tmp 32) (.tmp 30) 23 rfl g4 1 rfl (hashA (List.replicate 32 0)) rfl 25 _ (S6.out.at_ (l1 := [_])) Tryd.infoHashP (Nat.le_refl _) (hashA_one _) (fun w7 b7 k7 => hK _ _ ?_)); have S7 := Lib.hid (Held.setBlk (l1 := [_]) S6.out b7 k7); clear b7 k7 hK K)
          | (refine wpList_store_blk rfl 25 (.tmp 2) (.tmp 35) rfl g2 rfl zeroP (by kernel_rfl) 25 _ (S7.out.at_ (l1 := [_, _])) (by rw [HZ.out]; exact Tryd.infoPointP) rfl HZO.out ?_; intro w9 b9 k9; have S9 := Lib.hid (Held.setBlk (l1 := [_, _]) S7.out b9 k9); clear b9 k9))
        refine bodyPost_ret (results_cell_tmp (by rfl) rfl (S9.out.at_ (l1 := [_, _])) Tryd.underlying25 rfl (by rw [HZ.out]; exact Tryd.infoPointP)) rfl ?_
        exact ⟨by rw [HNo.out.1, HNo.out.2]; rfl, S9.out.k⟩
    · have HNo := Lib.hid (RV_no (bs := bs) (fun h => by have := h.1; omega))
      go_wp2_with fail
      refine (r_signed_end p v (0 + 4) bs (by omega) w3 (S3.out.at_ (l1 := []))).mono ?_
      rintro e w4 ⟨rfl, k4⟩
      have S4 := Lib.hid (S3.out.kp k4)
      clear k4
      have q4 := pt_c0 (show Blk w4 g4 25 (ptA 0 (List.replicate 32 0)) from S4.out.at_ (l1 := [_]))
      have q5 := (S4.out.at_ (l1 := [_])).frozen 0
      have q6 := (S4.out.at_ (l1 := [_])).lt
      have S5 := Lib.hid (S4.out.set (l1 := [_]) 0 (.int .i64 0))
      clear S4
      go_wp2_with (refine wpList_store_blk rfl 25 (.tmp 2) (.tmp 35) rfl g2 rfl zeroP (by kernel_rfl) 25 _ (S5.out.at_ (l1 := [_, _])) (by rw [HZ.out]; exact Tryd.infoPointP) rfl HZO.out ?_; intro w9 b9 k9; have S9 := Lib.hid (Held.setBlk (l1 := [_, _]) S5.out b9 k9); clear b9 k9)
      refine bodyPost_ret (results_cell_tmp (by rfl) rfl (S9.out.at_ (l1 := [_, _])) Tryd.underlying25 rfl (by rw [HZ.out]; exact Tryd.infoPointP)) rfl ?_
      exact ⟨by rw [HNo.out.1, HNo.out.2]; rfl, S9.out.k⟩
  · have HNo := Lib.hid (RV_no (bs := bs) (fun h => by have := h.1; omega))
    go_wp2_with fail
    refine (r_raw_end p v 0 bs 4 w2 (S2.out.at_ (l1 := [])) (by omega)).mono ?_
    rintro e w3 ⟨rfl, k3⟩
    have S3 := Lib.hid (S2.out.kp k3)
    clear k3
    go_wp2_with (refine wpList_store_blk rfl 25 (.tmp 2) (.tmp 35) rfl g2 rfl zeroP (by kernel_rfl) 25 _ (S3.out.at_ (l1 := [_, _])) (by rw [HZ.out]; exact Tryd.infoPointP) rfl HZO.out ?_; intro w9 b9 k9; have S9 := Lib.hid (Held.setBlk (l1 := [_, _]) S3.out b9 k9); clear b9 k9)
    refine bodyPost_ret (results_cell_tmp (by rfl) rfl (S9.out.at_ (l1 := [_, _])) Tryd.underlying25 rfl (by rw [HZ.out]; exact Tryd.infoPointP)) rfl ?_
    exact ⟨by rw [HNo.out.1, HNo.out.2]; rfl, S9.out.k⟩
end Go.Proofs.YtolfckhjfadhdaaDoor
/- Appending onto a row of the call's own whose shorter slice is read afterwards. -/
namespace Go.Proofs.YtolfckhjfadhdaaDoor
open Go.RowKit

theorem run_app_keep {P : Program} (w : World) (t ty e : TypeId) (i : TypeInfo) (z : Value) (size bytes : Nat) (ht : P.underlying t = some (.slice e)) (hi : P.info? e = some i) (hz : i.zero = some z)
    (hsize : i.size = size) (hby : i.bytes = bytes) (hzs : z.cells.size = size) (hsz : 0 < size)
    (v : Value) (n : Nat) (xs : List Value) (hown : Ow w e size v n xs)
    (x : Value) (m : Nat) (news : List Value) (hr : Rd w size x m news) (h1 : ∀ u ∈ news, u.oneCell' = true)
    (h63 : n + m ≤ maxLen) (hbytes : (n + m) * bytes ≤ 140737488355328) :
    ∃ v' w', (Builtin.append_ #[t, t] ty #[v, x]).run P w = .ok v' w' ∧ Ow w' e size v' (n + m) (xs ++ news) ∧ w.grownBy w' v.ownBlock ∧
      (v'.ownBlock = v.ownBlock ∨ v'.ownBlock = some w.heap.size) ∧ Ow w' e size v n xs := by
  obtain ⟨hl, A, c, rfl, hc1, hc2, hA, hcells⟩ := hr
  rcases A with _ | a
  · obtain ⟨rfl, rfl⟩ := hA rfl
    have hn : news = [] := List.eq_nil_of_length_eq_zero (by simpa using hl)
    subst hn
    exact ⟨v, w, run_append_none w t ty e i size ht hi v n xs hown 0, by simpa using hown, World.grownBy.refl w _, .inl rfl, hown⟩
  have hnews := hcells a rfl
  rcases hown.2 with ⟨rfl, rfl⟩ | ⟨g, cap, cur, rfl, hbg, hg, hnc, hcm, hcs, htake⟩
  · obtain ⟨v', w', hrun, h2, h3, h4⟩ := run_app (P := P) w t ty e i z size bytes ht hi hz hsize hby hzs hsz _ 0 xs hown (.slice (some a) m c) m news ⟨hl, _, _, rfl, hc1, hc2, hA, hcells⟩ h1 h63 hbytes
    exact ⟨v', w', hrun, h2, h3, h4, ⟨hown.1, .inl ⟨rfl, rfl⟩⟩⟩
  · subst hsize
    subst hby
    by_cases hroom : n + m ≤ cap
    · have hfit : n * i.size + news.length ≤ cur.size := by rw [hl, hcs, ← Nat.add_mul]; exact Nat.mul_le_mul_right _ hroom
      have hr := run_append_room (P := P) w t ty e i ht hi g n cap cur hg a m c news hl hnews h1 hroom hfit
      have hlen : (xs ++ news).length = (n + m) * i.size := by rw [List.length_append, hown.1, hl, Nat.add_mul]
      have hx : xs.length = n * i.size := hown.1
      have hs0 : ((cur.toList.take (n * i.size) ++ news ++ cur.toList.drop (n * i.size + news.length)).toArray).size = cap * i.size := by
        simp only [List.size_toArray, List.length_append, List.length_take, List.length_drop, Array.length_toList]
        omega
      refine ⟨_, _, hr, ⟨hlen, .inr ⟨g, cap, _, rfl, hbg, setRow_heap w g cur _ e _ hg, hroom, hcm, hs0, ?_⟩⟩, ⟨rfl, rfl, rfl, by simp, fun k _ hk => setRow_other w g k _ (fun e => hk (by simp [Value.ownBlock, e]))⟩, Or.inl rfl, ⟨hx, .inr ⟨g, cap, _, rfl, hbg, setRow_heap w g cur _ e _ hg, hnc, hcm, hs0, ?_⟩⟩⟩
      · rw [htake, ← hlen]
        exact List.take_left
      · rw [htake, ← hx, List.append_assoc]
        exact List.take_left
    · have holds : ∀ j u, xs[j]? = some u → w.cell? ((⟨g, 0, none⟩ : Addr).add j) = some u := hown.cells (g := g) rfl
      have hr := run_append_grow (P := P) w t ty e i z ht hi hz ⟨g, 0, none⟩ n cap xs hown.1 holds a m c news hl hnews (by simp only [maxLen] at h63; omega) (by simp only [maxLen] at h63; omega) (growslice_fits (by omega) hbytes)
      obtain ⟨v', w', hrun, h2, h3, h4⟩ := run_app (P := P) w t ty e i z i.size i.bytes ht hi hz rfl rfl hzs hsz _ n xs hown (.slice (some a) m c) m news ⟨hl, _, _, rfl, hc1, hc2, hA, hcells⟩ h1 h63 hbytes
      rw [hr] at hrun
      injection hrun with e1 e2
      refine ⟨v', w', by rw [hr, e1, e2], h2, h3, h4, ⟨hown.1, .inr ⟨g, cap, cur, rfl, hbg, ?_, hnc, hcm, hcs, htake⟩⟩⟩
      rw [← e2]
      exact (Below.heap_alloc w.drew _ g (Array.getElem?_eq_some_iff.1 hg).1).trans hg
/-- 'append(v, y...)' for bytes, v being read on. -/
theorem app_keep {ops : Array Oper} {rest : List Oper} {o : Oper} {a : Act} {w : World} {Q : Exit → Act → World → Prop} (hgd : o.guard = none) (s x : Operand)
    (ho : o.op = .call { callee := .builtin .append, args := #[s, x], argTypes := #[45, 45] })
    (v : Value) (xs : List UInt8) (hs : a.eval s = v) (hown : Ow w 5 1 v xs.length (bv xs))
    (y : Value) (ys : List UInt8) (hx : a.eval x = y) (hr : Rd w 1 y ys.length (bv ys)) (hb : xs.length + ys.length ≤ 140737488355328)
    (h : ∀ v' w', Ow w' 5 1 v' (xs ++ ys).length (bv (xs ++ ys)) → Kp v.ownBlock.toList w w' → Ow w' 5 1 v xs.length (bv xs) → (v'.ownBlock = v.ownBlock ∨ v'.ownBlock = some w.heap.size) → wpList Tryd.prog ops Q rest (a.put o.dst v') w') : wpList Tryd.prog ops Q (o :: rest) a w :=
  wpList_plain hgd fun K hK => by
    obtain ⟨i0, hi, hz0, hz1, hz2⟩ := info_parts Tryd.infoU8
    obtain ⟨v', w', hrun, h2, h3, h4, h5⟩ := run_app_keep (P := Tryd.prog) w 45 o.type 5 i0 _ 1 1 Tryd.underlying45 hi hz0 hz1 hz2 rfl (by decide) v xs.length (bv xs) hown y ys.length (bv ys) hr (bv_one _) (by unfold maxLen; omega) (by omega)
    rw [← bv_append, ← List.length_append] at h2
    unfold Oper.wp execOp
    simp only [ho, resolve, invoke, builtin, Sem.run_bind, Sem.run_pure, Result.andThen_ok, List.map_toArray, List.map_cons, List.map_nil, hs, hx, hrun]
    exact hK _ _ (h v' w' h2 (Kp.of_grown h3) h5 h4)
/-- A row of the list is grown by 'append'. -/
theorem Held.grown {w0 w w' : World} {l1 l2 : List Res} {e : TypeId} {s n n' : Nat} {v v' : Value} {xs xs' : List Value} (h : Held w0 w (l1 ++ rowR e s v n xs :: l2)) (ho : Ow w' e s v' n' xs') (hg : Kp v.ownBlock.toList w w') (hv : v'.ownBlock = v.ownBlock ∨ v'.ownBlock = some w.heap.size) :
    Held w0 w' (l1 ++ rowR e s v' n' xs' :: l2) :=
  h.turnAt (rowR e s v' n' xs') hg ho (fun b hb => by
    rcases hv with e | e
    · exact .inl (by simpa [rowR, e] using hb)
    · simp only [rowR, e, Option.toList_some, List.mem_singleton] at hb; exact .inr (by omega))
section
variable {ops : Array Oper} {rest : List Oper} {o : Oper} {a : Act} {w : World} {Q : Exit → Act → World → Prop}
/-- 'append(v, y...)' where v is a thing held. -/
theorem app_held (l1 : List Res) {w0 : World} {l2 : List Res} (hgd : o.guard = none) (s x : Operand)
    (ho : o.op = .call { callee := .builtin .append, args := #[s, x], argTypes := #[45, 45] })
    (v : Value) (xs : List UInt8) (hs : a.eval s = v) (S : Held w0 w (l1 ++ rowR 5 1 v xs.length (bv xs) :: l2))
    (y : Value) (ys : List UInt8) (hx : a.eval x = y) (hr : Rd w 1 y ys.length (bv ys)) (hb : xs.length + ys.length ≤ 140737488355328)
    (h : ∀ v' w', Held w0 w' (l1 ++ rowR 5 1 v' (xs ++ ys).length (bv (xs ++ ys)) :: l2) → wpList Tryd.prog ops Q rest (a.put o.dst v') w') : wpList Tryd.prog ops Q (o :: rest) a w :=
  app_bytes hgd s x ho v xs hs (S.at_) y ys hx hr w0 S.k (fun g hg => S.base (rowR 5 1 v xs.length (bv xs)) (by simp) g (by simp [rowR, hg])) hb (fun v' w' o' _ k' _ h' => h v' w' (S.grown o' k' h'))
/-- 'append(nil, y...)': a new thing. -/
theorem app_new {w0 : World} {L : List Res} (hgd : o.guard = none) (s x : Operand)
    (ho : o.op = .call { callee := .builtin .append, args := #[s, x], argTypes := #[45, 45] })
    (hs : a.eval s = .slice none 0 0) (S : Held w0 w L)
    (y : Value) (ys : List UInt8) (hx : a.eval x = y) (hr : Rd w 1 y ys.length (bv ys)) (hb : ys.length ≤ 140737488355328)
    (h : ∀ v' w', Held w0 w' (rowR 5 1 v' ys.length (bv ys) :: L) → wpList Tryd.prog ops Q rest (a.put o.dst v') w') : wpList Tryd.prog ops Q (o :: rest) a w :=
  app_bytes hgd s x ho (.slice none 0 0) [] hs (World.ownsRow_nil _ _ _ _) y ys hx hr w0 S.k (by simp [Value.ownBlock]) (by simpa using hb) (fun v' w' o' _ k' _ h' => h v' w' (S.rownew (by simpa using o') (by simpa [Value.ownBlock] using k') (fun g hg => by
    rcases h' with e | e
    · rw [e] at hg; simp [Value.ownBlock] at hg
    · rw [e] at hg; cases hg; exact Nat.le_refl _)))
end
end Go.Proofs.YtolfckhjfadhdaaDoor
/- 'append(x, y...)' for bytes where x has no room (a constant's bytes: frozen): a new row. -/
namespace Go.Proofs.YtolfckhjfadhdaaDoor
open Go.RowKit
theorem run_app_full {P : Program} (w : World) (t ty e : TypeId) (i : TypeInfo) (z : Value) (ht : P.underlying t = some (.slice e)) (hi : P.info? e = some i) (hz : i.zero = some z)
    (hsize : i.size = 1) (hby : i.bytes = 1) (hzs : z.cells.size = 1) (ad : Addr) (n : Nat) (xs : List Value) (hv : Rd w 1 (.slice (some ad) n n) n xs)
    (x : Value) (m : Nat) (news : List Value) (hr : Rd w 1 x m news) (hm : 0 < m) (hbytes : n + m ≤ 140737488355328) :
    ∃ v' w', (Builtin.append_ #[t, t] ty #[.slice (some ad) n n, x]).run P w = .ok v' w' ∧ Ow w' e 1 v' (n + m) (xs ++ news) ∧ Kp [] w w' ∧ ∀ g, v'.ownBlock = some g → w.heap.size ≤ g := by
  obtain ⟨hl, A, c, rfl, hc1, hc2, hA, hcells⟩ := hr
  rcases A with _ | a
  · have := (hA rfl).1; omega
  have hnews := hcells a rfl
  obtain ⟨hlx, A2, c2, h2, -, -, -, hcx⟩ := hv
  have holds := hcx ad (by injection h2 with h; exact h.symm)
  have h63 : n + m ≤ maxLen := by unfold maxLen; omega
  have hrun := run_append_grow (P := P) w t ty e i z ht hi hz ad n n xs (by rw [hsize]; exact hlx) holds a m c news (by rw [hsize]; exact hl) hnews (by omega) (by omega) (by rw [hby]; exact growslice_fits (by omega) (by omega))
  have hge := grownCap_ge w (n + m) n e
  have hcm := grownCap_le_maxLen w (n + m) n e h63
  have hlen : (xs ++ news).length = (n + m) * 1 := by rw [List.length_append, hlx, hl]; omega
  refine ⟨_, _, hrun, ⟨hlen, .inr ⟨w.heap.size, _, _, rfl, Nat.zero_le _, heap_alloc_new w.drew _, hge, hcm, ?_, ?_⟩⟩, (Kp.refl [] w).drew.alloc _, fun g hg => ?_⟩
  · simp only [Array.size_append, List.size_toArray, size_zeroCells, hzs, hlx, hl]
    omega
  · simp only [Array.toList_append, List.append_assoc]
    rw [← List.append_assoc, ← hlen]
    exact List.take_left
  · exact Nat.le_of_eq (Option.some.inj hg)
theorem app_full {ops : Array Oper} {rest : List Oper} {o : Oper} {a : Act} {w : World} {Q : Exit → Act → World → Prop} (hgd : o.guard = none) (s x : Operand)
    (ho : o.op = .call { callee := .builtin .append, args := #[s, x], argTypes := #[45, 45] })
    (ad : Addr) (xs : List UInt8) (hs : a.eval s = .slice (some ad) xs.length xs.length) (hv : Rd w 1 (.slice (some ad) xs.length xs.length) xs.length (bv xs))
    (y : Value) (ys : List UInt8) (hx : a.eval x = y) (hr : Rd w 1 y ys.length (bv ys)) (hm : 0 < ys.length) (hb : xs.length + ys.length ≤ 140737488355328)
    (h : ∀ v' w', Ow w' 5 1 v' (xs ++ ys).length (bv (xs ++ ys)) → Kp [] w w' → (∀ g, v'.ownBlock = some g → w.heap.size ≤ g) → wpList Tryd.prog ops Q rest (a.put o.dst v') w') : wpList Tryd.prog ops Q (o :: rest) a w :=
  wpList_plain hgd fun K hK => by
    obtain ⟨i0, hi, hz0, hz1, hz2⟩ := info_parts Tryd.infoU8
    obtain ⟨v', w', hrun, h2, h3, h4⟩ := run_app_full (P := Tryd.prog) w 45 o.type 5 i0 _ Tryd.underlying45 hi hz0 hz1 hz2 rfl ad xs.length (bv xs) hv y ys.length (bv ys) hr hm hb
    rw [← bv_append, ← List.length_append] at h2
    unfold Oper.wp execOp
    simp only [ho, resolve, invoke, builtin, Sem.run_bind, Sem.run_pure, Result.andThen_ok, List.map_toArray, List.map_cons, List.map_nil, hs, hx, hrun]
    exact hK _ _ (h v' w' h2 h3 h4)
end Go.Proofs.YtolfckhjfadhdaaDoor
/- The reference's Form, Bytes. -/
namespace Go.Proofs.YtolfckhjfadhdaaDoor
open Go.RowKit
theorem pt_rd {w : World} {g : Nat} {t : TypeId} {s : Int} {h : List UInt8} (b : Blk w g t (ptA s h)) (hh : h.length = 32) : Rd w 1 (.slice (some ⟨g, 1, none⟩) 32 32) 32 (bv h) :=
  ⟨by rw [bv_length, hh], some ⟨g, 1, none⟩, 32, rfl, Nat.le_refl _, by unfold maxLen; omega, (fun e => by cases e), fun ad had => by cases had; exact pt_root b⟩
set_option maxRecDepth 100000 in
set_option maxHeartbeats 4000000 in
theorem rform_any (s : Int) (hs : -9223372036854775808 ≤ s ∧ s ≤ 9223372036854775807) (h : List UInt8) (hh : h.length = 32) (w : World) : Calls Tryd.prog 46 #[.agg (ptA s h)] w (NewRow (formL s h) w) := by
  have B0 := Lib.hid (Blk.new w 25 (ptA s h))
  have K0 := Lib.hid ((Kp.refl [] w).alloc (.cells (ptA s h) 25))
  have HH := Lib.hid hh
  clear hh
  have hrd : ∀ V, Kp [] (w.alloc (.cells (ptA s h) 25)) V → Rd V 1 (.slice (some ⟨w.heap.size, 1, none⟩) 32 32) 32 (bv h) := fun V kk => pt_rd (B0.out.kp kk (by simp)) HH.out
  have hc0 : ∀ V, Kp [] (w.alloc (.cells (ptA s h) 25)) V → V.cell? ⟨w.heap.size, 0, none⟩ = some (.int .i64 s) := fun V kk => pt_c0 (B0.out.kp kk (by simp))
  have HRd := Lib.hid hrd
  have HC0 := Lib.hid hc0
  clear hrd hc0
  obtain ⟨cs, HC⟩ : ∃ cs, Hid (ptA s h = cs) := ⟨_, Lib.hid rfl⟩
  rw [HC.out] at B0 K0 HRd HC0 ⊢
  have kc := conv_txt (w.alloc (.cells cs 25)) #[.int .u8 78, .int .u8 84, .int .u8 82, .int .u8 89] 4 4 (w.heap.size + 1) (World.size_alloc _ _).symm
  have R4 := Lib.hid (rd_txt (w.alloc (.cells cs 25)) 5 #[.int .u8 78, .int .u8 84, .int .u8 82, .int .u8 89] ntry (4, 5) rfl (by decide) rfl)
  rw [World.size_alloc] at R4
  have S1 := Lib.hid ((Held.start (w.alloc (.cells cs 25))).kp ((Kp.refl [] (w.alloc (.cells cs 25))).alloc (.cells #[.int .u8 78, .int .u8 84, .int .u8 82, .int .u8 89] 5 (4, 5))))
  have c0 := HC0.out _ S1.out.k
  go_enter Tryd.func46, Tryd.ntmps46
  go_wp2_with fail
  rw [wrap_u64_nat]
  generalize hW1 : w.alloc (.cells cs 25) = w1 at *
  generalize hg1 : w.heap.size = g1 at *
  clear hg1 kc
  refine (number_ref 8 (by decide) (tou64 s) (by unfold tou64; omega) _).mono ?_
  rintro e w3 ⟨v3, rfl, o3, k3, f3⟩
  have S3 := Lib.hid (S1.out.rownew o3 k3 f3)
  have R3 := Lib.hid (rd_old R4.out k3)
  obtain ⟨A3, c3, rfl, _, _⟩ := ow_form o3
  clear o3 k3 f3
  go_wp2_with (first
    | (at_builtin; refine app_full rfl (.tmp 5) (.tmp 9) rfl _ ntry rfl R3.out (.slice A3 8 c3) (be 8 (tou64 s)) rfl (by rw [be_length]; exact Rd.of_own (S3.out.at_ (l1 := []))) (by rw [be_length]; decide) (by rw [be_length]; decide) ?_; intro v4 w4 o4 k4 f4; have S4 := Lib.hid ((S3.out.rownew o4 k4 f4).sub (.cons_cons _ (.cons _ (List.Sublist.refl _)))); clear o4 k4 f4)
    | (at_builtin; refine app_held [] rfl (.tmp 11) (.tmp 13) rfl v4 (ntry ++ be 8 (tou64 s)) rfl S4.out (.slice (some ⟨g1, 1, none⟩) 32 32) h rfl (by rw [HH.out]; exact HRd.out _ S4.out.k) (by rw [HH.out, List.length_append, be_length]; decide) ?_; intro v5 w5 S'; rw [List.nil_append] at S'; have S5 := Lib.hid S'; clear S'))
  rw [show ntry ++ be 8 (tou64 s) ++ h = headL s h from rfl] at S5
  refine (rends_any v5 (headL s h) _ w5 (Rd.of_own (S5.out.at_ (l1 := [])))).mono ?_
  rintro e w6 ⟨v6, rfl, o6, k6, f6⟩
  have S6 := Lib.hid (S5.out.rownew o6 k6 f6)
  clear o6 k6 f6
  go_wp2_with (at_builtin; refine app_held [_] rfl (.tmp 15) (.tmp 17) rfl v5 (headL s h) rfl S6.out v6 (le4 (crc (headL s h))) rfl (Rd.of_own (S6.out.at_ (l1 := []))) (by rw [headL_length HH.out]; show 44 + 4 ≤ _; decide) ?_; intro v7 w7 S'; have S7 := Lib.hid S'; clear S')
  go_ret
  refine ⟨v7, rfl, S7.out.at_ (l1 := [_]), K0.out.trans S7.out.k (by simp), fun g hg => ?_⟩
  have h1 := S7.out.base (rowR 5 1 v7 (headL s h ++ le4 (crc (headL s h))).length (bv (headL s h ++ le4 (crc (headL s h))))) (by simp) g (by simp [rowR, hg])
  have h3 := K0.out.size
  omega
/-- Bytes of the reference. -/
theorem rbytes_any (s : Int) (hs : -9223372036854775808 ≤ s ∧ s ≤ 9223372036854775807) (h : List UInt8) (hh : h.length = 32) (w : World) : Calls Tryd.prog 22 #[.agg (ptA s h)] w (BytesPost s h w) := by
  have B0 := Lib.hid (Blk.new w 25 (ptA s h))
  have K0 := Lib.hid ((Kp.refl [] w).alloc (.cells (ptA s h) 25))
  have HH := Lib.hid hh
  have HPsz := Lib.hid (ptA_size (s := s) hh)
  have HF := Lib.hid (fun V => rform_any s hs h hh V)
  clear hh
  have c0 := pt_c0 B0.out
  obtain ⟨cs, HC⟩ : ∃ cs, Hid (ptA s h = cs) := ⟨_, Lib.hid rfl⟩
  by_cases h0 : s < 0
  · have HT : Hid (ptB s h = [] ∧ txE s = 2) := Lib.hid ⟨if_pos h0, if_pos h0⟩
    rw [HC.out] at B0 K0 c0 ⊢
    go_enter Tryd.func22, Tryd.ntmps22
    go_wp2
    go_ret2
    refine ⟨.slice none 0 0, by rw [HT.out.2]; rfl, ?_, K0.out, fun g hg => by cases hg⟩
    rw [HT.out.1]
    exact World.ownsRow_nil _ _ _ _
  · have HT : Hid (ptB s h = formL s h ∧ txE s = 0) := Lib.hid ⟨if_neg h0, if_neg h0⟩
    rw [HC.out] at B0 K0 c0 HPsz HF ⊢
    go_enter Tryd.func22, Tryd.ntmps22
    go_wp2_with (refine wpList_load_blk rfl 25 (.tmp 1) rfl w.heap.size rfl 25 _ B0.out _ Tryd.underlying25 rfl (by rw [HPsz.out]; exact Tryd.infoPointP) ?_)
    refine (HF.out _).mono ?_
    rintro e w6 ⟨v6, rfl, o6, k6, f6⟩
    have O6 := Lib.hid o6
    have F6 := Lib.hid f6
    clear o6 f6
    go_wp2_with fail
    go_ret2
    refine ⟨v6, by rw [HT.out.2]; rfl, by rw [HT.out.1]; exact O6.out, K0.out.trans k6 (by simp), fun g hg => ?_⟩
    have h1 := F6.out g hg
    have h3 := K0.out.size
    omega
end Go.Proofs.YtolfckhjfadhdaaDoor
/- WireReads: the reference's Hash. -/
namespace Go.Proofs.YtolfckhjfadhdaaDoor
open Go.RowKit

/-- The first j cells of a hash are there. -/
def hpart (cs : List UInt8) (j : Nat) : Array Value := hashA (cs.take j ++ List.replicate (32 - j) 0)
theorem hpart_zero (cs : List UInt8) : hpart cs 0 = hashA (List.replicate 32 0) := by simp [hpart]
theorem hpart_all (cs : List UInt8) (h : cs.length = 32) : hpart cs 32 = hashA cs := by simp [hpart, List.take_of_length_le (Nat.le_of_eq h)]
theorem hpart_size (cs : List UInt8) (h : cs.length = 32) (j : Nat) (hj : j ≤ 32) : (hpart cs j).size = 32 := by
  simp [hpart, hashA_size]; omega
theorem hpart_set (cs : List UInt8) (h : cs.length = 32) (j : Nat) (hj : j < 32) (b : UInt8) (hb : cs[j]? = some b) : (hpart cs j).setIfInBounds j (.int .u8 (b.toNat : Int)) = hpart cs (j + 1) := by
  apply Array.ext_getElem?
  intro i
  have hbv : ∀ l : List UInt8, ∀ i : Nat, (hashA l)[i]? = l[i]?.map fun b : UInt8 => Value.int .u8 (b.toNat : Int) := fun l i => by simp [hashA, bv_get]
  rw [Array.getElem?_setIfInBounds, hpart_size cs h j (by omega)]
  unfold hpart
  rw [hbv, hbv]
  by_cases e : j = i
  · subst e
    rw [if_pos rfl, if_pos hj, List.getElem?_append_left (by rw [List.length_take]; omega), List.getElem?_take, if_pos (by omega), hb]; rfl
  · rw [if_neg e]
    congr 1
    by_cases hi : i < j
    · rw [List.getElem?_append_left (by rw [List.length_take]; omega), List.getElem?_append_left (by rw [List.length_take]; omega), List.getElem?_take, List.getElem?_take, if_pos hi, if_pos (by omega)]
    · rw [List.getElem?_append_right (by rw [List.length_take]; omega), List.getElem?_append_right (by rw [List.length_take]; omega), List.length_take, List.length_take, List.getElem?_replicate, List.getElem?_replicate]
      by_cases h2 : i < 32
      · rw [if_pos (by omega), if_pos (by omega)]
      · rw [if_neg (by omega), if_neg (by omega)]


set_option maxRecDepth 100000 in
set_option maxHeartbeats 800000 in
theorem d_hash_end (d : Nat) (x : Value) (a : Nat) (bs : List UInt8) (hk : bs.length < a + 32) (w : World) (h : Dr w d x a bs) :
    Calls Tryd.prog 54 #[.pointer (some ⟨d, 0, none⟩)] w fun e w' => e = .returned (.tuple #[.agg (hashA (List.replicate 32 0)), .int .i64 110]) ∧ Kp [] w w' := by
  have hl := d_left d x a bs _ (h.kp0 (hashW_kp w))
  have Hl := Lib.hid hl
  have hlt : (bs.length : Int) - a < 32 := by have := h.le; omega
  clear hl
  go_enter Tryd.func54, Tryd.ntmps54
  go_wp2_with fail
  refine Hl.out.mono ?_
  rintro e w1 ⟨rfl, n, rfl⟩
  obtain ⟨hb1, hb2⟩ := hashW_blks w
  have b1 := hb1.drewN n
  have b2 := hb2.drewN n
  have k1 := (hashW_kp w).drewN n
  generalize (hashW w).drewN n = w1 at *
  have Hc := Lib.hid b2.agg
  go_wp2_with (first
    | (refine wpList_load_agg rfl 23 (.tmp 4) rfl ⟨w.heap.size + 1, 0, none⟩ rfl (bv (List.replicate 32 0)) _ Hc.out Tryd.underlying23 rfl (by rw [Tryd.infoHash]; rfl) ?_)
    | (refine wpList_store_agg rfl 23 (.tmp 2) (.tmp 9) rfl w.heap.size 0 rfl (hashA (List.replicate 32 0)) rfl 23 _ b1 (by rw [Tryd.infoHash]; rfl) (by decide) (bv_one _) ?_; intro w2 c2 k2))
  have e2 := set_all (hashA (List.replicate 32 0)) (hashA (List.replicate 32 0)) rfl
  rw [e2] at c2
  exact bodyPost_ret (results_cell_tmp (by rfl) rfl c2 Tryd.underlying23 rfl (by rw [Tryd.infoHash]; rfl)) rfl ⟨rfl, k1.trans k2 (by simp)⟩

set_option maxRecDepth 100000 in
set_option maxHeartbeats 1000000 in
theorem d_hash (d : Nat) (x : Value) (a : Nat) (bs : List UInt8) (hk : a + 32 ≤ bs.length) (w : World) (h : Dr w d x a bs) :
    Calls Tryd.prog 54 #[.pointer (some ⟨d, 0, none⟩)] w fun e w' => e = .returned (.tuple #[.agg (hashA ((bs.drop a).take 32)), .int .i64 0]) ∧ Dr w' d x (a + 32) bs ∧ Kp [d] w w' := by
  have hl := d_left d x a bs _ (h.kp0 (hashW_kp w))
  have Hl := Lib.hid hl
  have hlt : ¬ (bs.length : Int) - a < 32 := by have := h.le; omega
  have hlen := h.len
  have hdl := h.blk.lt
  have hcl : ((bs.drop a).take 32).length = 32 := by rw [List.length_take, List.length_drop]; omega
  have hxl : ∀ g, x.ownBlock = some g → bs ≠ [] → g < w.heap.size := fun g hg hne => rd_lt h.rd hg (fun e => hne (by cases bs with | nil => rfl | cons b bs => cases e))
  obtain ⟨A, c, rfl⟩ := rd_form h.rd
  clear hl
  go_enter Tryd.func54, Tryd.ntmps54
  go_wp2_with fail
  refine Hl.out.mono ?_
  rintro e w1 ⟨rfl, n, rfl⟩
  obtain ⟨hb1, hb2⟩ := hashW_blks w
  have b1 := hb1.drewN n
  have b2 := hb2.drewN n
  have k1 := (hashW_kp w).drewN n
  generalize (hashW w).drewN n = w1 at *
  go_wp2_with fail
  go_loopw [5] (fun t wr => ∃ j : Nat, j ≤ 32 ∧ t = .int .i64 (j : Int) ∧ Blk wr w.heap.size 23 (hashA (List.replicate 32 0)) ∧ Blk wr (w.heap.size + 1) 23 (hpart ((bs.drop a).take 32) j) ∧ Kp [] w wr) (fun t _ => 32 - (intOf t).toNat)
  case atStart => exact ⟨0, Nat.zero_le _, rfl, b1, by rw [hpart_zero]; exact b2, k1⟩
  case round =>
    obtain ⟨j, hj, rfl, c1, c2, k2⟩ := hrel
    have hd := h.kp0 k2
    by_cases hj2 : j < 32
    · obtain ⟨ad, rfl⟩ : ∃ ad, A = some ad := by
        cases A with
        | none => obtain ⟨_, A', c', hv, _, _, h3, _⟩ := h.rd; cases hv; have := (h3 rfl).1; omega
        | some ad => exact ⟨ad, rfl⟩
      have hbyte : ((bs.drop a).take 32)[j]? = some ((bs.drop a).take 32)[j] := List.getElem?_eq_getElem _
      generalize ((bs.drop a).take 32)[j] = y at hbyte
      have hcell : wr.cell? (ad.add (a + j)) = some (.int .u8 (y.toNat : Int)) := by
        obtain ⟨_, A', c', hv, _, _, _, h4⟩ := hd.rd
        cases hv
        refine h4 ad rfl (a + j) _ ?_
        rw [bv_get, ← List.getElem?_drop]
        rw [List.getElem?_take, if_pos hj2] at hbyte
        rw [hbyte]; rfl
      have e0 := hd.blk.cell 0
      have e1 := hd.blk.cell 1
      simp at e0 e1
      have hidx : ((a : Int) + (j : Int)).toNat = a + j := by omega
      have Hs := Lib.hid (hpart_set _ hcl j hj2 y hbyte)
      have hz := c2.frozen j
      have hl2 := c2.lt
      have hcj := c2.cell j
      have Hsz := Lib.hid (hpart_size _ hcl j hj)
      rw [Array.getElem?_eq_getElem (by rw [Hsz.out]; exact hj2)] at hcj
      generalize ((hpart ((bs.drop a).take 32) j)[j]'_) = y0 at hcj
      have C1 := Lib.hid c1
      have C2 := Lib.hid c2
      have hy := y.toNat_lt
      generalize y.toNat = yn at *
      clear c1 c2 hbyte b1 b2 hl2 hcl
      go_wp2_with fail
      have s0 : (fun V : World => V.cell? ⟨d, 0, none⟩ = some (.slice (some ad) bs.length c) ∧ V.cell? ⟨d, 1, none⟩ = some (.int .i64 (a : Int)) ∧ V.cell? (ad.add (a + j)) = some (.int .u8 (yn : Int))) wr.drew := ⟨e0, e1, hcell⟩
      refine wp_region_lexf [14] [14] (fun V : World => V.cell? ⟨d, 0, none⟩ = some (.slice (some ad) bs.length c) ∧ V.cell? ⟨d, 1, none⟩ = some (.int .i64 (a : Int)) ∧ V.cell? (ad.add (a + j)) = some (.int .u8 (yn : Int))) (by kernel_rfl) (by kernel_rfl) s0 (fun σ hne f hf hsur => ?_); have Hsur := Lib.hid hsur; clear hsur
      have hfa := fun y => (hf y).1
      have hfb := fun y => (hf y).2.1
      have hfc := fun y => (hf y).2.2
      clear hf
      go_wp2_with (first
        | (refine lex_qq Hsur.out rfl rfl rfl ?_; intro K hK; go_big_quiet_op; go_big_quiet_on) | (refine lex_skipk rfl ?_; intro K hK; go_simp; refine hK _ _ ?_; clear hK K) | (refine lex_e rfl rfl ?_; intro K hK; go_step) | (refine lex_nil ?_)
        | ((with_reducible apply And.intro); · (intro hl; first | (exact ls_absurd hl rfl) | trivial)))
      go_roundw
      case rel => exact ⟨j + 1, by omega, by go_num, C1.out.far (by simp) _, by rw [← Hs.out]; exact C2.out.set_ _ _, k2.drew.setCell (.inr (by simp)) _⟩
      case measure => simp [intOf]; omega
    · obtain rfl : j = 32 := by omega
      rw [hpart_all _ hcl] at c2
      have h1 : ∀ u ∈ (hashA ((bs.drop a).take 32)).toList, u.oneCell' = true := bv_one _
      have Hz := Lib.hid (show (hashA ((bs.drop a).take 32)).size = 32 by rw [hashA_size, hcl])
      obtain ⟨ha, hha⟩ : ∃ ha, ha = hashA ((bs.drop a).take 32) := ⟨_, rfl⟩
      rw [← hha] at h1 Hz c2
      have Hha := Lib.hid hha
      clear hha
      have e1 := hd.blk.cell 1
      simp at e1
      have e0 := hd.blk.cell 0
      simp at e0
      have f1 := hd.blk.frozen 1
      have hle := hd.le
      have Hc := Lib.hid (c2.far (g := w.heap.size + 1) (p := ⟨d, 1, none⟩) (by simp; omega) (.int .i64 ((a : Int) + 32))).agg
      have H1 := Lib.hid (c1.far (g := w.heap.size) (p := ⟨d, 1, none⟩) (by simp; omega) (.int .i64 ((a : Int) + 32)))
      obtain ⟨g1, kk⟩ := hd.set (b := a + 32) hk
      rw [Int.natCast_add] at g1 kk
      have hdl2 := hd.blk.lt
      clear hcl hk b1 b2 c1 c2
      go_wp2_with (first
        | (refine wpList_load_agg rfl 23 (.tmp 4) rfl ⟨w.heap.size + 1, 0, none⟩ rfl ha.toList _ Hc.out Tryd.underlying23 rfl (by rw [Tryd.infoHash, Array.length_toList, Hz.out]) ?_)
        | (refine wpList_store_agg rfl 23 (.tmp 2) (.tmp 36) rfl w.heap.size 0 rfl ha rfl 23 _ H1.out (by rw [Tryd.infoHash, Hz.out]) (by rw [Hz.out]; decide) h1 ?_; intro w2 c2 k3))
      have e2 := set_all (hashA (List.replicate 32 0)) ha (by rw [Hz.out]; rfl)
      rw [e2] at c2
      refine bodyPost_ret (results_cell_tmp (by rfl) rfl c2 Tryd.underlying23 rfl (by rw [Tryd.infoHash, Hz.out])) rfl ⟨by rw [Hha.out]; rfl, ?_, ?_⟩
      · exact g1.kp k3 (by simp; omega) (fun g hg hne hm => by simp at hm; have := hxl g hg hne; omega)
      · exact ((k2.more (by simp)).trans kk (fun g hg => .inl hg)).trans k3 (fun g hg => by simp at hg; right; omega)
end Go.Proofs.YtolfckhjfadhdaaDoor
/- Read of the reference. -/
namespace Go.Proofs.YtolfckhjfadhdaaDoor
open Go.RowKit
theorem rd_block_lt {w : World} {x : Value} {n : Nat} {xs : List Value} {g : Nat} (h : Rd w 1 x n xs) (hn : 0 < n) (hg : x.ownBlock = some g) : g < w.heap.size := by
  obtain ⟨hl, A, c, rfl, -, -, -, hc⟩ := h
  rcases A with _ | ad
  · cases hg
  · have h0 : xs[0]? = some xs[0] := List.getElem?_eq_getElem (by omega)
    have := cell_lt (hc ad rfl 0 _ h0)
    simp [Addr.add] at this
    obtain rfl : ad.block = g := Option.some.inj hg
    exact this
set_option maxRecDepth 100000 in
set_option maxHeartbeats 4000000 in
theorem ptrread_any (x : Value) (bs : List UInt8) (hn : bs.length ≤ 140737488355328) (w : World) (hx : Rd w 1 x bs.length (bv bs)) : Calls Tryd.prog 27 #[x] w (PtRdPost bs w) := by
  have HZ : Hid (zeroP.size = 33) := Lib.hid rfl
  have HZO := Lib.hid (ptA_one 0 (List.replicate 32 0))
  have HX := Lib.hid hx
  have S0 := Lib.hid ((Held.start w).newBlk 25 zeroP)
  obtain ⟨A, c, rfl⟩ := rd_form hx
  clear hx
  by_cases h48 : bs.length = 48
  · have H48 := Lib.hid h48
    have ht : ((bs.length : Int) != 48) = false := by rw [h48]; rfl
    clear h48
    go_enter Tryd.func27, Tryd.ntmps27
    go_wp2_with fail
    change Calls _ _ _ ((w.alloc (.cells zeroP 25)).alloc (.cells #[.slice A bs.length c, .int .i64 4] 99)) _
    have S1 := Lib.hid (S0.out.newBlk 99 #[.slice A bs.length c, .int .i64 4])
    rw [World.size_alloc] at S1
    have HNe : Hid ((Value.slice A bs.length c).ownBlock ≠ some (w.heap.size + 1)) := Lib.hid (fun e => by
      have := rd_block_lt HX.out (by rw [H48.out]; decide) e
      omega)
    generalize (w.alloc (.cells zeroP 25)).alloc (.cells #[.slice A bs.length c, .int .i64 4] 99) = w1 at *
    obtain ⟨g2, hg2⟩ : ∃ g2, w.heap.size = g2 := ⟨_, rfl⟩
    obtain ⟨g4, hg4⟩ : ∃ g4, g2 + 1 = g4 := ⟨_, rfl⟩
    rw [hg2, hg4] at S1 HNe ⊢
    clear hg2 hg4
    refine (d_number g4 _ 4 bs 8 (by decide) (by rw [H48.out]; decide) w1 ⟨S1.out.at_ (l1 := []), rd_old HX.out S1.out.k, by rw [H48.out]; decide, hn, fun _ => HNe.out⟩).mono ?_
    rintro e w2 ⟨rfl, D2, k2⟩
    have S2 := Lib.hid (Held.setBlk (l1 := []) S1.out D2.blk k2)
    clear D2 k2
    go_wp2_with fail
    refine (d_hash g4 _ 12 bs (by rw [H48.out]; decide) w2 ⟨S2.out.at_ (l1 := []), rd_old HX.out S2.out.k, by rw [H48.out]; decide, hn, fun _ => HNe.out⟩).mono ?_
    rintro e w3 ⟨rfl, D3, k3⟩
    have S3 := Lib.hid (Held.setBlk (l1 := []) S2.out D3.blk k3)
    clear D3 k3
    rw [show (bs.drop 12).take 32 = rdH bs from rfl]
    have hhl : (rdH bs).length = 32 := by unfold rdH; simp [H48.out]
    have hzb := rdS_bounds bs
    have hzn : wrap64 ((num ((bs.drop 4).take 8) : Nat) : Int) = rdS bs := rfl
    obtain ⟨z, Hz⟩ : ∃ z, Hid (rdS bs = z) := ⟨_, Lib.hid rfl⟩
    obtain ⟨hh, Hh⟩ : ∃ hh, Hid (rdH bs = hh) := ⟨_, Lib.hid rfl⟩
    rw [Hz.out] at hzb hzn
    rw [Hh.out] at hhl ⊢
    obtain ⟨nn, Hnn⟩ : ∃ nn, Hid (num ((bs.drop 4).take 8) = nn) := ⟨_, Lib.hid rfl⟩
    rw [Hnn.out] at hzn ⊢
    have Hhl := Lib.hid hhl
    have Hha : Hid ((hashA hh).size = 32) := Lib.hid (by rw [hashA_size, hhl])
    have Hho := Lib.hid (hashA_one hh)
    have HPsz := Lib.hid (ptA_size (s := z) hhl)
    clear hhl
    go_wp2_with (first
      | (refine wpList_store_blk rfl 23 (.tmp 7) (.tmp 22) rfl w3.heap.size rfl (hashA hh) rfl 23 _ (Blk.new w3 23 _) (by rw [Hha.out]; exact Tryd.infoHashP) (by rw [Hha.out]; rfl) Hho.out ?_; intro w4 b4 k4; have S4 := Lib.hid (Held.setBlk (l1 := []) (S3.out.newBlk 23 _) b4 k4); clear b4 k4)
      | (refine wpList_load_blk rfl 23 (.tmp 7) rfl w3.heap.size rfl 23 _ (S4.out.at_ (l1 := [])) _ Tryd.underlying23 rfl (by rw [Hha.out]; exact Tryd.infoHashP) ?_)
      | (refine wpList_build2 rfl 25 (.tmp 25) (.tmp 26) rfl (.int .i64 z) (.agg (hashA hh)) (by first | rfl | exact congrArg (Value.int .i64) hzn | exact congrArg (Value.int .i64) ((IntKind.wrap_i64 _).trans hzn)) rfl _ (Tryd.built_pt z hh Hhl.out) ?_)
      | (refine wpList_store_blk rfl 25 (.tmp 9) (.tmp 27) rfl w4.heap.size rfl (ptA z hh) (by kernel_rfl) 25 _ (Blk.new w4 25 _) (by rw [HPsz.out]; exact Tryd.infoPointP) (by rw [HPsz.out]; rfl) (ptA_one z hh) ?_; intro w5 b5 k5; have S5 := Lib.hid (Held.setBlk (l1 := []) (S4.out.newBlk 25 _) b5 k5); clear b5 k5))
    generalize hg9 : w4.heap.size = g9 at *
    clear hg9
    by_cases hz0 : z < 0
    · have HNo := Lib.hid (RV_no (bs := bs) (fun h => by have := h.2.1; rw [Hz.out] at this; omega))
      -- SEP rread19B
      refine wp_region_invG (fun i v W => match i with | 0 => v = .pointer (some ⟨g9, 0, none⟩) | 1 => v = .int .i64 z | 2 => v = .bool true | 3 => v = .bool true | 10 => v = .bool true | _ => True) (by kernel_rfl) (by kernel_rfl) (by kernel_rfl) ?_ ?_ ?_
      · intro i v W W' h _
        iterate 11 (rcases i with _ | i; · exact h)
        exact h
      · refine ⟨?_, ?_, ?_, ?_, ?_, ?_, ?_, ?_, ?_, ?_, ?_, trivial⟩
        · intro vs A' W hA hW hd K hK
          refine wpOp_free _ rfl rfl ?_
          have e9 : A'.tmps[9]?.getD undef = .pointer (some ⟨g9, 0, none⟩) := slot_is hA (by kernel_rfl) (Nat.le_of_ble_eq_true (by kernel_rfl)) (by kernel_rfl)
          go_step
          exact hK _ _ (Kp.refl _ _) rfl
        · intro vs A' W hA hW hd K hK
          refine wpOp_free _ rfl rfl ?_
          have f0 : vs 0 = .pointer (some ⟨g9, 0, none⟩) := hd 0 (by kernel_rfl)
          have e28 : A'.tmps[28]?.getD undef = vs 0 := slot_is hA (by kernel_rfl) (Nat.le_of_ble_eq_true (by kernel_rfl)) (by kernel_rfl)
          rw [f0] at e28
          have c0 := pt_c0 (Blk.kp (S5.out.at_ (l1 := [])).drew hW (by simp))
          go_step
          exact hK _ _ (Kp.refl _ _) rfl
        · intro vs A' W hA hW hd K hK
          refine wpOp_free _ rfl rfl ?_
          have f1 : vs 1 = .int .i64 z := hd 1 (by kernel_rfl)
          have e29 : A'.tmps[29]?.getD undef = vs 1 := slot_is hA (by kernel_rfl) (Nat.le_of_ble_eq_true (by kernel_rfl)) (by kernel_rfl)
          rw [f1] at e29
          have q : decide (z < 0) = true := decide_eq_true hz0
          go_step
          exact hK _ _ (Kp.refl _ _) rfl
        · intro vs A' W hA hW hd K hK
          refine wpOp_free _ rfl rfl ?_
          have f2 : vs 2 = .bool true := hd 2 (by kernel_rfl)
          have e30 : A'.tmps[30]?.getD undef = vs 2 := slot_is hA (by kernel_rfl) (Nat.le_of_ble_eq_true (by kernel_rfl)) (by kernel_rfl)
          rw [f2] at e30
          go_step
          exact hK _ _ (Kp.refl _ _) rfl
        · intro vs A' W hA hW hd K hK
          have f3 : vs 3 = .bool true := hd 3 (by kernel_rfl)
          have e31 : A'.tmps[31]?.getD undef = vs 3 := slot_is hA (by kernel_rfl) (Nat.le_of_ble_eq_true (by kernel_rfl)) (by kernel_rfl)
          rw [f3] at e31
          refine wpOp_skip _ rfl 3 31 false rfl rfl e31 ?_
          exact hK _ _ (Kp.refl _ _) trivial
        · intro vs A' W hA hW hd K hK
          have f3 : vs 3 = .bool true := hd 3 (by kernel_rfl)
          have e31 : A'.tmps[31]?.getD undef = vs 3 := slot_is hA (by kernel_rfl) (Nat.le_of_ble_eq_true (by kernel_rfl)) (by kernel_rfl)
          rw [f3] at e31
          refine wpOp_skip _ rfl 3 31 false rfl rfl e31 ?_
          exact hK _ _ (Kp.refl _ _) trivial
        · intro vs A' W hA hW hd K hK
          have f3 : vs 3 = .bool true := hd 3 (by kernel_rfl)
          have e31 : A'.tmps[31]?.getD undef = vs 3 := slot_is hA (by kernel_rfl) (Nat.le_of_ble_eq_true (by kernel_rfl)) (by kernel_rfl)
          rw [f3] at e31
          refine wpOp_skip _ rfl 3 31 false rfl rfl e31 ?_
          exact hK _ _ (Kp.refl _ _) trivial
        · intro vs A' W hA hW hd K hK
          have f3 : vs 3 = .bool true := hd 3 (by kernel_rfl)
          have e31 : A'.tmps[31]?.getD undef = vs 3 := slot_is hA (by kernel_rfl) (Nat.le_of_ble_eq_true (by kernel_rfl)) (by kernel_rfl)
          rw [f3] at e31
          refine wpOp_skip _ rfl 3 31 false rfl rfl e31 ?_
          exact hK _ _ (Kp.refl _ _) trivial
        · intro vs A' W hA hW hd K hK
          have f3 : vs 3 = .bool true := hd 3 (by kernel_rfl)
          have e31 : A'.tmps[31]?.getD undef = vs 3 := slot_is hA (by kernel_rfl) (Nat.le_of_ble_eq_true (by kernel_rfl)) (by kernel_rfl)
          rw [f3] at e31
          refine wpOp_skip _ rfl 3 31 false rfl rfl e31 ?_
          exact hK _ _ (Kp.refl _ _) trivial
        · intro vs A' W hA hW hd K hK
          have f3 : vs 3 = .bool true := hd 3 (by kernel_rfl)
          have e31 : A'.tmps[31]?.getD undef = vs 3 := slot_is hA (by kernel_rfl) (Nat.le_of_ble_eq_true (by kernel_rfl)) (by kernel_rfl)
          rw [f3] at e31
          refine wpOp_skip _ rfl 3 31 false rfl rfl e31 ?_
          exact hK _ _ (Kp.refl _ _) trivial
        · intro vs A' W hA hW hd K hK
          refine wpOp_free _ rfl rfl ?_
          have f3 : vs 3 = .bool true := hd 3 (by kernel_rfl)
          have e31 : A'.tmps[31]?.getD undef = vs 3 := slot_is hA (by kernel_rfl) (Nat.le_of_ble_eq_true (by kernel_rfl)) (by kernel_rfl)
          rw [f3] at e31
          have e37 : A'.tmps[37]?.getD undef = vs 9 := slot_is hA (by kernel_rfl) (Nat.le_of_ble_eq_true (by kernel_rfl)) (by kernel_rfl)
          go_step
          exact hK _ _ (Kp.refl _ _) rfl
      · intro vs W hW hp
        have p10 : vs 10 = .bool true := hp 10 (Nat.le_of_ble_eq_true rfl)
        clear hp
        have S6 := Lib.hid (S5.out.kp ((Kp.refl [] _).drew.trans hW (by simp)))
        simp only [putAll, p10, Act.put, List.setIfInBounds_toArray, List.set_cons_succ, List.set_cons_zero]
        clear p10 hW S5
      -- END rread19B
        go_wp2_with (refine wpList_store_blk rfl 25 (.tmp 2) (.tmp 39) rfl g2 rfl zeroP (by kernel_rfl) 25 _ (S6.out.at_ (l1 := [_, _, _])) (by rw [HZ.out]; exact Tryd.infoPointP) rfl HZO.out ?_; intro w9 b9 k9; have S9 := Lib.hid (Held.setBlk (l1 := [_, _, _]) S6.out b9 k9); clear b9 k9)
        refine bodyPost_ret (results_cell_tmp (by rfl) rfl (S9.out.at_ (l1 := [_, _, _])) Tryd.underlying25 rfl (by rw [HZ.out]; exact Tryd.infoPointP)) rfl ?_
        exact ⟨by rw [HNo.out.1, HNo.out.2]; rfl, S9.out.k⟩
    · obtain ⟨fl, Hfl⟩ : ∃ fl, Hid (formL z hh = fl) := ⟨_, Lib.hid rfl⟩
      have Hfll : Hid (fl.length = 48) := Lib.hid (by rw [← Hfl.out, formL_length Hhl.out])
      obtain ⟨bb, Hbb⟩ : ∃ bb, Hid ((!(fl == bs)) = bb) := ⟨_, Lib.hid rfl⟩
      -- SEP rread19A
      refine wp_region_invG (fun i v W => match i with | 0 => v = .pointer (some ⟨g9, 0, none⟩) | 1 => v = .int .i64 z | 2 => v = .bool false | 3 => v = .bool false | 4 => v = .agg (ptA z hh) | 5 => Rd W 1 (v) fl.length (bv fl) | 6 => v = .string ⟨fl.toArray⟩ | 7 => v = .slice A bs.length c | 8 => v = .string ⟨bs.toArray⟩ | 9 => v = .bool bb | 10 => v = .bool bb | _ => True) (by kernel_rfl) (by kernel_rfl) (by kernel_rfl) ?_ ?_ ?_
      · intro i v W W' h k
        iterate 5 (rcases i with _ | i; · exact h)
        rcases i with _ | i
        · exact Rd.kp h k (by simp)
        iterate 5 (rcases i with _ | i; · exact h)
        exact h
      · refine ⟨?_, ?_, ?_, ?_, ?_, ?_, ?_, ?_, ?_, ?_, ?_, trivial⟩
        · intro vs A' W hA hW hd K hK
          refine wpOp_free _ rfl rfl ?_
          have e9 : A'.tmps[9]?.getD undef = .pointer (some ⟨g9, 0, none⟩) := slot_is hA (by kernel_rfl) (Nat.le_of_ble_eq_true (by kernel_rfl)) (by kernel_rfl)
          go_step
          exact hK _ _ (Kp.refl _ _) rfl
        · intro vs A' W hA hW hd K hK
          refine wpOp_free _ rfl rfl ?_
          have f0 : vs 0 = .pointer (some ⟨g9, 0, none⟩) := hd 0 (by kernel_rfl)
          have e28 : A'.tmps[28]?.getD undef = vs 0 := slot_is hA (by kernel_rfl) (Nat.le_of_ble_eq_true (by kernel_rfl)) (by kernel_rfl)
          rw [f0] at e28
          have c0 := pt_c0 (Blk.kp (S5.out.at_ (l1 := [])).drew hW (by simp))
          go_step
          exact hK _ _ (Kp.refl _ _) rfl
        · intro vs A' W hA hW hd K hK
          refine wpOp_free _ rfl rfl ?_
          have f1 : vs 1 = .int .i64 z := hd 1 (by kernel_rfl)
          have e29 : A'.tmps[29]?.getD undef = vs 1 := slot_is hA (by kernel_rfl) (Nat.le_of_ble_eq_true (by kernel_rfl)) (by kernel_rfl)
          rw [f1] at e29
          have q : decide (z < 0) = false := decide_eq_false hz0
          go_step
          exact hK _ _ (Kp.refl _ _) rfl
        · intro vs A' W hA hW hd K hK
          refine wpOp_free _ rfl rfl ?_
          have f2 : vs 2 = .bool false := hd 2 (by kernel_rfl)
          have e30 : A'.tmps[30]?.getD undef = vs 2 := slot_is hA (by kernel_rfl) (Nat.le_of_ble_eq_true (by kernel_rfl)) (by kernel_rfl)
          rw [f2] at e30
          go_step
          exact hK _ _ (Kp.refl _ _) rfl
        · intro vs A' W hA hW hd K hK
          have f3 : vs 3 = .bool false := hd 3 (by kernel_rfl)
          have e31 : A'.tmps[31]?.getD undef = vs 3 := slot_is hA (by kernel_rfl) (Nat.le_of_ble_eq_true (by kernel_rfl)) (by kernel_rfl)
          rw [f3] at e31
          refine wpOp_go _ rfl 3 31 false rfl rfl e31 ?_
          have e9 : A'.tmps[9]?.getD undef = .pointer (some ⟨g9, 0, none⟩) := slot_is hA (by kernel_rfl) (Nat.le_of_ble_eq_true (by kernel_rfl)) (by kernel_rfl)
          refine op_runs (v := .agg (ptA z hh)) (w' := W) (exec_load rfl (by simpa [Act.eval] using e9) (run_pt_load (Blk.kp (S5.out.at_ (l1 := [])).drew hW (by simp)) Hhl.out)) ?_
          exact hK _ _ (Kp.refl _ _) rfl
        · intro vs A' W hA hW hd K hK
          have f3 : vs 3 = .bool false := hd 3 (by kernel_rfl)
          have e31 : A'.tmps[31]?.getD undef = vs 3 := slot_is hA (by kernel_rfl) (Nat.le_of_ble_eq_true (by kernel_rfl)) (by kernel_rfl)
          rw [f3] at e31
          refine wpOp_go _ rfl 3 31 false rfl rfl e31 ?_
          have f4 : vs 4 = .agg (ptA z hh) := hd 4 (by kernel_rfl)
          have e32 : A'.tmps[32]?.getD undef = vs 4 := slot_is hA (by kernel_rfl) (Nat.le_of_ble_eq_true (by kernel_rfl)) (by kernel_rfl)
          rw [f4] at e32
          go_step
          refine (rform_any z hzb hh Hhl.out W).mono ?_
          rintro e W' ⟨v, rfl, o, k', -⟩
          rw [Hfl.out] at o
          exact hK _ _ k' (Rd.of_own o)
        · intro vs A' W hA hW hd K hK
          have f3 : vs 3 = .bool false := hd 3 (by kernel_rfl)
          have e31 : A'.tmps[31]?.getD undef = vs 3 := slot_is hA (by kernel_rfl) (Nat.le_of_ble_eq_true (by kernel_rfl)) (by kernel_rfl)
          rw [f3] at e31
          refine wpOp_go _ rfl 3 31 false rfl rfl e31 ?_
          have f5 : Rd W 1 (vs 5) fl.length (bv fl) := hd 5 (by kernel_rfl)
          have e33 : A'.tmps[33]?.getD undef = vs 5 := slot_is hA (by kernel_rfl) (Nat.le_of_ble_eq_true (by kernel_rfl)) (by kernel_rfl)
          refine op_runs (v := .string ⟨fl.toArray⟩) (w' := W) (exec_convT rfl (by simpa [Act.eval] using e33) (strB f5)) ?_
          exact hK _ _ (Kp.refl _ _) rfl
        · intro vs A' W hA hW hd K hK
          have f3 : vs 3 = .bool false := hd 3 (by kernel_rfl)
          have e31 : A'.tmps[31]?.getD undef = vs 3 := slot_is hA (by kernel_rfl) (Nat.le_of_ble_eq_true (by kernel_rfl)) (by kernel_rfl)
          rw [f3] at e31
          refine wpOp_go _ rfl 3 31 false rfl rfl e31 ?_
          have e0 : A'.tmps[0]?.getD undef = .slice A bs.length c := slot_is hA (by kernel_rfl) (Nat.le_of_ble_eq_true (by kernel_rfl)) (by kernel_rfl)
          go_step
          exact hK _ _ (Kp.refl _ _) rfl
        · intro vs A' W hA hW hd K hK
          have f3 : vs 3 = .bool false := hd 3 (by kernel_rfl)
          have e31 : A'.tmps[31]?.getD undef = vs 3 := slot_is hA (by kernel_rfl) (Nat.le_of_ble_eq_true (by kernel_rfl)) (by kernel_rfl)
          rw [f3] at e31
          refine wpOp_go _ rfl 3 31 false rfl rfl e31 ?_
          have f7 : vs 7 = .slice A bs.length c := hd 7 (by kernel_rfl)
          have e35 : A'.tmps[35]?.getD undef = vs 7 := slot_is hA (by kernel_rfl) (Nat.le_of_ble_eq_true (by kernel_rfl)) (by kernel_rfl)
          rw [f7] at e35
          refine op_runs (v := .string ⟨bs.toArray⟩) (w' := W) (exec_convT rfl (by simpa [Act.eval] using e35) (strB (rd_old HX.out (S5.out.k.trans ((Kp.refl [] _).drew.trans hW (by simp)) (by simp))))) ?_
          exact hK _ _ (Kp.refl _ _) rfl
        · intro vs A' W hA hW hd K hK
          have f3 : vs 3 = .bool false := hd 3 (by kernel_rfl)
          have e31 : A'.tmps[31]?.getD undef = vs 3 := slot_is hA (by kernel_rfl) (Nat.le_of_ble_eq_true (by kernel_rfl)) (by kernel_rfl)
          rw [f3] at e31
          refine wpOp_go _ rfl 3 31 false rfl rfl e31 ?_
          have f6 : vs 6 = .string ⟨fl.toArray⟩ := hd 6 (by kernel_rfl)
          have e34 : A'.tmps[34]?.getD undef = vs 6 := slot_is hA (by kernel_rfl) (Nat.le_of_ble_eq_true (by kernel_rfl)) (by kernel_rfl)
          rw [f6] at e34
          have f8 : vs 8 = .string ⟨bs.toArray⟩ := hd 8 (by kernel_rfl)
          have e36 : A'.tmps[36]?.getD undef = vs 8 := slot_is hA (by kernel_rfl) (Nat.le_of_ble_eq_true (by kernel_rfl)) (by kernel_rfl)
          rw [f8] at e36
          go_step
          exact hK _ _ (Kp.refl _ _) (congrArg Value.bool Hbb.out)
        · intro vs A' W hA hW hd K hK
          refine wpOp_free _ rfl rfl ?_
          have f3 : vs 3 = .bool false := hd 3 (by kernel_rfl)
          have e31 : A'.tmps[31]?.getD undef = vs 3 := slot_is hA (by kernel_rfl) (Nat.le_of_ble_eq_true (by kernel_rfl)) (by kernel_rfl)
          rw [f3] at e31
          have f9 : vs 9 = .bool bb := hd 9 (by kernel_rfl)
          have e37 : A'.tmps[37]?.getD undef = vs 9 := slot_is hA (by kernel_rfl) (Nat.le_of_ble_eq_true (by kernel_rfl)) (by kernel_rfl)
          rw [f9] at e37
          go_step
          exact hK _ _ (Kp.refl _ _) rfl
      · intro vs W hW hp
        have p10 : vs 10 = .bool bb := hp 10 (Nat.le_of_ble_eq_true rfl)
        clear hp
        have S6 := Lib.hid (S5.out.kp ((Kp.refl [] _).drew.trans hW (by simp)))
        simp only [putAll, p10, Act.put, List.setIfInBounds_toArray, List.set_cons_succ, List.set_cons_zero]
        clear p10 hW S5
      -- END rread19A
        by_cases hq : fl = bs
        · have HYes := Lib.hid (RV_yes (bs := bs) ⟨H48.out, by rw [Hz.out]; omega, by rw [Hz.out, Hh.out, Hfl.out]; exact hq⟩)
          obtain rfl : bb = false := by rw [← Hbb.out, hq, beq_self_eq_true]; rfl
          clear hq
          go_wp2_with (first
            | (refine wpList_load_blk rfl 25 (.tmp 9) rfl g9 rfl 25 _ (S6.out.at_ (l1 := [])) _ Tryd.underlying25 rfl (by rw [HPsz.out]; exact Tryd.infoPointP) ?_)
            | (refine wpList_store_blk rfl 25 (.tmp 2) (.tmp 40) rfl g2 rfl (ptA z hh) (by kernel_rfl) 25 _ (S6.out.at_ (l1 := [_, _, _])) (by rw [HPsz.out]; exact Tryd.infoPointP) (by rw [HPsz.out, HZ.out]) (ptA_one z hh) ?_; intro w9 b9 k9; have S9 := Lib.hid (Held.setBlk (l1 := [_, _, _]) S6.out b9 k9); clear b9 k9))
          refine bodyPost_ret (results_cell_tmp (by rfl) rfl (S9.out.at_ (l1 := [_, _, _])) Tryd.underlying25 rfl (by rw [HPsz.out]; exact Tryd.infoPointP)) rfl ?_
          exact ⟨by rw [HYes.out.1, HYes.out.2, Hz.out, Hh.out]; rfl, S9.out.k⟩
        · have HNo := Lib.hid (RV_no (bs := bs) (fun h => hq (by have := h.2.2; rw [Hz.out, Hh.out, Hfl.out] at this; exact this)))
          obtain rfl : bb = true := by
            rw [← Hbb.out, beq_false_of_ne hq]; rfl
          clear hq
          go_wp2_with (refine wpList_store_blk rfl 25 (.tmp 2) (.tmp 39) rfl g2 rfl zeroP (by kernel_rfl) 25 _ (S6.out.at_ (l1 := [_, _, _])) (by rw [HZ.out]; exact Tryd.infoPointP) rfl HZO.out ?_; intro w9 b9 k9; have S9 := Lib.hid (Held.setBlk (l1 := [_, _, _]) S6.out b9 k9); clear b9 k9)
          refine bodyPost_ret (results_cell_tmp (by rfl) rfl (S9.out.at_ (l1 := [_, _, _])) Tryd.underlying25 rfl (by rw [HZ.out]; exact Tryd.infoPointP)) rfl ?_
          exact ⟨by rw [HNo.out.1, HNo.out.2]; rfl, S9.out.k⟩
  · have HNo := Lib.hid (RV_no (bs := bs) (fun h => h48 h.1))
    have ht : ((bs.length : Int) != 48) = true := by simp; omega
    clear h48
    go_enter Tryd.func27, Tryd.ntmps27
    go_wp2_with (refine wpList_store_blk rfl 25 (.tmp 2) (.tmp 13) rfl w.heap.size rfl zeroP (by kernel_rfl) 25 _ (S0.out.at_ (l1 := [])) (by rw [HZ.out]; exact Tryd.infoPointP) rfl HZO.out ?_; intro w9 b9 k9; have S9 := Lib.hid (Held.setBlk (l1 := []) S0.out b9 k9); clear b9 k9)
    refine bodyPost_ret (results_cell_tmp (by rfl) rfl (S9.out.at_ (l1 := [])) Tryd.underlying25 rfl (by rw [HZ.out]; exact Tryd.infoPointP)) rfl ?_
    exact ⟨by rw [HNo.out.1, HNo.out.2]; rfl, S9.out.k⟩
end Go.Proofs.YtolfckhjfadhdaaDoor
/- PointReads: the walk of the law. -/
namespace Go.Proofs.YtolfckhjfadhdaaDoor
open Go.RowKit
theorem RV_cases (l : List UInt8) : ∃ (z : Int) (hh : List UInt8) (E : Int), RVs l = (z, hh) ∧ REs l = E ∧ hh.length = 32 ∧ (E = 290 ∨ E = 0 ∧ ptB z hh = l ∧ txE z = 0) := by
  by_cases h : RVok l
  · obtain ⟨h1, h2⟩ := RV_yes h
    exact ⟨_, _, _, h1, h2, by have := h.1; unfold rdH; rw [List.length_take, List.length_drop]; omega, .inr ⟨rfl, (if_neg (by have := h.2.1; omega)).trans h.2.2, if_neg (by have := h.2.1; omega)⟩⟩
  · obtain ⟨h1, h2⟩ := RV_no h
    exact ⟨_, _, _, h1, h2, by simp, .inl rfl⟩
theorem ptrd_front {W : World} {g n m c : Nat} {bs cs : List UInt8} (hl : bs.length = n) (hnm : n ≤ m) (h0 : 0 < m) (h : Ow W 5 1 (.slice (some ⟨g, 0, none⟩) m c) m (bv (bs ++ cs))) : Rd W 1 (.slice (some ⟨g, 0, none⟩) n c) n (bv bs) := by
  have := ow_take h (m := n) hnm h0
  rw [Nat.mul_one, bv_append, List.take_left' (by rw [bv_length]; exact hl)] at this
  exact Rd.of_own this
set_option maxRecDepth 100000 in
set_option maxHeartbeats 8000000 in
theorem pointreads_any (w : World) (x : Value) (bs : List UInt8) (hr : Rd w 1 x bs.length (bv bs)) (hn : bs.length ≤ 140737488351232) (L : LD w) : Calls Tryd.prog 7 #[x] w fun e w' => e = .returned (.bool true) ∧ Kp [] w w' := by
  have HL := Lib.hid L
  have HX := Lib.hid hr
  obtain ⟨i0, hi, hz0, hz1, hz2⟩ := info_parts Tryd.infoU8
  obtain ⟨z, hh, E, h1, h2, h3, h4⟩ := RV_cases bs
  have HH := Lib.hid h3
  have HC := Lib.hid h4
  have HPsz := Lib.hid (ptA_size (s := z) h3)
  have HPO := Lib.hid (ptA_one z hh)
  have HP1 := Lib.hid (fun V y (r : Rd V 1 y bs.length (bv bs)) => ptread_any y bs (by omega) V r)
  have HP2 := Lib.hid (fun V y (r : Rd V 1 y bs.length (bv bs)) => ptrread_any y bs (by omega) V r)
  have HSa := Lib.hid (fun V y y' (r : Rd V 1 y bs.length (bv bs)) (r' : Rd V 1 y' bs.length (bv bs)) => same_true y y' bs bs.length bs.length V r r')
  unfold PtRdPost at HP1 HP2
  rw [h1, h2] at HP1 HP2
  simp only at HP1 HP2
  obtain ⟨A, c, rfl⟩ := rd_form hr
  clear L h1 h2 h3 h4 hr
  obtain ⟨n, Hn⟩ : ∃ n, Hid (bs.length = n) := ⟨_, Lib.hid rfl⟩
  have Hbl : Hid (bs.length = n) := Hn
  rw [Hn.out] at hn HX HP1 HP2 HSa ⊢
  go_enter Tryd.func7, Tryd.ntmps7
  go_wp2_with (at_builtin; refine wpList_app _ rfl (.const (.slice none 0 0)) (.tmp 10) _ rfl 5 i0 _ 1 1 Tryd.underlying45 hi hz0 hz1 hz2 rfl (by decide) _ 0 [] rfl (World.ownsRow_nil _ _ _ _) (.slice A n c) n (bv bs) rfl HX.out (bv_one _) (by unfold maxLen; omega) (by omega) ?_)
  intro v1 w1 hown1 hg1 hat1
  go_wp2_with (at_builtin; go_loud (refine wpList_app _ rfl (.tmp 11) (.tmp 12) _ rfl 5 i0 _ 1 1 Tryd.underlying45 hi hz0 hz1 hz2 rfl (by decide) v1 n (bv bs) rfl (by simpa using hown1.alloc _) (.slice (some ⟨w1.heap.size, 0, none⟩) 1 1) 1 (bv [165]) rfl (rd_lit w1 5 _ [165] rfl (by decide)) (bv_one _) (by unfold maxLen; omega) (by omega) ?_))
  intro v2 w2 hown2 hg2 hat2
  obtain ⟨g, c2, rfl, hc2, hc3⟩ := ow_some hown2 (by omega)
  have hc4 : c2 ≤ 9223372036854775807 := by unfold maxLen at hc3; omega
  have hf : w.heap.size ≤ g := by
    rcases hat2 with h | h
    · rcases hat1 with h1 | h1
      · rw [h1] at h; cases h
      · rw [h1] at h; simp [Value.ownBlock] at h; omega
    · simp [Value.ownBlock] at h; have := hg1.size; omega
  have k2 : Kp [] w w2 := by
    have k1 : Kp [] w w1 := (Kp.refl [] w).grown hg1 (by simp [Value.ownBlock])
    refine (k1.alloc _).grown hg2 ?_
    intro b hb
    rcases hat1 with h1 | h1
    · rw [h1] at hb; cases hb
    · rw [h1] at hb; cases hb; exact .inr (Nat.le_refl _)
  rw [← bv_append] at hown2
  have S2 := Lib.hid ((Held.start w).rownew hown2 k2 (by simp [Value.ownBlock]; exact hf))
  have HF := Lib.hid (fun V (o : Ow V 5 1 (.slice (some ⟨g, 0, none⟩) (n + 1) c2) (n + 1) (bv (bs ++ [165]))) => ptrd_front Hbl.out (Nat.le_succ n) (Nat.succ_pos n) o)
  clear hown1 hown2 hg1 hg2 hat1 hat2 hf k2
  go_wp2_with fail
  refine (HP1.out w2 _ (HF.out _ (S2.out.at_ (l1 := [])))).mono ?_
  rintro e w3 ⟨rfl, k3⟩
  have S3 := Lib.hid (S2.out.kp k3)
  clear k3
  go_wp2_with (refine wpList_store_blk rfl 25 (.tmp 4) (.tmp 20) rfl w3.heap.size rfl (ptA z hh) rfl 25 _ (Blk.new w3 25 _) (by rw [HPsz.out]; exact Tryd.infoPointP) (by rw [HPsz.out]; rfl) HPO.out ?_; intro w4 b4 k4; have S4 := Lib.hid (Held.setBlk (l1 := []) (S3.out.newBlk 25 _) b4 k4); clear b4 k4)
  generalize w3.heap.size = g4 at *
  refine (HP2.out w4 _ (rd_old HX.out S4.out.k)).mono ?_
  rintro e w5 ⟨rfl, k5⟩
  have S5 := Lib.hid (S4.out.kp k5)
  clear k5
  have hq := fun W => neq_pt W z z hh hh HH.out HH.out
  simp only [decide_true, beq_self_eq_true, Bool.and_self, Bool.not_true] at hq
  go_wp2_with (first
    | (refine wpList_store_blk rfl 25 (.tmp 6) (.tmp 25) rfl w5.heap.size rfl (ptA z hh) rfl 25 _ (Blk.new w5 25 _) (by rw [HPsz.out]; exact Tryd.infoPointP) (by rw [HPsz.out]; rfl) HPO.out ?_; intro w6 b6 k6; have S6 := Lib.hid (Held.setBlk (l1 := []) (S5.out.newBlk 25 _) b6 k6); clear b6 k6; have hc := (S6.out.at_ (l1 := [_, _])).cellAt (g := g) n (by omega); rw [bv_get, List.getElem?_append_right (by rw [Hbl.out]; omega), Hbl.out, Nat.sub_self] at hc; simp at hc)
    | (go_at_call 13; refine (num19_any _ _).mono ?_; rintro e w' ⟨rfl, rfl⟩)
    | (go_at_call 24; (with_reducible refine (HSa.out _ _ _ (HF.out _ (S6.out.at_ (l1 := [_, _]))) (rd_old HX.out S6.out.k)).mono ?_); rintro e w' ⟨rfl, rfl⟩)
    | (refine wpList_load_blk rfl 25 (.tmp 4) rfl g4 rfl 25 _ (S6.out.at_ (l1 := [_])) _ Tryd.underlying25 rfl (by rw [HPsz.out]; exact Tryd.infoPointP) ?_)
    | (refine wpList_load_blk rfl 25 (.tmp 6) rfl w5.heap.size rfl 25 _ (S6.out.at_ (l1 := [])) _ Tryd.underlying25 rfl (by rw [HPsz.out]; exact Tryd.infoPointP) ?_))
  · refine (known_any w6 (HL.out.kp S6.out.k)).mono ?_
    rintro e w9 ⟨rfl, k9⟩
    have K9 := Lib.hid (S6.out.k.trans k9 (by simp))
    clear k9
    go_wp2_with fail
    go_ret
    exact ⟨rfl, K9.out⟩
  · have hE : (E != 0) = false := by assumption
    have hE0 : E = 0 := by simpa using hE
    obtain ⟨f1, f2⟩ : ptB z hh = bs ∧ txE z = 0 := by
      rcases HC.out with h | ⟨-, h1, h2⟩
      · omega
      · exact ⟨h1, h2⟩
    refine (pbytes_any z hh HH.out w6).mono ?_
    rintro e w7 ⟨v7, rfl, o7, k7, f7⟩
    rw [f1, Hbl.out] at o7
    rw [f2]
    have S7 := Lib.hid (S6.out.rownew o7 k7 f7)
    obtain ⟨A7, c7, rfl, _, _⟩ := ow_form o7
    clear o7 k7 f7 f1 f2
    go_wp2_with (first
      | (go_at_call 13; refine (num19_any _ _).mono ?_; rintro e w' ⟨rfl, rfl⟩)
      | (go_at_call 24; (with_reducible refine (HSa.out _ _ _ (Rd.of_own (S7.out.at_ (l1 := []))) (rd_old HX.out S7.out.k)).mono ?_); rintro e w' ⟨rfl, rfl⟩))
    refine (known_any w7 (HL.out.kp S7.out.k)).mono ?_
    rintro e w9 ⟨rfl, k9⟩
    have K9 := Lib.hid (S7.out.k.trans k9 (by simp))
    clear k9
    go_wp2_with fail
    go_ret
    exact ⟨rfl, K9.out⟩
end Go.Proofs.YtolfckhjfadhdaaDoor
