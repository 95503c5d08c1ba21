/- Several texts in one: CrcE, SpM, PtM, Texts, Equal, WireA, WireB, WireC, WireD, WireR, WireS, Txt, Fence, Range, Marks, PtA, ShaB, ShaC, PtD, PtB, PtC, Reg, ShaD, ShaR, ShaF, ShaW. -/
import Derived.RangeFuncNested
import Derived.RangeFuncBound
import Derived.RangeFuncCalls
import Derived.RangeFuncLeaves
import Derived.Shelf.Abstract
import Derived.Shelf.RegionOpen
import Derived.WalkKit
import Derived.OwnWalkIn
import Derived.TacticsInMore
import Derived.LoopNIn
import Derived.LoopN
import Derived.LoopIn
import Derived.Laws.Tables
import Derived.Great.BuildSlice
import Derived.Lib.Strings
import Derived.Test.YtapboamjpilckaaDoorP1
/- Walks of package crc: moves made. -/
namespace Go.Proofs.YtapboamjpilckaaDoor
open Go.RowKit

theorem results_cell1 {P : Program} {fn : Func} {w : World} {tmps : Array Value} {a t g : Nat} {t' : TypeId} {cs : Array Value} {d : TypeDesc} (h : fn.results = #[.cell a t]) (ha : tmps.getD a undef = .pointer (some ⟨g, 0, none⟩)) (hb : Blk w g t' cs)
    (hu : P.underlying t = some d) (hd : aggB d = true) (hi : (P.info? t).map (·.size) = some cs.size) : (results fn tmps).run P w = .ok (.agg cs) w := by
  have hl : (loadCells ⟨g, 0, none⟩ cs.size).run P w = .ok cs w := by
    have := run_loadCells_list (P := P) w ⟨g, 0, none⟩ cs.toList hb.agg
    simpa using this
  cases hq : P.info? t with
  | none => simp [hq] at hi
  | some i =>
    have hs : i.size = cs.size := by simpa [hq] using hi
    simp only [Array.getD_eq_getD_getElem?] at ha
    simp [results, h, ha, loadVar, asAddr, Sem.run_bind, run_isAgg hu hd, sizeOf, typeInfo, hq, hs, hl]
/-! ### Moves held against one another -/
section
variable {P : Program} (w : World)
end
end Go.Proofs.YtapboamjpilckaaDoor
/- Entries spelt as texts: the plain mathematics. -/
namespace Go.Proofs.YtapboamjpilckaaDoor
/-- Does a byte stand as it is? -/
def pln (c : UInt8) : Bool := decide (32 ≤ c.toNat) && decide (c.toNat ≤ 126) && decide (c.toNat ≠ 34) && decide (c.toNat ≠ 92)
/-- A digit to the base 16. -/
def hx (n : Nat) : UInt8 := if n < 10 then UInt8.ofNat (48 + n) else UInt8.ofNat (87 + n)
/-- What a byte says to the base 16; 99: nothing. -/
def dg (c : UInt8) : Nat := if 48 ≤ c.toNat ∧ c.toNat ≤ 57 then c.toNat - 48 else if 97 ≤ c.toNat ∧ c.toNat ≤ 102 then c.toNat - 87 else 99
def sp (c : UInt8) : List UInt8 := if pln c then [c] else [92, 120, hx (c.toNat / 16), hx (c.toNat % 16)]
theorem all256 {p : Nat → Bool} (h : (List.range 256).all p = true) {n : Nat} (hn : n < 256) : p n = true := List.all_eq_true.1 h n (List.mem_range.2 hn)
/-- The definition's loose reading, behind the first byte: what escapes seem to say. -/
def lo : Nat → List UInt8 → Option (List UInt8)
  | 0, _ => some []
  | n + 1, t =>
    if t.length < 2 then some [] else
      if t[0]? = some 92 then
        if t.length < 4 then none else
          if dg (t.getD 2 0) < 16 ∧ dg (t.getD 3 0) < 16 then (lo n (t.drop 4)).map (UInt8.ofNat (16 * dg (t.getD 2 0) + dg (t.getD 3 0)) :: ·) else none
      else (lo n (t.drop 1)).map (t.getD 0 0 :: ·)
end Go.Proofs.YtapboamjpilckaaDoor
/- Points as texts and bytes: the plain mathematics. -/
namespace Go.Proofs.YtapboamjpilckaaDoor
def digL : List UInt8 := [48, 49, 50, 51, 52, 53, 54, 55, 56, 57, 97, 98, 99, 100, 101, 102]
theorem digL_get {n : Nat} (h : n < 16) : digL[n]? = some (hx n) := by
  have := all256 (p := fun n => decide (n < 16 → digL[n]? = some (hx n))) (by decide +kernel) (show n < 256 by omega)
  exact of_decide_eq_true this h
/-- A byte's two digits; a hash's. -/
def hex2 (c : UInt8) : List UInt8 := [hx (c.toNat / 16), hx (c.toNat % 16)]
def hexS (h : List UInt8) : List UInt8 := h.flatMap hex2
theorem hexS_cons (c : UInt8) (h : List UInt8) : hexS (c :: h) = hex2 c ++ hexS h := rfl
theorem hexS_length (h : List UInt8) : (hexS h).length = 2 * h.length := by
  induction h with
  | nil => rfl
  | cons c h ih => rw [hexS_cons, List.length_append, ih]; simp [hex2]; omega
theorem hexS_take_succ {h : List UInt8} {k : Nat} {c : UInt8} (e : h[k]? = some c) : hexS (h.take (k + 1)) = hexS (h.take k) ++ hex2 c := by
  rw [List.take_add_one, e]
  simp [hexS]
end Go.Proofs.YtapboamjpilckaaDoor
/- Lists of texts in memory: a slice of slices of bytes. -/
namespace Go.Proofs.YtapboamjpilckaaDoor
open Go.RowKit

/-- The slice v holds the texts L, wherever it and they lie. -/
def Txs (w : World) (v : Value) (L : List (List UInt8)) : Prop :=
  ∃ vs, Rd w 1 v L.length vs ∧ ∀ i (h : i < L.length), ∃ u, vs[i]? = some u ∧ Rd w 1 u L[i].length (bv L[i])
/-- Where it lies. -/
def TxsIn (w : World) (v : Value) (L : List (List UInt8)) (S : List Nat) : Prop :=
  ∃ vs, Rd w 1 v L.length vs ∧ (∀ i (h : i < L.length), ∃ u, vs[i]? = some u ∧ Rd w 1 u L[i].length (bv L[i]) ∧ ∀ g, u.ownBlock = some g → L[i] ≠ [] → g ∈ S) ∧ ∀ g, v.ownBlock = some g → L ≠ [] → g ∈ S
section
variable {w w' : World} {v : Value} {L : List (List UInt8)} {S T : List Nat}
theorem TxsIn.txs (h : TxsIn w v L S) : Txs w v L := by
  obtain ⟨vs, h1, h2, _⟩ := h
  exact ⟨vs, h1, fun i hi => by obtain ⟨u, a, b, _⟩ := h2 i hi; exact ⟨u, a, b⟩⟩
theorem TxsIn.kp (h : TxsIn w v L S) (hk : Kp T w w') (hn : ∀ g, g ∈ S → g ∉ T) : TxsIn w' v L S := by
  obtain ⟨vs, h1, h2, h3⟩ := h
  refine ⟨vs, h1.kpl hk (fun g hg hne => hn g (h3 g hg (fun e => ?_))), fun i hi => ?_, h3⟩
  · subst e
    exact hne (List.eq_nil_of_length_eq_zero (by simpa using h1.1))
  · obtain ⟨u, a, b, c⟩ := h2 i hi
    exact ⟨u, a, b.kpl hk (fun g hg hne => hn g (c g hg (bv_ne hne))), c⟩
theorem Txs.kp0 (h : Txs w v L) (hk : Kp [] w w') : Txs w' v L := by
  obtain ⟨vs, h1, h2⟩ := h
  exact ⟨vs, rd_old h1 hk, fun i hi => by obtain ⟨u, a, b⟩ := h2 i hi; exact ⟨u, a, rd_old b hk⟩⟩
theorem Txs.open_ (h : Txs w v L) : ∃ A c, v = .slice A L.length c ∧ (0 < L.length → ∃ ad, A = some ad) ∧ ∀ ad, A = some ad → ∀ i (h : i < L.length), ∃ u, w.cell? (ad.add i) = some u ∧ Rd w 1 u L[i].length (bv L[i]) := by
  obtain ⟨vs, ⟨hl, A, c, rfl, _, _, hA, hc⟩, h2⟩ := h
  refine ⟨A, c, rfl, fun h0 => ?_, fun ad had i hi => ?_⟩
  · cases A with
    | none => have := (hA rfl).1; omega
    | some ad => exact ⟨ad, rfl⟩
  · obtain ⟨u, a, b⟩ := h2 i hi
    exact ⟨u, hc ad had i u a, b⟩
end
/-- The block of a text that is not empty. -/
def fpB (u : Value) (bs : List UInt8) : List Nat := if bs = [] then [] else u.ownBlock.toList
theorem fpB_mem {u : Value} {bs : List UInt8} {g : Nat} (h : u.ownBlock = some g) (hne : bs ≠ []) : g ∈ fpB u bs := by simp [fpB, hne, h]
theorem txsIn2 {w : World} {u1 u2 : Value} {b1 b2 : List UInt8} {n1 n2 : Nat} (t : TypeId) (h1 : Rd w 1 u1 n1 (bv b1)) (h2 : Rd w 1 u2 n2 (bv b2)) :
    TxsIn (w.alloc (.cells #[u1, u2] t)) (.slice (some ⟨w.heap.size, 0, none⟩) 2 2) [b1, b2] (w.heap.size :: (fpB u1 b1 ++ fpB u2 b2)) := by
  have hn1 : n1 = b1.length := by have := h1.1; rw [bv_length] at this; omega
  have hn2 : n2 = b2.length := by have := h2.1; rw [bv_length] at this; omega
  subst hn1 hn2
  refine ⟨[u1, u2], Rd.of_own (ow_new w t 1 2 #[u1, u2] rfl (by decide)), fun i hi => ?_, fun g hg _ => by simp [Value.ownBlock] at hg; simp [hg]⟩
  have : i = 0 ∨ i = 1 := by simp at hi; omega
  rcases this with rfl | rfl
  · exact ⟨u1, rfl, h1.alloc _, fun g hg hne => List.mem_cons_of_mem _ (List.mem_append_left _ (fpB_mem hg hne))⟩
  · exact ⟨u2, rfl, h2.alloc _, fun g hg hne => List.mem_cons_of_mem _ (List.mem_append_right _ (fpB_mem hg hne))⟩
theorem txs2 {w : World} {u1 u2 : Value} {b1 b2 : List UInt8} {n1 n2 g : Nat} (t : TypeId) (hg : g = w.heap.size) (h1 : Rd w 1 u1 n1 (bv b1)) (h2 : Rd w 1 u2 n2 (bv b2)) :
    Txs (w.alloc (.cells #[u1, u2] t)) (.slice (some ⟨g, 0, none⟩) 2 2) [b1, b2] := by
  subst hg; exact (txsIn2 t h1 h2).txs
end Go.Proofs.YtapboamjpilckaaDoor
/- slices.Equal for bytes. -/
namespace Go.Proofs.YtapboamjpilckaaDoor
open Go.RowKit

/-- A cell that is there reads as it did. -/
theorem cell_kept {w w' : World} {p : Addr} {u : Value} (h : w.cell? p = some u) (hk : Kp [] w w') : w'.cell? p = some u :=
  (World.cell?_of_block (hk.block p.block (cell_lt h) (by simp))).trans h
theorem rd_get2 {w : World} {v : Value} {bs : List UInt8} (h : Rd w 1 v bs.length (bv bs)) : ∃ A c, v = .slice A bs.length c ∧ bs.length ≤ c ∧ c ≤ maxLen ∧ (A = none → bs.length = 0) ∧ ∀ ad, A = some ad → ∀ i (h : i < bs.length), w.cell? (ad.add i) = some (.int .u8 (bs[i].toNat : Int)) := by
  obtain ⟨_, A, c, hv, h1, h2, h3, h4⟩ := h
  exact ⟨A, c, hv, h1, h2, fun hA => (h3 hA).1, fun ad had i hi => h4 ad had i _ (by rw [bv_get, List.getElem?_eq_getElem hi]; rfl)⟩
end Go.Proofs.YtapboamjpilckaaDoor
/- Walks of package wire: numbers. -/
namespace Go.Proofs.YtapboamjpilckaaDoor
open Go.RowKit

end Go.Proofs.YtapboamjpilckaaDoor
/- Walks of package wire: the writer. -/
namespace Go.Proofs.YtapboamjpilckaaDoor
open Go.RowKit

end Go.Proofs.YtapboamjpilckaaDoor
/- Walks of package wire: the writer's other methods; slices.Clone; the reference's Same. -/
namespace Go.Proofs.YtapboamjpilckaaDoor
open Go.RowKit

/-- A number in two's complement. -/
def tou64 (x : Int) : Nat := (x % 18446744073709551616).toNat
end Go.Proofs.YtapboamjpilckaaDoor
/- Walks of package wire: a hash is written; the reference's Same. -/
namespace Go.Proofs.YtapboamjpilckaaDoor
open Go.RowKit

end Go.Proofs.YtapboamjpilckaaDoor
/- Walks of package wire: the reader. -/
namespace Go.Proofs.YtapboamjpilckaaDoor
open Go.RowKit

end Go.Proofs.YtapboamjpilckaaDoor
/- Walks of package wire: what a reader reads. -/
namespace Go.Proofs.YtapboamjpilckaaDoor
open Go.RowKit

end Go.Proofs.YtapboamjpilckaaDoor
/- A row of texts of the call's own; one more text appended; two lists of texts held against one another. -/
namespace Go.Proofs.YtapboamjpilckaaDoor
open Go.RowKit
end Go.Proofs.YtapboamjpilckaaDoor
/- Walking inside a round: a region's walk outside serves inside; one law for 'for .. range f', whose round is told what holds of what it is handed. -/
namespace Go.Proofs.YtapboamjpilckaaDoor
open Go.RowKit Go.Shelf

section bridge
variable {P : Program} {ops : Array Oper} {Q : Exit → Act → World → Prop} {n rl : Nat}
end bridge
end Go.Proofs.YtapboamjpilckaaDoor
/- One law for 'for .. range f': the iterator tells, at each round, what holds of what it hands over; it makes memory alone between two rounds. -/
namespace Go.Proofs.YtapboamjpilckaaDoor
open Go.RowKit Go.Shelf

/-- What stays true when memory is made, and when an object that is no row of cells, from B on, is turned. -/
def Stays (B : Nat) (p : World → Prop) : Prop :=
  ∀ W W', p W → (Kp [] W W' ∨ ∃ (l : Nat) (o o' : Obj), B ≤ l ∧ W.heap[l]? = some o ∧ o.isCells = false ∧ W' = W.putObj l o') → p W'
theorem Stays.kp {B : Nat} {p : World → Prop} (h : Stays B p) {W W' : World} (hp : p W) (hk : Kp [] W W') : p W' := h W W' hp (.inl hk)
theorem Stays.put {B : Nat} {p : World → Prop} (h : Stays B p) {W : World} (hp : p W) {l : Nat} {o : Obj} (o' : Obj) (hB : B ≤ l) (hl : W.heap[l]? = some o) (ho : o.isCells = false) : p (W.putObj l o') :=
  h W _ hp (.inr ⟨l, o, o', hB, hl, ho, rfl⟩)
theorem Stays.and {B : Nat} {p q : World → Prop} (h : Stays B p) (h' : Stays B q) : Stays B (fun W => p W ∧ q W) := fun W W' hp hk => ⟨h W W' hp.1 hk, h' W W' hp.2 hk⟩
theorem Stays.pure (B : Nat) (q : Prop) : Stays B (fun _ => q) := fun _ _ h _ => h
variable {P : Program} {n : Nat}
end Go.Proofs.YtapboamjpilckaaDoor
/- Leaving a function that held ranges over functions; what is held stays through such a loop's own steps. -/
namespace Go.Proofs.YtapboamjpilckaaDoor
open Go.RowKit Go.Shelf

theorem Kp.putObj {w : World} (l : Nat) (o : Obj) : Kp [l] w (w.putObj l o) :=
  ⟨rfl, rfl, rfl, by simp, fun k _ hn => World.putObj_heap_other (fun e => hn (by simp [e]))⟩
/-- All its blocks are rows of cells. -/
def Cellular (r : Res) : Prop := ∀ W, r.ok W → ∀ b ∈ r.fp, ∃ o : Obj, W.heap[b]? = some o ∧ o.isCells = true
theorem cellular_row (e : TypeId) (s : Nat) (v : Value) (n : Nat) (xs : List Value) : Cellular (rowR e s v n xs) := by
  intro W h b hb
  have hb : v.ownBlock = some b := by simpa [rowR] using hb
  rcases h.2 with ⟨rfl, _⟩ | ⟨g, cap, cur, rfl, _, hg, _⟩
  · simp [Value.ownBlock] at hb
  · have : g = b := by simpa [Value.ownBlock] using hb
    subst this
    exact ⟨_, hg, rfl⟩
theorem cellular_blk (g : Nat) (t : TypeId) (cs : Array Value) : Cellular (blkR g t cs) := by
  intro W h b hb
  have hb : b = g := by simpa [blkR] using hb
  subst hb
  exact ⟨_, h, rfl⟩
/-- Rows of cells, or blocks below B: what an object from B on is not. -/
def Cells (B : Nat) (L : List Res) : Prop := ∀ r, r ∈ L → Cellular r ∨ ∀ b ∈ r.fp, b < B
theorem Cells.nil {B : Nat} : Cells B [] := by simp [Cells]
theorem Cells.cons {B : Nat} {L : List Res} {r : Res} (hr : Cellular r) (h : Cells B L) : Cells B (r :: L) := fun s hs => by
  rcases List.mem_cons.1 hs with rfl | hs
  · exact .inl hr
  · exact h s hs
theorem Cells.row {B : Nat} {L : List Res} {e : TypeId} {s : Nat} {v : Value} {n : Nat} {xs : List Value} (h : Cells B L) : Cells B (rowR e s v n xs :: L) := h.cons (cellular_row _ _ _ _ _)
theorem Cells.blk {B : Nat} {L : List Res} {g : Nat} {t : TypeId} {cs : Array Value} (h : Cells B L) : Cells B (blkR g t cs :: L) := h.cons (cellular_blk _ _ _)
theorem Cells.tail {B : Nat} {L : List Res} {r : Res} (h : Cells B (r :: L)) : Cells B L := fun s hs => h s (List.mem_cons_of_mem _ hs)
theorem Cells.append {B : Nat} {L L' : List Res} (h : Cells B L) (h' : Cells B L') : Cells B (L ++ L') := fun r hr => (List.mem_append.1 hr).elim (h r) (h' r)
theorem Cells.not {B : Nat} {L : List Res} (h : Cells B L) {w0 W : World} (S : Held w0 W L) {l : Nat} {o : Obj} (hB : B ≤ l) (hl : W.heap[l]? = some o) (ho : o.isCells = false) : ∀ r ∈ L, l ∉ r.fp := by
  intro r hr hm
  rcases h r hr with h | h
  · obtain ⟨o', h1, h2⟩ := h W (S.ok r hr) l hm
    rw [hl] at h1
    cases h1
    rw [ho] at h2
    cases h2
  · have := h l hm
    omega
/-- What a call holds of its own, behind what was held. -/
theorem Held.join {w0 w1 w2 : World} {L L' : List Res} (S : Held w0 w1 L) (T : Held w1 w2 L') : Held w0 w2 (L ++ L') :=
  ⟨S.k.trans T.k (by simp), fun r hr => (List.mem_append.1 hr).elim (fun h => r.keep w1 w2 [] (S.ok r h) T.k (by simp)) (T.ok r), fun r hr b hb => (List.mem_append.1 hr).elim (fun h => S.base r h b hb) (fun h => Nat.le_trans S.k.size (T.base r h b hb)),
    List.pairwise_append.2 ⟨S.apart, T.apart, fun r hr s hs b hb hb' => by
      have h1 := r.lt w1 (S.ok r hr) b hb
      have h2 := T.base s hs b hb'
      omega⟩⟩
theorem Held.sub {w0 w : World} {L L' : List Res} (S : Held w0 w L) (h : L'.Sublist L) : Held w0 w L' :=
  ⟨S.k, fun r hr => S.ok r (h.subset hr), fun r hr => S.base r (h.subset hr), S.apart.sublist h⟩
end Go.Proofs.YtapboamjpilckaaDoor
/- The digits of a hash. -/
namespace Go.Proofs.YtapboamjpilckaaDoor
open Go.RowKit
theorem run_arr_index {P : Program} (w : World) (t e : TypeId) (n : Nat) (h : List UInt8) (kd : IntKind) (z : Int) (k : Nat) (hz : z = k) (hk : k < h.length) (hn : h.length = n) (hu : P.underlying t = some (.array n e)) (he : P.underlying e = some (.int .u8)) (hc : (P.info? e).map (·.size) = some 1) :
    (Instr.index t (.agg (hashA h)) (.int kd z)).run P w = .ok (.int .u8 (h[k].toNat : Int)) w := by
  subst hz
  have hag : (isAgg e).run P w = .ok false w := by
    unfold isAgg
    rw [Sem.run_bind, run_underlying he w]
    rfl
  cases hq : P.info? e with
  | none => simp [hq] at hc
  | some i =>
    have hs : i.size = 1 := by simpa [hq] using hc
    have hg : (hashA h)[k]? = some (.int .u8 (h[k].toNat : Int)) := by simp [hashA, bv, hk]
    have hb : ¬ ((k : Int) < 0 ∨ (n : Int) ≤ k) := by omega
    have hb2 : 0 ≤ (k : Int) ∧ (k : Int) < n := by omega
    simp [Instr.index, Sem.run_bind, run_underlying hu w, asIntOf, part, hag, sizeOf, typeInfo, hq, hs, hg]
    intro; omega
theorem hex_cell {w : World} {g : Nat} (h : Blk w g 122 (hashA digL)) (n : Nat) (hn : n < 16) : w.cell? ⟨g, n, none⟩ = some (.int .u8 ((hx n).toNat : Int)) := by
  rw [h.cell n]
  have := digL_get hn
  simp [hashA, bv_get, this]
/-- A block read whole, and written whole. -/
theorem wpList_load_blk {P : Program} {ops : Array Oper} {rest : List Oper} {o : Oper} {a : Act} {w : World} {Q : Exit → Act → World → Prop} (hgd : o.guard = none) (ty : TypeId) (x : Operand) (ho : o.op = .load ty x) (g : Nat) (hx : a.eval x = .pointer (some ⟨g, 0, none⟩))
    (t : TypeId) (cs : Array Value) (hb : Blk w g t cs) (d : TypeDesc) (hu : P.underlying ty = some d) (hd : aggB d = true) (hi : (P.info? ty).map (·.size) = some cs.size)
    (h : wpList P ops Q rest (a.put o.dst (.agg cs)) w) : wpList P ops Q (o :: rest) a w :=
  wpList_load_agg hgd ty x ho ⟨g, 0, none⟩ hx cs.toList d hb.agg hu hd (by rw [hi, Array.length_toList]) h
theorem wpList_store_blk {P : Program} {ops : Array Oper} {rest : List Oper} {o : Oper} {a : Act} {w : World} {Q : Exit → Act → World → Prop} (hgd : o.guard = none) (ty : TypeId) (x y : Operand) (ho : o.op = .store ty x y) (g : Nat) (hx : a.eval x = .pointer (some ⟨g, 0, none⟩))
    (xs : Array Value) (hy : a.eval y = .agg xs) (t : TypeId) (cur : Array Value) (hb : Blk w g t cur) (hi : (P.info? ty).map (·.size) = some xs.size) (hsz : cur.size = xs.size) (h1 : ∀ u, u ∈ xs.toList → u.oneCell' = true)
    (h : ∀ w', Blk w' g t xs → Kp [g] w w' → wpList P ops Q rest (a.put o.dst undef) w') : wpList P ops Q (o :: rest) a w :=
  wpList_store_agg hgd ty x y ho g 0 hx xs hy t cur hb hi (by omega) h1 (fun w' h2 k2 => h w' (by rw [set_all _ _ hsz] at h2; exact h2) k2)
theorem Held.setBlk {w0 w w' : World} {l1 l2 : List Res} {g : Nat} {t : TypeId} {cur xs : Array Value} (h : Held w0 w (l1 ++ blkR g t cur :: l2)) (hb : Blk w' g t xs) (k : Kp [g] w w') : Held w0 w' (l1 ++ blkR g t xs :: l2) :=
  h.turnAt (blkR g t xs) k hb (fun _ h => .inl h)
theorem hashA_one (l : List UInt8) : ∀ u, u ∈ (hashA l).toList → u.oneCell' = true := fun u hu => bv_one l u hu
theorem Tryd.infoHashP : (Tryd.prog.info? 25).map (·.size) = some 32 := by kernel_rfl
theorem Tryd.info16P : (Tryd.prog.info? 122).map (·.size) = some 16 := by kernel_rfl
theorem Tryd.infoPointP : (Tryd.prog.info? 33).map (·.size) = some 33 := by kernel_rfl
theorem Tryd.sizeU8P : (Tryd.prog.info? 5).map (·.size) = some 1 := by kernel_rfl
end Go.Proofs.YtapboamjpilckaaDoor
/- Walks of package sha and of its reference: turns of words, tables. -/
namespace Go.Proofs.YtapboamjpilckaaDoor
open Go.RowKit
set_option maxRecDepth 100000 in
theorem srot_any (x n : Nat) (k : Int) (hk : k = n) (hx : x < 4294967296) (hn : rotK n) (w : World) : Calls Tryd.prog 98 #[.int .u32 (x : Int), .int .i64 k] w fun e w' => e = .returned (.int .u32 (rotr x n : Int)) ∧ w = w' := by
  subst hk
  have HR := Lib.hid (fun V => rotl_any x n hx hn V)
  have hw : wrap64 (-(n : Int)) = -(n : Int) := by rcases hn with h | h | h | h | h | h | h | h | h | h <;> (unfold wrap64; omega)
  go_enter Tryd.func98, Tryd.ntmps98
  go_wp2_with fail
  refine (HR.out _).mono ?_
  rintro e w' ⟨rfl, rfl⟩
  go_wp2
  go_ret
  exact ⟨rfl, rfl⟩
def u32L (l : List Nat) : List Value := l.map fun x : Nat => Value.int .u32 (x : Int)
theorem u32L_length (l : List Nat) : (u32L l).length = l.length := List.length_map ..
theorem u32L_get (l : List Nat) (i : Nat) : (u32L l)[i]? = l[i]?.map fun x : Nat => Value.int .u32 (x : Int) := List.getElem?_map ..
theorem u32L_one (l : List Nat) : ∀ u, u ∈ u32L l → u.oneCell' = true := by
  intro u hu
  obtain ⟨_, _, rfl⟩ := List.mem_map.1 hu
  rfl
def u32A (l : List Nat) : Array Value := (u32L l).toArray
theorem u32A_size (l : List Nat) : (u32A l).size = l.length := by simp [u32A, u32L]
theorem u32A_one (l : List Nat) : ∀ u, u ∈ (u32A l).toList → u.oneCell' = true := u32L_one l
theorem u32A_set (l : List Nat) (i x : Nat) : (u32A l).setIfInBounds i (.int .u32 (x : Int)) = u32A (l.set i x) := by
  unfold u32A u32L
  rw [List.setIfInBounds_toArray, List.map_set]
theorem wpList_buildC {P : Program} {ops : Array Oper} {rest : List Oper} {o : Oper} {a : Act} {w : World} {Q : Exit → Act → World → Prop} (hg : o.guard = none) (t : TypeId) (parts : Array (Nat × Operand)) (ho : o.op = .build t parts) (ps : List (Nat × Value)) (hp : (parts.map fun (i, x) => (i, a.eval x)).toList = ps)
    (cells : Array Value) (hb : P.built t ps = some cells) (h : wpList P ops Q rest (a.put o.dst (.agg cells)) w) : wpList P ops Q (o :: rest) a w := by
  refine wpList_build hg t parts ho (by rw [hp, hb]; rfl) ?_
  rw [hp, hb]
  exact h
def at0N : List Value → Nat → List (Nat × Value)
  | [], _ => []
  | v :: l, k => (k, v) :: at0N l (k + 1)
theorem Tryd.info64w : (Tryd.prog.info? 144).map (·.size) = some 64 := by kernel_rfl
theorem Tryd.info8w : (Tryd.prog.info? 111).map (·.size) = some 8 := by kernel_rfl
theorem Tryd.built_kT : Tryd.prog.built 144 (at0N (u32L kT) 0) = some (u32A kT) := by kernel_rfl
theorem Tryd.built_hF : Tryd.prog.built 111 (at0N (u32L hF) 0) = some (u32A hF) := by kernel_rfl
set_option maxRecDepth 100000 in
theorem stable_any (w : World) : Calls Tryd.prog 99 #[] w fun e w' => e = .returned (.agg (u32A kT)) ∧ Kp [] w w' := by
  have S0 := Lib.hid ((Held.start w).newBlk 144 (u32A (List.replicate 64 0)))
  have HO := Lib.hid (u32A_one kT)
  have HB := Lib.hid Tryd.built_kT
  go_enter Tryd.func99, Tryd.ntmps99
  go_wp2_with (first
    | (refine wpList_buildC rfl 144 _ rfl (at0N (u32L kT) 0) (by kernel_rfl) _ HB.out ?_)
    | (refine wpList_store_blk rfl 144 (.tmp 0) (.tmp 1) rfl w.heap.size rfl (u32A kT) rfl 144 _ (S0.out.at_ (l1 := [])) (by rw [u32A_size]; exact Tryd.info64w) (by rw [u32A_size, u32A_size]; rfl) HO.out ?_; intro w1 b1 k1; have S1 := Lib.hid (Held.setBlk (l1 := []) S0.out b1 k1); clear b1 k1))
  refine bodyPost_ret (results_cell1 (by rfl) rfl (S1.out.at_ (l1 := [])) Tryd.underlying144 rfl (by rw [u32A_size]; exact Tryd.info64w)) rfl ?_
  exact ⟨rfl, S1.out.k⟩
set_option maxRecDepth 100000 in
theorem sfirst_any (w : World) : Calls Tryd.prog 81 #[] w fun e w' => e = .returned (.agg (u32A hF)) ∧ Kp [] w w' := by
  have S0 := Lib.hid ((Held.start w).newBlk 111 (u32A (List.replicate 8 0)))
  have HO := Lib.hid (u32A_one hF)
  have HB := Lib.hid Tryd.built_hF
  go_enter Tryd.func81, Tryd.ntmps81
  go_wp2_with (first
    | (refine wpList_buildC rfl 111 _ rfl (at0N (u32L hF) 0) (by kernel_rfl) _ HB.out ?_)
    | (refine wpList_store_blk rfl 111 (.tmp 0) (.tmp 1) rfl w.heap.size rfl (u32A hF) rfl 111 _ (S0.out.at_ (l1 := [])) (by rw [u32A_size]; exact Tryd.info8w) (by rw [u32A_size, u32A_size]; rfl) HO.out ?_; intro w1 b1 k1; have S1 := Lib.hid (Held.setBlk (l1 := []) S0.out b1 k1); clear b1 k1))
  refine bodyPost_ret (results_cell1 (by rfl) rfl (S1.out.at_ (l1 := [])) Tryd.underlying111 rfl (by rw [u32A_size]; exact Tryd.info8w)) rfl ?_
  exact ⟨rfl, S1.out.k⟩
end Go.Proofs.YtapboamjpilckaaDoor
/- Walks of package sha and of its reference: a constant, a word of four bytes. -/
namespace Go.Proofs.YtapboamjpilckaaDoor
open Go.RowKit
set_option maxRecDepth 100000 in
theorem word_any (x : Value) (bs : List UInt8) (n : Nat) (hn : 4 ≤ n) (w : World) (hx : Rd w 1 x n (bv bs)) : Calls Tryd.prog 97 #[x] w fun e w' => e = .returned (.int .u32 ((num (bs.take 4) : Nat) : Int)) ∧ w = w' := by
  obtain ⟨hl, A, c, rfl, h1, h2, hA, hc⟩ := hx
  rw [bv_length] at hl
  unfold maxLen at h2
  rcases A with _ | ad
  · have := hA rfl; omega
  have HC := Lib.hid (hc ad rfl)
  have Hl := Lib.hid hl
  clear hA hc hl
  go_enter Tryd.func97, Tryd.ntmps97
  go_wp2
  go_loopw [3, 5, 9] (fun acc _ t wr => ∃ k : Nat, k ≤ 4 ∧ t = .int .i64 (k : Int) ∧ acc = .int .u32 ((num (bs.take k) : Nat) : Int) ∧ w = wr) (fun _ _ t _ => 4 - (intOf t).toNat)
  case atStart => exact ⟨0, by omega, rfl, rfl, rfl⟩
  case round =>
    obtain ⟨k, hk, rfl, rfl, rfl⟩ := hrel
    by_cases hlt : k < 4
    · obtain ⟨b, hb⟩ : ∃ b, bs[k]? = some b := ⟨_, List.getElem?_eq_getElem (by have := Hl.out; omega)⟩
      have hcell := HC.out k _ (by rw [bv_get, hb]; rfl)
      have hnum : num (bs.take (k + 1)) = 256 * num (bs.take k) + b.toNat := by rw [List.take_add_one, hb]; exact num_snoc _ _
      have hlt2 : num (bs.take k) < 16777216 := by
        have h3 : ∀ j, j ≤ 3 → num (bs.take j) < 256 ^ j := by
          intro j
          induction j with
          | zero => intro _; simp [num]
          | succ j ih =>
            intro hj
            have hjl : j < bs.length := by have := Hl.out; omega
            have := ih (by omega)
            have hb := (bs[j]).toNat_lt
            rw [List.take_add_one, List.getElem?_eq_getElem hjl, show (some bs[j]).toList = [bs[j]] from rfl, num_snoc, Nat.pow_succ]
            omega
        have := h3 k (by omega)
        have h4 : 256 ^ k ≤ 256 ^ 3 := Nat.pow_le_pow_right (by decide) (by omega)
        omega
      have hor : bits .or .u32 (((num (bs.take k) : Nat) : Int) * 256) (b.toNat : Int) = ((num (bs.take (k + 1)) : Nat) : Int) := by
        rw [hnum, ← or_byte hlt2 b.toNat_lt, ← u32_or_nat _ _ (Nat.mod_lt _ (by decide)) (by have := b.toNat_lt; omega), Nat.mod_eq_of_lt (by omega), Int.natCast_mul]
        rfl
      have Hor := Lib.hid hor
      have HN := Lib.hid hnum
      have hblt := b.toNat_lt
      clear hnum hor hb
      generalize num (bs.take k) = a at *
      go_wp2
      go_roundw
      case rel => exact ⟨k + 1, by omega, by go_num, by rw [Hor.out], trivial⟩
      case measure => simp [intOf]; omega
    · obtain rfl : k = 4 := by omega
      go_wp2
      go_ret
      exact ⟨rfl, rfl⟩
end Go.Proofs.YtapboamjpilckaaDoor
/- point.digits. -/
namespace Go.Proofs.YtapboamjpilckaaDoor
open Go.RowKit
set_option maxRecDepth 100000 in
set_option maxHeartbeats 1000000 in
theorem digits_any (w : World) : Calls Tryd.prog 75 #[] w fun e w' => e = .returned (.agg (hashA digL)) ∧ Kp [] w w' := by
  have HO := Lib.hid (hashA_one digL)
  go_enter Tryd.func75, Tryd.ntmps75
  go_wp2_with (refine wpList_store_blk rfl 122 (.tmp 0) (.tmp 1) rfl w.heap.size rfl (hashA digL) rfl 122 _ (Blk.new w 122 _) (by exact Tryd.info16P) (by rfl) HO.out ?_; intro w2 b2 k2)
  exact bodyPost_ret (results_cell1 (by rfl) rfl b2 Tryd.underlying122 rfl (by exact Tryd.info16P)) rfl ⟨rfl, ((Kp.refl [] w).alloc _).trans k2 (fun g hg => by simp at hg; exact .inr (by omega))⟩
end Go.Proofs.YtapboamjpilckaaDoor
/- Hex of point and of the reference. -/
namespace Go.Proofs.YtapboamjpilckaaDoor
open Go.RowKit
set_option maxRecDepth 100000 in
set_option maxHeartbeats 4000000 in
theorem hex_any (h : List UInt8) (hh : h.length = 32) (w : World) : Calls Tryd.prog 55 #[.agg (hashA h)] w fun e w' => e = .returned (.string ⟨(hexS h).toArray⟩) ∧ Kp [] w w' := by
  have HH := Lib.hid hh
  have S0 := Lib.hid ((Held.start w).newBlk 25 (hashA h))
  have HS32 : Hid ((hashA h).size = 32) := Lib.hid (by rw [hashA_size, hh])
  have H16 : Hid ((hashA digL).size = 16) := Lib.hid rfl
  clear hh
  obtain ⟨dg, HD⟩ : ∃ dg, Hid (hashA digL = dg) := ⟨_, Lib.hid rfl⟩
  obtain ⟨hs, HHS⟩ : ∃ hs, Hid (hashA h = hs) := ⟨_, Lib.hid rfl⟩
  rw [HHS.out] at S0 ⊢
  rw [HD.out] at H16
  go_enter Tryd.func55, Tryd.ntmps55
  go_wp2_with fail
  refine (digits_any _).mono ?_
  rw [HD.out]
  rintro e w1 ⟨rfl, k1⟩
  have S1 := Lib.hid (S0.out.kp k1)
  clear k1
  have HO := Lib.hid (fun u hu => by rw [← HD.out] at hu; exact hashA_one digL u hu : ∀ u, u ∈ dg.toList → u.oneCell' = true)
  go_wp2_with (first
    | (refine wpList_store_blk rfl 122 (.tmp 3) (.tmp 7) rfl w1.heap.size rfl dg rfl 122 _ (Blk.new w1 122 _) (by rw [H16.out]; exact Tryd.info16P) (by rw [H16.out]; rfl) HO.out ?_; intro w2 b2 k2; have S2 := Lib.hid (Held.setBlk (l1 := []) (S1.out.newBlk 122 _) b2 k2); clear b2 k2; have S3 := Lib.hid (S2.out.rownew (ow_new w2 5 1 0 #[] rfl (by decide)) ((Kp.refl [] w2).alloc _) (fun g hg => Nat.le_of_eq (Option.some.inj hg))))
    | (refine wpList_load_blk rfl 25 (.tmp 1) rfl w.heap.size rfl 25 hs (S3.out.at_ (l1 := [_, _])) _ Tryd.underlying25 rfl (by rw [← HHS.out, HS32.out]; exact Tryd.infoHashP) ?_))
  obtain ⟨g3, hg3⟩ : ∃ g3, w1.heap.size = g3 := ⟨_, rfl⟩
  rw [hg3] at S3 ⊢
  clear S0 S1 S2 hg3
  go_loopw [4, 6, 10] (fun b _ i wr => ∃ k : Nat, k ≤ 32 ∧ i = .int .i64 k ∧ ∃ A c, b = .slice A (hexS (h.take k)).length c ∧ Held w wr [rowR 5 1 (.slice A (hexS (h.take k)).length c) (hexS (h.take k)).length (bv (hexS (h.take k))), blkR g3 122 (hashA digL)]) (fun _ _ i _ => 32 - (intOf i).toNat)
  case atStart => exact ⟨0, by omega, rfl, _, _, rfl, by rw [HD.out]; exact S3.out.sub (.cons_cons _ (.cons_cons _ (.cons _ (List.Sublist.refl _))))⟩
  case round =>
    clear S3
    obtain ⟨k, hk, rfl, Ao, co, rfl, S⟩ := hrel
    have HS := Lib.hid S
    clear S
    have hol : (hexS (h.take k)).length ≤ 64 := by
      rw [hexS_length, List.length_take]; omega
    by_cases hlt : k < 32
    · have hlt' : k < h.length := by have := HH.out; omega
      have q := fun V => run_arr_index (P := Tryd.prog) V 25 5 32 h .i64 (k : Int) k rfl hlt' HH.out Tryd.underlying25 Tryd.underlying5 Tryd.sizeU8P
      rw [HHS.out] at q
      have he : h[k]? = some h[k] := List.getElem?_eq_getElem hlt'
      obtain ⟨o', HO2⟩ : ∃ o', Hid (hexS (h.take (k + 1)) = o') := ⟨_, Lib.hid rfl⟩
      have HO1 : Hid (hexS (h.take k) ++ hex2 h[k] = o') := Lib.hid (by rw [← HO2.out, hexS_take_succ he])
      clear he
      generalize hexS (h.take k) = o at *
      generalize h[k] = ch at *
      have hlc := ch.toNat_lt
      have HO' : Hid (o ++ [hx (ch.toNat / 16), hx (ch.toNat % 16)] = o' ∧ o.length + 2 = o'.length) := Lib.hid ⟨HO1.out, by rw [← HO1.out]; simp [hex2]⟩
      clear HO1
      generalize ch.toNat = n at *
      go_wp2_with fail
      -- SEP phex
      refine wp_region_sep (Γ := Unit) 2 [0, 1, 2, 3, 4, 5, 6, 7, 8, 9, 10, 11, 13]
        (fun i vs gs => match i with | 0 => vs 0 = .slice Ao o.length co | 1 => vs 1 = .int .u8 (n : Int) | 2 => vs 2 = .int .u8 ((n : Int) / 16) | 3 => vs 3 = .pointer (some ⟨g3, n / 16, none⟩) | 4 => vs 4 = .int .u8 ((hx (n / 16)).toNat : Int) | 5 => vs 5 = .int .u8 (n : Int) | 6 => vs 6 = .int .u8 ((n : Int) % 16) | 7 => vs 7 = .pointer (some ⟨g3, n % 16, none⟩) | 8 => vs 8 = .int .u8 ((hx (n % 16)).toNat : Int) | 10 => ∃ A c, vs 10 = .slice A o'.length c | 11 => vs 11 = vs 10 | _ => True)
        (fun i vs gs => match i with | 9 => [rowR 5 1 (vs 9) 2 (bv [hx (n / 16), hx (n % 16)])] | 10 => [rowR 5 1 (vs 10) o'.length (bv o')] | 12 => [rowR 5 1 (.slice Ao o.length co) o.length (bv o)] | 13 => [blkR g3 122 (hashA digL)] | _ => [])
        (fun i => match i with | 10 => [12] | _ => []) (fun i => match i with | 4 => [13] | 8 => [13] | 10 => [9] | _ => []) HS.out (by kernel_rfl) (by kernel_rfl) (by kernel_rfl) (by kernel_rfl) (fun i => match i with | 0 => [0] | 1 => [1] | 2 => [2] | 3 => [3] | 4 => [4] | 5 => [5] | 6 => [6] | 7 => [7] | 8 => [8] | 9 => [9] | 10 => [10] | 11 => [10, 11] | _ => []) (by kernel_rfl) ?_ (by kernel_rfl) ?_ ?_ ?_
      · intro s vs vs' gs gs' h
        iterate 14 (rcases s with _ | s; · (first | exact ⟨rfl, id⟩ | (simp only [List.mem_cons, List.not_mem_nil, or_false, forall_eq_or_imp, forall_eq] at h; simp [h])))
        exact ⟨rfl, id⟩
      · simp only [List.range, List.range.loop, List.flatMap_cons, List.flatMap_nil, List.append_nil]
        exact List.Perm.refl _
      · refine ⟨?_, ?_, ?_, ?_, ?_, ?_, ?_, ?_, ?_, ?_, ?_, ?_, trivial⟩
        · intro vs gs A' W LF hA S hR hd hu K hK
          replace hK := hK default
          have e4 : A'.tmps[4]?.getD undef = vs 11 := slot_is hA (by kernel_rfl) (Nat.le_of_ble_eq_true (by kernel_rfl)) (by kernel_rfl)
          rw [show vs 11 = .slice Ao o.length co from hu 11 _ rfl (by kernel_rfl)] at e4
          go_step
          exact hK _ _ S rfl
        · intro vs gs A' W LF hA S hR hd hu K hK
          replace hK := hK default
          have e6 : A'.tmps[6]?.getD undef = .int .u8 (n : Int) := slot_is hA (by kernel_rfl) (Nat.le_of_ble_eq_true (by kernel_rfl)) (by kernel_rfl)
          go_step
          exact hK _ _ S rfl
        · intro vs gs A' W LF hA S hR hd hu K hK
          replace hK := hK default
          have f1 : vs 1 = .int .u8 (n : Int) := hd 1 (by kernel_rfl)
          have e14 : A'.tmps[14]?.getD undef = vs 1 := slot_is hA (by kernel_rfl) (Nat.le_of_ble_eq_true (by kernel_rfl)) (by kernel_rfl)
          rw [f1] at e14
          go_step
          exact hK _ _ S rfl
        · intro vs gs A' W LF hA S hR hd hu K hK
          replace hK := hK default
          have e3 : A'.tmps[3]?.getD undef = .pointer (some ⟨g3, 0, none⟩) := slot_is hA (by kernel_rfl) (Nat.le_of_ble_eq_true (by kernel_rfl)) (by kernel_rfl)
          have f2 : vs 2 = .int .u8 ((n : Int) / 16) := hd 2 (by kernel_rfl)
          have e15 : A'.tmps[15]?.getD undef = vs 2 := slot_is hA (by kernel_rfl) (Nat.le_of_ble_eq_true (by kernel_rfl)) (by kernel_rfl)
          rw [f2] at e15
          have h0 : 0 ≤ (n : Int) / 16 := by omega
          have h1 : (n : Int) / 16 < 16 := by omega
          have h2 : ((n : Int) / 16).toNat = n / 16 := by omega
          go_step
          exact hK _ _ S rfl
        · intro vs gs A' W LF hA S hR hd hu K hK
          replace hK := hK default
          have f3 : vs 3 = .pointer (some ⟨g3, n / 16, none⟩) := hd 3 (by kernel_rfl)
          have e16 : A'.tmps[16]?.getD undef = vs 3 := slot_is hA (by kernel_rfl) (Nat.le_of_ble_eq_true (by kernel_rfl)) (by kernel_rfl)
          rw [f3] at e16
          have q := hex_cell (S.ok (blkR g3 122 (hashA digL)) (hR 13 (List.mem_singleton.2 rfl) _ (List.mem_singleton.2 rfl))) (n / 16) (by omega)
          go_step
          exact hK _ _ S rfl
        · intro vs gs A' W LF hA S hR hd hu K hK
          replace hK := hK default
          have e6 : A'.tmps[6]?.getD undef = .int .u8 (n : Int) := slot_is hA (by kernel_rfl) (Nat.le_of_ble_eq_true (by kernel_rfl)) (by kernel_rfl)
          go_step
          exact hK _ _ S rfl
        · intro vs gs A' W LF hA S hR hd hu K hK
          replace hK := hK default
          have f5 : vs 5 = .int .u8 (n : Int) := hd 5 (by kernel_rfl)
          have e18 : A'.tmps[18]?.getD undef = vs 5 := slot_is hA (by kernel_rfl) (Nat.le_of_ble_eq_true (by kernel_rfl)) (by kernel_rfl)
          rw [f5] at e18
          go_step
          exact hK _ _ S rfl
        · intro vs gs A' W LF hA S hR hd hu K hK
          replace hK := hK default
          have e3 : A'.tmps[3]?.getD undef = .pointer (some ⟨g3, 0, none⟩) := slot_is hA (by kernel_rfl) (Nat.le_of_ble_eq_true (by kernel_rfl)) (by kernel_rfl)
          have f6 : vs 6 = .int .u8 ((n : Int) % 16) := hd 6 (by kernel_rfl)
          have e19 : A'.tmps[19]?.getD undef = vs 6 := slot_is hA (by kernel_rfl) (Nat.le_of_ble_eq_true (by kernel_rfl)) (by kernel_rfl)
          rw [f6] at e19
          have h0 : 0 ≤ (n : Int) % 16 := by omega
          have h1 : (n : Int) % 16 < 16 := by omega
          have h2 : ((n : Int) % 16).toNat = n % 16 := by omega
          go_step
          exact hK _ _ S rfl
        · intro vs gs A' W LF hA S hR hd hu K hK
          replace hK := hK default
          have f7 : vs 7 = .pointer (some ⟨g3, n % 16, none⟩) := hd 7 (by kernel_rfl)
          have e20 : A'.tmps[20]?.getD undef = vs 7 := slot_is hA (by kernel_rfl) (Nat.le_of_ble_eq_true (by kernel_rfl)) (by kernel_rfl)
          rw [f7] at e20
          have q := hex_cell (S.ok (blkR g3 122 (hashA digL)) (hR 13 (List.mem_singleton.2 rfl) _ (List.mem_singleton.2 rfl))) (n % 16) (by omega)
          go_step
          exact hK _ _ S rfl
        · intro vs gs A' W LF hA S hR hd hu K hK
          replace hK := hK default
          have f4 : vs 4 = .int .u8 ((hx (n / 16)).toNat : Int) := hd 4 (by kernel_rfl)
          have e17 : A'.tmps[17]?.getD undef = vs 4 := slot_is hA (by kernel_rfl) (Nat.le_of_ble_eq_true (by kernel_rfl)) (by kernel_rfl)
          rw [f4] at e17
          have f8 : vs 8 = .int .u8 ((hx (n % 16)).toNat : Int) := hd 8 (by kernel_rfl)
          have e21 : A'.tmps[21]?.getD undef = vs 8 := slot_is hA (by kernel_rfl) (Nat.le_of_ble_eq_true (by kernel_rfl)) (by kernel_rfl)
          rw [f8] at e21
          go_step
          exact hK _ _ (S.rownew (ow_new W 5 1 2 #[.int .u8 ((hx (n / 16)).toNat : Int), .int .u8 ((hx (n % 16)).toNat : Int)] rfl (by decide)) ((Kp.refl [] W).alloc _) (fun g hg => Nat.le_of_eq (Option.some.inj hg))) trivial
        · intro vs gs A' W LF hA S hR hd hu K hK
          replace hK := hK default
          have f0 : vs 0 = .slice Ao o.length co := hd 0 (by kernel_rfl)
          have e13 : A'.tmps[13]?.getD undef = vs 0 := slot_is hA (by kernel_rfl) (Nat.le_of_ble_eq_true (by kernel_rfl)) (by kernel_rfl)
          rw [f0] at e13
          have e22 : A'.tmps[22]?.getD undef = vs 9 := slot_is hA (by kernel_rfl) (Nat.le_of_ble_eq_true (by kernel_rfl)) (by kernel_rfl)
          refine op_app (.tmp 13) (.tmp 22) 22 5 rfl Tryd.infoU8 Tryd.underlying22 rfl (by decide) (.slice Ao o.length co) o.length (bv o) (by simpa [Act.eval] using e13) S (vs 9) 2 (bv [hx (n / 16), hx (n % 16)]) (by simpa [Act.eval] using e22) (rd_of_row (e := 5) S (List.mem_cons_of_mem _ (hR 9 (List.mem_singleton.2 rfl) _ (List.mem_singleton.2 rfl)))) (bv_one _) (by unfold maxLen; omega) (by omega) (fun v' w' S' => ?_)
          rw [← bv_append, HO'.out.1, HO'.out.2] at S'
          obtain ⟨A1, c1, h1, _⟩ := ow_form (S'.at_ (l1 := []))
          exact hK v' w' S' ⟨A1, c1, h1⟩
        · intro vs gs A' W LF hA S hR hd hu K hK
          replace hK := hK default
          have f10 : ∃ A c, vs 10 = .slice A o'.length c := hd 10 (by kernel_rfl)
          have e23 : A'.tmps[23]?.getD undef = vs 10 := slot_is hA (by kernel_rfl) (Nat.le_of_ble_eq_true (by kernel_rfl)) (by kernel_rfl)
          go_step
          exact hK _ _ S rfl
      · intro vs gs W S hp
        have S : Held w W (rowR 5 1 (vs 9) 2 (bv [hx (n / 16), hx (n % 16)]) :: rowR 5 1 (vs 10) o'.length (bv o') :: blkR g3 122 (hashA digL) :: []) := by simpa only [List.flatMap_cons, List.flatMap_nil, List.append_nil, List.nil_append, List.cons_append, List.append_assoc] using S
        have p0 : vs 0 = .slice Ao o.length co := hp 0 (Nat.le_of_ble_eq_true rfl)
        have p1 : vs 1 = .int .u8 (n : Int) := hp 1 (Nat.le_of_ble_eq_true rfl)
        have p2 : vs 2 = .int .u8 ((n : Int) / 16) := hp 2 (Nat.le_of_ble_eq_true rfl)
        have p3 : vs 3 = .pointer (some ⟨g3, n / 16, none⟩) := hp 3 (Nat.le_of_ble_eq_true rfl)
        have p4 : vs 4 = .int .u8 ((hx (n / 16)).toNat : Int) := hp 4 (Nat.le_of_ble_eq_true rfl)
        have p5 : vs 5 = .int .u8 (n : Int) := hp 5 (Nat.le_of_ble_eq_true rfl)
        have p6 : vs 6 = .int .u8 ((n : Int) % 16) := hp 6 (Nat.le_of_ble_eq_true rfl)
        have p7 : vs 7 = .pointer (some ⟨g3, n % 16, none⟩) := hp 7 (Nat.le_of_ble_eq_true rfl)
        have p8 : vs 8 = .int .u8 ((hx (n % 16)).toNat : Int) := hp 8 (Nat.le_of_ble_eq_true rfl)
        have p11 : vs 11 = vs 10 := hp 11 (Nat.le_of_ble_eq_true rfl)
        obtain ⟨A8, c8, h8⟩ := hp 10 (Nat.le_of_ble_eq_true rfl)
        rw [h8] at p11 S
        have S2 := Lib.hid S.drop
        clear hp
        simp only [putAll, p0, p1, p2, p3, p4, p5, p6, p7, p8, p11, h8, Act.put, List.setIfInBounds_toArray, List.set_cons_succ, List.set_cons_zero]
        clear p0 p1 p2 p3 p4 p5 p6 p7 p8 p11 h8
        go_wp2
        go_roundw
        case rel => exact ⟨k + 1, by omega, by go_num, by rw [HO2.out]; exact ⟨_, _, rfl, S2.out⟩⟩
        case measure => simp [intOf]; omega
      -- END phex
    · obtain rfl : k = 32 := by omega
      have HR : Hid (hexS (h.take 32) = hexS h) := Lib.hid (by rw [List.take_of_length_le (by have := HH.out; omega)])
      rw [HR.out] at HS ⊢
      have kv := strB (Rd.of_own (HS.out.at_ (l1 := [])))
      go_wp2
      go_ret
      exact ⟨rfl, HS.out.k⟩
end Go.Proofs.YtapboamjpilckaaDoor
/- Unhex of point and of the reference. -/
namespace Go.Proofs.YtapboamjpilckaaDoor
open Go.RowKit
theorem hashA_set (l : List UInt8) (i : Nat) (c : UInt8) : (hashA l).setIfInBounds i (.int .u8 (c.toNat : Int)) = hashA (l.set i c) := by
  apply Array.ext'
  simp [hashA, bv, List.map_set]
theorem run_str_indexP (s : ByteArray) (k : Nat) (hk : k < s.size) (w : World) : (Instr.index 9 (.string s) (.int .i64 (k : Int))).run Tryd.prog w = .ok (.int .u8 (s[k].toNat : Int)) w := by
  simp [Instr.index, run_underlying Tryd.underlying9, hk, go_sem]
end Go.Proofs.YtapboamjpilckaaDoor
/- Regions and loops as theorems of their own, over an ABSTRACT frame 'a': code is taken out of the function by its number; what the frame holds is told slot by slot ('Sl'), what a region leaves alone by 'Same'. -/
namespace Go.Proofs.YtapboamjpilckaaDoor

/-- The region of that number. -/
def regOf (n : Nat) : Code → Option (Array Oper)
  | .region id ops _ => if id = n then some ops else none
  | .seq a b => match regOf n a with
    | some x => some x
    | none => regOf n b
  | .cond _ a b => match regOf n a with
    | some x => some x
    | none => regOf n b
  | .block _ c => regOf n c
  | .loop c => regOf n c
  | .scope c => regOf n c
  | .rangeFunc _ _ a b => match regOf n a with
    | some x => some x
    | none => regOf n b
  | _ => none
def opsOf (n : Nat) (f : Func) : List Oper := match f.body with
  | some c => match regOf n c with
    | some x => x.toList
    | none => []
  | none => []
/-- The block of that number: what is in it. -/
def blkOf (n : Nat) : Code → Option Code
  | .block id c => if id = n then some c else blkOf n c
  | .seq a b => match blkOf n a with
    | some x => some x
    | none => blkOf n b
  | .cond _ a b => match blkOf n a with
    | some x => some x
    | none => blkOf n b
  | .loop c => blkOf n c
  | .scope c => blkOf n c
  | .rangeFunc _ _ a b => match blkOf n a with
    | some x => some x
    | none => blkOf n b
  | _ => none
def blockOf (n : Nat) (f : Func) : Code := match f.body with
  | some c => (blkOf n c).getD .skip
  | none => .skip
/-- What is behind the region of that number, in the row of statements that it stands in. -/
def behind (n : Nat) : Code → Option Code
  | .seq (.region id _ _) b => if id = n then some b else behind n b
  | .seq a b => match behind n a with
    | some x => some x
    | none => behind n b
  | .cond _ a b => match behind n a with
    | some x => some x
    | none => behind n b
  | .block _ c => behind n c
  | .loop c => behind n c
  | .scope c => behind n c
  | .rangeFunc _ _ a b => match behind n a with
    | some x => some x
    | none => behind n b
  | _ => none
def hasReg (n : Nat) : Code → Bool
  | .region id _ _ => id == n
  | .seq a b => hasReg n a || hasReg n b
  | .cond _ a b => hasReg n a || hasReg n b
  | .block _ c => hasReg n c
  | .loop c => hasReg n c
  | .scope c => hasReg n c
  | .rangeFunc _ _ a b => hasReg n a || hasReg n b
  | _ => false
/-- What is behind the statement that holds the region of that number (the outermost row of statements). -/
def tailIn (n : Nat) : Code → Code
  | .seq a b => if hasReg n a then b else tailIn n b
  | c => c
def tailOf (n : Nat) (f : Func) : Code := match f.body with
  | some c => tailIn n c
  | none => .skip

/-- The frame, with these slots put. -/
def putD : List (Nat × Value) → Act → Act
  | [], a => a
  | (d, v) :: l, a => putD l (a.put (some d) v)
/-- What a slot holds. -/
def Sl (a : Act) (d : Nat) (v : Value) : Prop := ∀ h : d < a.tmps.size, a.tmps[d]'h = v
structure Same (a a' : Act) (ds : List Nat) : Prop where
  size : a'.tmps.size = a.tmps.size
  defers : a'.defers = a.defers
  keep : ∀ d v, (ds.contains d) = false → Sl a d v → Sl a' d v
def lastD : List (Nat × Value) → Nat → Option Value
  | [], _ => none
  | (e, v) :: l, d => match lastD l d with
    | some u => some u
    | none => if e = d then some v else none
theorem sl_of {a : Act} {d : Nat} {v : Value} (h : a.tmps[d]? = some v) : Sl a d v := by
  intro hd
  rw [Array.getElem?_eq_getElem hd] at h
  exact Option.some.inj h
theorem Sl.some {a : Act} {d : Nat} {v : Value} (h : Sl a d v) (hd : d < a.tmps.size) : a.tmps[d]? = some v := by
  rw [Array.getElem?_eq_getElem hd, h hd]
theorem sl_put1 {a : Act} {d e : Nat} {v u : Value} (h : Sl a d v) (hne : e ≠ d) : Sl (a.put (some e) u) d v := by
  by_cases hd : d < a.tmps.size
  · refine sl_of ?_
    show (a.tmps.setIfInBounds e u)[d]? = _
    rw [Array.getElem?_setIfInBounds_ne hne]
    exact h.some hd
  · intro hd'
    exact absurd (by simpa [Act.put] using hd') hd
theorem putD_size : ∀ (l : List (Nat × Value)) (a : Act), (putD l a).tmps.size = a.tmps.size
  | [], _ => rfl
  | (d, v) :: l, a => by
    show (putD l (a.put (some d) v)).tmps.size = _
    rw [putD_size l]
    simp [Act.put]
theorem putD_defers : ∀ (l : List (Nat × Value)) (a : Act), (putD l a).defers = a.defers
  | [], _ => rfl
  | (d, v) :: l, a => by
    show (putD l (a.put (some d) v)).defers = _
    rw [putD_defers l]
    rfl
theorem sl_putD_out : ∀ (l : List (Nat × Value)) (a : Act) (d : Nat) (v : Value), (l.map (·.1)).contains d = false → Sl a d v → Sl (putD l a) d v
  | [], _, _, _, _, h => h
  | (e, u) :: l, a, d, v, hn, h => by
    simp only [List.map_cons, List.contains_cons, Bool.or_eq_false_iff] at hn
    exact sl_putD_out l _ d v hn.2 (sl_put1 h (fun e => by simp [e] at hn))
theorem same_putD (l : List (Nat × Value)) (a : Act) : Same a (putD l a) (l.map (·.1)) :=
  ⟨putD_size l a, putD_defers l a, fun d v hn h => sl_putD_out l a d v hn h⟩
/-- The same, as the walk spells it. -/
theorem same_nil {a : Act} {ds : List Nat} : Same a { tmps := a.tmps, defers := a.defers } ds := ⟨rfl, rfl, fun _ _ _ h => h⟩
theorem same_set {a : Act} {t : Array Value} {D : List Deferred} {ds : List Nat} {d : Nat} {v : Value} (hd : ds.contains d = true) (h : Same a { tmps := t, defers := D } ds) : Same a { tmps := t.setIfInBounds d v, defers := D } ds := by
  refine ⟨by rw [← h.size]; simp, h.defers, fun e u hn hs => ?_⟩
  have h1 := h.keep e u hn hs
  have hne : d ≠ e := by
    rintro rfl
    rw [hd] at hn
    cases hn
  have := sl_put1 (u := v) h1 hne
  exact this
theorem lastD_none : ∀ (l : List (Nat × Value)) (d : Nat), lastD l d = none → (l.map (·.1)).contains d = false
  | [], _, _ => rfl
  | (e, u) :: l, d, h => by
    unfold lastD at h
    cases hl : lastD l d with
    | some x => rw [hl] at h; cases h
    | none =>
      rw [hl] at h
      simp only at h
      by_cases he : e = d
      · rw [if_pos he] at h; cases h
      · simp only [List.map_cons, List.contains_cons, Bool.or_eq_false_iff]
        exact ⟨by simpa using fun h => he h.symm, lastD_none l d hl⟩
theorem sl_putD : ∀ (l : List (Nat × Value)) (a : Act) (d : Nat) (v : Value), lastD l d = some v → Sl (putD l a) d v
  | [], _, _, _, h => by cases h
  | (e, u) :: l, a, d, v, h => by
    unfold lastD at h
    cases hl : lastD l d with
    | some x =>
      rw [hl] at h
      cases h
      exact sl_putD l _ d v hl
    | none =>
      rw [hl] at h
      simp only at h
      by_cases he : e = d
      · rw [if_pos he] at h
        cases h
        subst he
        refine sl_putD_out l _ e _ (lastD_none l e hl) ?_
        intro hd
        simp [Act.put]
      · rw [if_neg he] at h; cases h
theorem Same.trans {a b c : Act} {d1 d2 : List Nat} (h : Same a b d1) (k : Same b c d2) : Same a c (d1 ++ d2) :=
  ⟨k.size.trans h.size, k.defers.trans h.defers, fun d v hn hs => by
    rw [List.contains_eq_any_beq, List.any_append, Bool.or_eq_false_iff] at hn
    exact k.keep d v (by rw [List.contains_eq_any_beq]; exact hn.2) (h.keep d v (by rw [List.contains_eq_any_beq]; exact hn.1) hs)⟩
theorem Same.more {a b : Act} {d1 d2 : List Nat} (h : Same a b d1) (hd : (d1.all fun d => d2.contains d) = true) : Same a b d2 :=
  ⟨h.size, h.defers, fun d v hn hs => h.keep d v (by
    cases hc : d1.contains d with
    | false => rfl
    | true =>
      have := List.all_eq_true.1 hd d (by simpa using hc)
      rw [hn] at this
      cases this) hs⟩
theorem Same.refl (a : Act) (ds : List Nat) : Same a a ds := ⟨rfl, rfl, fun _ _ _ h => h⟩
theorem Sl.eval {a : Act} {d : Nat} {v : Value} (h : Sl a d v) (hd : d < a.tmps.size) : a.eval (.tmp d) = v := by
  simp only [Act.eval]
  rw [Array.getD_eq_getD_getElem?, Array.getElem?_eq_getElem hd]
  exact h hd
/-- A call, its frame abstract. -/
theorem calls_fr {P : Program} {f : FuncId} {fn : Func} {c : Code} {args : Array Value} {w : World} {R : Ending → World → Prop} (hf : P.funcs[f]? = some fn) (hb : fn.body = some c) (N : Nat) (hN : args.size + (fn.ntmps - args.size) = N)
    (h : ∀ a : Act, a.tmps.size = N → a.defers = [] → (∀ i v, args[i]? = some v → Sl a i v) → c.wp P (bodyPost P fn R) a w) : Calls P f args w R :=
  calls_of_wp hf hb (h _ (by simp only [Array.size_append, Array.size_replicate]; exact hN) rfl (fun i v hi => sl_of (by
    rw [Array.getElem?_append_left (Array.getElem?_eq_some_iff.1 hi).1]; exact hi)))
section
variable {vs : Nat → Value} {l : List Oper} {a A : Act} {d j : Nat}
theorem slot_in (hA : (fun vs => putAll vs l 0 a) vs = A) (hB : apartB l = true) (hd : d < a.tmps.size) (h : evA vs l 0 d = some (vs j)) : A.tmps[d]?.getD undef = vs j :=
  slot_is hA hB hd (by rw [h]; rfl)
theorem slot_out {v : Value} (hA : (fun vs => putAll vs l 0 a) vs = A) (hB : apartB l = true) (hd : d < a.tmps.size) (h : evA vs l 0 d = none) (o : Sl a d v) : A.tmps[d]?.getD undef = v :=
  slot_is hA hB hd (by rw [h]; exact o.eval hd)
end
end Go.Proofs.YtapboamjpilckaaDoor
/- Block of sha: the words. -/
namespace Go.Proofs.YtapboamjpilckaaDoor
open Go.RowKit
theorem u32_cell {w : World} {g : Nat} {t : TypeId} {l : List Nat} (h : Blk w g t (u32A l)) (i x : Nat) (hx : l[i]? = some x) : w.cell? ⟨g, i, none⟩ = some (.int .u32 (x : Int)) := by
  rw [h.cell i, show (u32A l)[i]? = (u32L l)[i]? from by simp [u32A], u32L_get, hx]
  rfl
/-- So many words, and noughts. -/
def pz (l : List Nat) : List Nat := l ++ List.replicate (64 - l.length) 0
theorem pz_length {l : List Nat} (h : l.length ≤ 64) : (pz l).length = 64 := by unfold pz; rw [List.length_append, List.length_replicate]; omega
theorem pz_at {l : List Nat} {i x : Nat} (h : l[i]? = some x) : (pz l)[i]? = some x := by
  unfold pz
  rw [List.getElem?_append_left (List.getElem?_eq_some_iff.1 h).1]; exact h
theorem pz_next {l : List Nat} (h : l.length < 64) (x : Nat) : (pz l).set l.length x = pz (l ++ [x]) := by
  unfold pz
  rw [List.set_append_right _ _ (Nat.le_refl _), Nat.sub_self, show 64 - l.length = (64 - (l ++ [x]).length) + 1 from by simp; omega, List.replicate_succ, List.set_cons_zero]
  simp
theorem bytes_rd {w : World} {g : Nat} {t : TypeId} {b : List UInt8} (h : Blk w g t (hashA b)) (k : Nat) (hk : k ≤ b.length) (hb : b.length ≤ 1000) : Rd w 1 (.slice (some ⟨g, k, none⟩) (b.length - k) (b.length - k)) (b.length - k) (bv (b.drop k)) := by
  refine ⟨by rw [bv_length, List.length_drop]; omega, _, _, rfl, Nat.le_refl _, by unfold maxLen; omega, (fun h => by cases h), fun ad had j u hu => ?_⟩
  cases had
  have h2 : (bv b)[k + j]? = some u := by
    rw [bv_get] at hu ⊢
    rw [List.getElem?_drop] at hu
    exact hu
  rw [show ((⟨g, k, none⟩ : Addr).add j) = ⟨g, k + j, none⟩ from by unfold Addr.add; split <;> simp <;> omega, h.cell, show (hashA b)[k + j]? = (bv b)[k + j]? from by simp [hashA]]
  exact h2
theorem wsN_next16 (b : List UInt8) {k : Nat} (hk : k < 16) : wsN b (k + 1) = wsN b k ++ [num ((b.drop (4 * k)).take 4)] := by
  show wsN b k ++ [if k < 16 then _ else _] = _
  rw [if_pos hk]
theorem wsN_next48 (b : List UInt8) (j : Nat) : wsN b (j + 16 + 1) = wsN b (j + 16) ++ [((wsN b (j + 16)).getD j 0 + sg0 ((wsN b (j + 16)).getD (j + 1) 0) + (wsN b (j + 16)).getD (j + 9) 0 + sg1 ((wsN b (j + 16)).getD (j + 14) 0)) % 4294967296] := by
  show wsN b (j + 16) ++ [if j + 16 < 16 then _ else _] = _
  rw [if_neg (by omega), show j + 16 - 16 = j from by omega, show j + 16 - 15 = j + 1 from by omega, show j + 16 - 7 = j + 9 from by omega, show j + 16 - 2 = j + 14 from by omega]
theorem getD_at {l : List Nat} {i : Nat} (h : i < l.length) : l[i]? = some (l.getD i 0) := by
  rw [List.getD_eq_getElem?_getD, List.getElem?_eq_getElem h]
  rfl
theorem Tryd.len64u8 : Tryd.prog.arrayLen 76 = 64 := by kernel_rfl
theorem Tryd.slice64 (g : Nat) (w : World) (k : Nat) (z : Int) (hz : z = k) (hk : k < 64) : (Instr.sliceAt 76 (.pointer (some ⟨g, 0, none⟩)) (some (.int .i64 z)) none none).run Tryd.prog w = .ok (.slice (some ⟨g, k, none⟩) (64 - k) (64 - k)) w := by
  subst hz
  obtain ⟨i0, hi, hz0, hz1, hz2⟩ := info_parts Tryd.infoU8
  rw [run_sliceAt_array_l w 76 ⟨g, 0, none⟩ (by kernel_rfl) .i64 (k : Int) (by omega) (by rw [Tryd.len64u8]; omega), Tryd.len64u8, show Tryd.prog.elem 76 = 5 from by kernel_rfl]
  have e : (⟨g, 0, none⟩ : Addr).add (k * 1) = ⟨g, k, none⟩ := by unfold Addr.add; split <;> simp <;> omega
  simp only [sizeOf, typeInfo, hi, hz1, Sem.run_bind, Sem.run_pure, Result.andThen, run_program, slicedAt, Int.toNat_natCast, e]
  rw [if_neg (by omega)]
theorem list8 {l : List Nat} (h : l.length = 8) : ∃ a b c d e f g i, l = [a, b, c, d, e, f, g, i] := by
  match l, h with
  | [a, b, c, d, e, f, g, i], _ => exact ⟨a, b, c, d, e, f, g, i, rfl⟩
theorem Tryd.built8 (a b c d e f g h : Nat) : Tryd.prog.built 111 (at0N (u32L [a, b, c, d, e, f, g, h]) 0) = some (u32A [a, b, c, d, e, f, g, h]) := by
  unfold Program.built
  kernel_rfl
theorem pz_full {l : List Nat} (h : l.length = 64) : pz l = l := by unfold pz; rw [h]; simp
theorem and_lt {x y : Nat} (h : x < 4294967296) : x &&& y < 4294967296 := Nat.lt_of_le_of_lt Nat.and_le_left h
theorem not32_lt' (x : Nat) : not32 x < 4294967296 := by unfold not32; omega
end Go.Proofs.YtapboamjpilckaaDoor
/- Block of sha: the rounds' regions, each a theorem. -/
namespace Go.Proofs.YtapboamjpilckaaDoor
open Go.RowKit
-- REG sblk19
set_option maxRecDepth 100000 in
set_option maxHeartbeats 2000000 in
theorem sblk_r19 {Q : Exit → Act → World → Prop} {a : Act} {w : World} (g11 v0 v1 v2 v3 v4 v5 v6 v7 : Nat) (HV : Hid (∀ V, Kp [] w V → ∀ i x : Nat, [v0, v1, v2, v3, v4, v5, v6, v7][i]? = some x → V.cell? ⟨g11, i, none⟩ = some (.int .u32 (x : Int)))) (hsz : a.tmps.size = 172) (o11 : Sl a 11 (.pointer (some ⟨g11, 0, none⟩)))
    (hend : ∀ (a' : Act) (W : World), Same a a' [82, 83, 84, 85, 13, 14] → Kp [] w.drew W → Sl a' 13 (.int .u32 ((v0 : Nat) : Int)) → Sl a' 14 (.int .u32 ((v4 : Nat) : Int)) → Q .normal a' W) : (Code.region 19 (opsOf 19 Tryd.f82).toArray true).wp Tryd.prog Q a w := by
  have hap : apartB (opsOf 19 Tryd.f82) = true := by kernel_rfl
  refine wp_region_inv (l := (opsOf 19 Tryd.f82)) (fun i v W => match i with | 0 => v = .pointer (some ⟨g11, 0, none⟩) | 1 => v = .int .u32 ((v0 : Nat) : Int) | 2 => v = .pointer (some ⟨g11, 4, none⟩) | 3 => v = .int .u32 ((v4 : Nat) : Int) | 4 => v = .int .u32 ((v0 : Nat) : Int) | 5 => v = .int .u32 ((v4 : Nat) : Int) | _ => True) (by kernel_rfl) hap (by kernel_rfl) ?_ ?_ ?_
  · intro i v W W' h _
    iterate 6 (rcases i with _ | i; · exact h)
    exact h
  · refine ⟨?_, ?_, ?_, ?_, ?_, ?_, trivial⟩
    · intro vs A' W hA hW hd K hK
      have e11 : A'.tmps[11]?.getD undef = .pointer (some ⟨g11, 0, none⟩) := slot_out hA hap (Nat.lt_of_lt_of_eq (Nat.le_of_ble_eq_true rfl : 11 < 172) hsz.symm) (by kernel_rfl) o11
      clear hA hd o11
      go_step
      exact hK _ _ (Kp.refl _ _) rfl
    · intro vs A' W hA hW hd K hK
      have f0 : vs 0 = .pointer (some ⟨g11, 0, none⟩) := hd 0 (by kernel_rfl)
      have e82 : A'.tmps[82]?.getD undef = vs 0 := slot_in hA hap (Nat.lt_of_lt_of_eq (Nat.le_of_ble_eq_true rfl : 82 < 172) hsz.symm) (by kernel_rfl)
      rw [f0] at e82
      clear hA hd o11
      have c0 := HV.out W ((Kp.refl [] _).drew.trans hW (by simp)) 0 v0 rfl
      go_step
      exact hK _ _ (Kp.refl _ _) rfl
    · intro vs A' W hA hW hd K hK
      have e11 : A'.tmps[11]?.getD undef = .pointer (some ⟨g11, 0, none⟩) := slot_out hA hap (Nat.lt_of_lt_of_eq (Nat.le_of_ble_eq_true rfl : 11 < 172) hsz.symm) (by kernel_rfl) o11
      clear hA hd o11
      go_step
      exact hK _ _ (Kp.refl _ _) rfl
    · intro vs A' W hA hW hd K hK
      have f2 : vs 2 = .pointer (some ⟨g11, 4, none⟩) := hd 2 (by kernel_rfl)
      have e84 : A'.tmps[84]?.getD undef = vs 2 := slot_in hA hap (Nat.lt_of_lt_of_eq (Nat.le_of_ble_eq_true rfl : 84 < 172) hsz.symm) (by kernel_rfl)
      rw [f2] at e84
      clear hA hd o11
      have c0 := HV.out W ((Kp.refl [] _).drew.trans hW (by simp)) 4 v4 rfl
      go_step
      exact hK _ _ (Kp.refl _ _) rfl
    · intro vs A' W hA hW hd K hK
      have f1 : vs 1 = .int .u32 ((v0 : Nat) : Int) := hd 1 (by kernel_rfl)
      have e83 : A'.tmps[83]?.getD undef = vs 1 := slot_in hA hap (Nat.lt_of_lt_of_eq (Nat.le_of_ble_eq_true rfl : 83 < 172) hsz.symm) (by kernel_rfl)
      rw [f1] at e83
      clear hA hd o11
      go_step
      exact hK _ _ (Kp.refl _ _) rfl
    · intro vs A' W hA hW hd K hK
      have f3 : vs 3 = .int .u32 ((v4 : Nat) : Int) := hd 3 (by kernel_rfl)
      have e85 : A'.tmps[85]?.getD undef = vs 3 := slot_in hA hap (Nat.lt_of_lt_of_eq (Nat.le_of_ble_eq_true rfl : 85 < 172) hsz.symm) (by kernel_rfl)
      rw [f3] at e85
      clear hA hd o11
      go_step
      exact hK _ _ (Kp.refl _ _) rfl
  · intro vs W hW hp
    rw [show putAll vs (opsOf 19 Tryd.f82) 0 a = putD [(82, vs 0), (83, vs 1), (84, vs 2), (85, vs 3), (13, vs 4), (14, vs 5)] a from by kernel_rfl]
    exact hend _ W (same_putD _ a) hW (sl_putD _ a 13 _ (by rw [show vs 4 = _ from hp 4 (Nat.le_of_ble_eq_true (by kernel_rfl))]; kernel_rfl)) (sl_putD _ a 14 _ (by rw [show vs 5 = _ from hp 5 (Nat.le_of_ble_eq_true (by kernel_rfl))]; kernel_rfl))
-- END sblk19
-- REG sblk20
set_option maxRecDepth 100000 in
set_option maxHeartbeats 2000000 in
theorem sblk_r20 {Q : Exit → Act → World → Prop} {a : Act} {w : World} (g5 g10 g11 k v0 v1 v2 v3 v4 v5 v6 v7 kk wk : Nat) (hk : k < 64) (HV4 : Hid (v4 < 4294967296)) (HV5 : Hid (v5 < 4294967296)) (HV6 : Hid (v6 < 4294967296)) (HV : Hid (∀ V, Kp [] w V → ∀ i x : Nat, [v0, v1, v2, v3, v4, v5, v6, v7][i]? = some x → V.cell? ⟨g11, i, none⟩ = some (.int .u32 (x : Int)))) (HKt : Hid (∀ V, Kp [] w V → V.cell? ⟨g10, k, none⟩ = some (.int .u32 (kk : Int)))) (HWt : Hid (∀ V, Kp [] w V → V.cell? ⟨g5, k, none⟩ = some (.int .u32 (wk : Int)))) (hsz : a.tmps.size = 172) (o5 : Sl a 5 (.pointer (some ⟨g5, 0, none⟩))) (o10 : Sl a 10 (.pointer (some ⟨g10, 0, none⟩))) (o11 : Sl a 11 (.pointer (some ⟨g11, 0, none⟩))) (o12 : Sl a 12 (.int .i64 (k : Int))) (o14 : Sl a 14 (.int .u32 ((v4 : Nat) : Int)))
    (hend : ∀ (a' : Act) (W : World), Same a a' [86, 87, 88, 89, 90, 91, 92, 93, 94, 95, 96, 97, 98, 99, 100, 101, 102, 103, 104, 105, 106, 107, 108, 109, 110, 111, 112, 113, 114, 115, 15] → Kp [] w.drew W → Sl a' 15 (.int .u32 ((rX v4 v5 v6 v7 kk wk : Nat) : Int)) → Q .normal a' W) : (Code.region 20 (opsOf 20 Tryd.f82).toArray true).wp Tryd.prog Q a w := by
  have hap : apartB (opsOf 20 Tryd.f82) = true := by kernel_rfl
  refine wp_region_inv (l := (opsOf 20 Tryd.f82)) (fun i v W => match i with | 0 => v = .pointer (some ⟨g11, 7, none⟩) | 1 => v = .int .u32 ((v7 : Nat) : Int) | 2 => v = .int .u32 ((v4 : Nat) : Int) | 3 => v = .int .u32 ((rotr v4 6 : Nat) : Int) | 4 => v = .int .u32 ((v4 : Nat) : Int) | 5 => v = .int .u32 ((rotr v4 11 : Nat) : Int) | 6 => v = .int .u32 ((rotr v4 6 ^^^ rotr v4 11 : Nat) : Int) | 7 => v = .int .u32 ((v4 : Nat) : Int) | 8 => v = .int .u32 ((rotr v4 25 : Nat) : Int) | 9 => v = .int .u32 ((bS1 v4 : Nat) : Int) | 10 => v = .int .u32 (((v7 + bS1 v4) % 4294967296 : Nat) : Int) | 11 => v = .int .u32 ((v4 : Nat) : Int) | 12 => v = .pointer (some ⟨g11, 5, none⟩) | 13 => v = .int .u32 ((v5 : Nat) : Int) | 14 => v = .int .u32 ((v4 &&& v5 : Nat) : Int) | 15 => v = .int .u32 ((v4 : Nat) : Int) | 16 => v = .int .u32 ((not32 v4 : Nat) : Int) | 17 => v = .pointer (some ⟨g11, 6, none⟩) | 18 => v = .int .u32 ((v6 : Nat) : Int) | 19 => v = .int .u32 ((not32 v4 &&& v6 : Nat) : Int) | 20 => v = .int .u32 ((cho v4 v5 v6 : Nat) : Int) | 21 => v = .int .u32 (((v7 + bS1 v4 + cho v4 v5 v6) % 4294967296 : Nat) : Int) | 22 => v = .int .i64 (k : Int) | 23 => v = .pointer (some ⟨g10, k, none⟩) | 24 => v = .int .u32 ((kk : Nat) : Int) | 25 => v = .int .u32 (((v7 + bS1 v4 + cho v4 v5 v6 + kk) % 4294967296 : Nat) : Int) | 26 => v = .int .i64 (k : Int) | 27 => v = .pointer (some ⟨g5, k, none⟩) | 28 => v = .int .u32 ((wk : Nat) : Int) | 29 => v = .int .u32 ((rX v4 v5 v6 v7 kk wk : Nat) : Int) | 30 => v = .int .u32 ((rX v4 v5 v6 v7 kk wk : Nat) : Int) | _ => True) (by kernel_rfl) hap (by kernel_rfl) ?_ ?_ ?_
  · intro i v W W' h _
    iterate 31 (rcases i with _ | i; · exact h)
    exact h
  · refine ⟨?_, ?_, ?_, ?_, ?_, ?_, ?_, ?_, ?_, ?_, ?_, ?_, ?_, ?_, ?_, ?_, ?_, ?_, ?_, ?_, ?_, ?_, ?_, ?_, ?_, ?_, ?_, ?_, ?_, ?_, ?_, trivial⟩
    · intro vs A' W hA hW hd K hK
      have e11 : A'.tmps[11]?.getD undef = .pointer (some ⟨g11, 0, none⟩) := slot_out hA hap (Nat.lt_of_lt_of_eq (Nat.le_of_ble_eq_true rfl : 11 < 172) hsz.symm) (by kernel_rfl) o11
      clear hA hd o5 o10 o11 o12 o14
      go_step
      exact hK _ _ (Kp.refl _ _) rfl
    · intro vs A' W hA hW hd K hK
      have f0 : vs 0 = .pointer (some ⟨g11, 7, none⟩) := hd 0 (by kernel_rfl)
      have e86 : A'.tmps[86]?.getD undef = vs 0 := slot_in hA hap (Nat.lt_of_lt_of_eq (Nat.le_of_ble_eq_true rfl : 86 < 172) hsz.symm) (by kernel_rfl)
      rw [f0] at e86
      clear hA hd o5 o10 o11 o12 o14
      have c0 := HV.out W ((Kp.refl [] _).drew.trans hW (by simp)) 7 v7 rfl
      go_step
      exact hK _ _ (Kp.refl _ _) rfl
    · intro vs A' W hA hW hd K hK
      have e14 : A'.tmps[14]?.getD undef = .int .u32 ((v4 : Nat) : Int) := slot_out hA hap (Nat.lt_of_lt_of_eq (Nat.le_of_ble_eq_true rfl : 14 < 172) hsz.symm) (by kernel_rfl) o14
      clear hA hd o5 o10 o11 o12 o14
      go_step
      exact hK _ _ (Kp.refl _ _) rfl
    · intro vs A' W hA hW hd K hK
      have f2 : vs 2 = .int .u32 ((v4 : Nat) : Int) := hd 2 (by kernel_rfl)
      have e88 : A'.tmps[88]?.getD undef = vs 2 := slot_in hA hap (Nat.lt_of_lt_of_eq (Nat.le_of_ble_eq_true rfl : 88 < 172) hsz.symm) (by kernel_rfl)
      rw [f2] at e88
      clear hA hd o5 o10 o11 o12 o14
      go_step
      refine (srot_any v4 6 6 rfl HV4.out (by unfold rotK; omega) W).mono ?_
      rintro e w' ⟨rfl, rfl⟩
      exact hK _ _ (Kp.refl _ _) rfl
    · intro vs A' W hA hW hd K hK
      have e14 : A'.tmps[14]?.getD undef = .int .u32 ((v4 : Nat) : Int) := slot_out hA hap (Nat.lt_of_lt_of_eq (Nat.le_of_ble_eq_true rfl : 14 < 172) hsz.symm) (by kernel_rfl) o14
      clear hA hd o5 o10 o11 o12 o14
      go_step
      exact hK _ _ (Kp.refl _ _) rfl
    · intro vs A' W hA hW hd K hK
      have f4 : vs 4 = .int .u32 ((v4 : Nat) : Int) := hd 4 (by kernel_rfl)
      have e90 : A'.tmps[90]?.getD undef = vs 4 := slot_in hA hap (Nat.lt_of_lt_of_eq (Nat.le_of_ble_eq_true rfl : 90 < 172) hsz.symm) (by kernel_rfl)
      rw [f4] at e90
      clear hA hd o5 o10 o11 o12 o14
      go_step
      refine (srot_any v4 11 11 rfl HV4.out (by unfold rotK; omega) W).mono ?_
      rintro e w' ⟨rfl, rfl⟩
      exact hK _ _ (Kp.refl _ _) rfl
    · intro vs A' W hA hW hd K hK
      have f3 : vs 3 = .int .u32 ((rotr v4 6 : Nat) : Int) := hd 3 (by kernel_rfl)
      have e89 : A'.tmps[89]?.getD undef = vs 3 := slot_in hA hap (Nat.lt_of_lt_of_eq (Nat.le_of_ble_eq_true rfl : 89 < 172) hsz.symm) (by kernel_rfl)
      rw [f3] at e89
      have f5 : vs 5 = .int .u32 ((rotr v4 11 : Nat) : Int) := hd 5 (by kernel_rfl)
      have e91 : A'.tmps[91]?.getD undef = vs 5 := slot_in hA hap (Nat.lt_of_lt_of_eq (Nat.le_of_ble_eq_true rfl : 91 < 172) hsz.symm) (by kernel_rfl)
      rw [f5] at e91
      clear hA hd o5 o10 o11 o12 o14
      go_step
      exact hK _ _ (Kp.refl _ _) (congrArg (Value.int .u32) (u32_x _ _ (rotr_lt HV4.out) (rotr_lt HV4.out)))
    · intro vs A' W hA hW hd K hK
      have e14 : A'.tmps[14]?.getD undef = .int .u32 ((v4 : Nat) : Int) := slot_out hA hap (Nat.lt_of_lt_of_eq (Nat.le_of_ble_eq_true rfl : 14 < 172) hsz.symm) (by kernel_rfl) o14
      clear hA hd o5 o10 o11 o12 o14
      go_step
      exact hK _ _ (Kp.refl _ _) rfl
    · intro vs A' W hA hW hd K hK
      have f7 : vs 7 = .int .u32 ((v4 : Nat) : Int) := hd 7 (by kernel_rfl)
      have e93 : A'.tmps[93]?.getD undef = vs 7 := slot_in hA hap (Nat.lt_of_lt_of_eq (Nat.le_of_ble_eq_true rfl : 93 < 172) hsz.symm) (by kernel_rfl)
      rw [f7] at e93
      clear hA hd o5 o10 o11 o12 o14
      go_step
      refine (srot_any v4 25 25 rfl HV4.out (by unfold rotK; omega) W).mono ?_
      rintro e w' ⟨rfl, rfl⟩
      exact hK _ _ (Kp.refl _ _) rfl
    · intro vs A' W hA hW hd K hK
      have f6 : vs 6 = .int .u32 ((rotr v4 6 ^^^ rotr v4 11 : Nat) : Int) := hd 6 (by kernel_rfl)
      have e92 : A'.tmps[92]?.getD undef = vs 6 := slot_in hA hap (Nat.lt_of_lt_of_eq (Nat.le_of_ble_eq_true rfl : 92 < 172) hsz.symm) (by kernel_rfl)
      rw [f6] at e92
      have f8 : vs 8 = .int .u32 ((rotr v4 25 : Nat) : Int) := hd 8 (by kernel_rfl)
      have e94 : A'.tmps[94]?.getD undef = vs 8 := slot_in hA hap (Nat.lt_of_lt_of_eq (Nat.le_of_ble_eq_true rfl : 94 < 172) hsz.symm) (by kernel_rfl)
      rw [f8] at e94
      clear hA hd o5 o10 o11 o12 o14
      go_step
      exact hK _ _ (Kp.refl _ _) (congrArg (Value.int .u32) (u32_x _ _ (xor_lt (rotr_lt HV4.out) (rotr_lt HV4.out)) (rotr_lt HV4.out)))
    · intro vs A' W hA hW hd K hK
      have f1 : vs 1 = .int .u32 ((v7 : Nat) : Int) := hd 1 (by kernel_rfl)
      have e87 : A'.tmps[87]?.getD undef = vs 1 := slot_in hA hap (Nat.lt_of_lt_of_eq (Nat.le_of_ble_eq_true rfl : 87 < 172) hsz.symm) (by kernel_rfl)
      rw [f1] at e87
      have f9 : vs 9 = .int .u32 ((bS1 v4 : Nat) : Int) := hd 9 (by kernel_rfl)
      have e95 : A'.tmps[95]?.getD undef = vs 9 := slot_in hA hap (Nat.lt_of_lt_of_eq (Nat.le_of_ble_eq_true rfl : 95 < 172) hsz.symm) (by kernel_rfl)
      rw [f9] at e95
      clear hA hd o5 o10 o11 o12 o14
      go_step
      exact hK _ _ (Kp.refl _ _) (congrArg (Value.int .u32) (by first | omega | rfl))
    · intro vs A' W hA hW hd K hK
      have e14 : A'.tmps[14]?.getD undef = .int .u32 ((v4 : Nat) : Int) := slot_out hA hap (Nat.lt_of_lt_of_eq (Nat.le_of_ble_eq_true rfl : 14 < 172) hsz.symm) (by kernel_rfl) o14
      clear hA hd o5 o10 o11 o12 o14
      go_step
      exact hK _ _ (Kp.refl _ _) rfl
    · intro vs A' W hA hW hd K hK
      have e11 : A'.tmps[11]?.getD undef = .pointer (some ⟨g11, 0, none⟩) := slot_out hA hap (Nat.lt_of_lt_of_eq (Nat.le_of_ble_eq_true rfl : 11 < 172) hsz.symm) (by kernel_rfl) o11
      clear hA hd o5 o10 o11 o12 o14
      go_step
      exact hK _ _ (Kp.refl _ _) rfl
    · intro vs A' W hA hW hd K hK
      have f12 : vs 12 = .pointer (some ⟨g11, 5, none⟩) := hd 12 (by kernel_rfl)
      have e98 : A'.tmps[98]?.getD undef = vs 12 := slot_in hA hap (Nat.lt_of_lt_of_eq (Nat.le_of_ble_eq_true rfl : 98 < 172) hsz.symm) (by kernel_rfl)
      rw [f12] at e98
      clear hA hd o5 o10 o11 o12 o14
      have c0 := HV.out W ((Kp.refl [] _).drew.trans hW (by simp)) 5 v5 rfl
      go_step
      exact hK _ _ (Kp.refl _ _) rfl
    · intro vs A' W hA hW hd K hK
      have f11 : vs 11 = .int .u32 ((v4 : Nat) : Int) := hd 11 (by kernel_rfl)
      have e97 : A'.tmps[97]?.getD undef = vs 11 := slot_in hA hap (Nat.lt_of_lt_of_eq (Nat.le_of_ble_eq_true rfl : 97 < 172) hsz.symm) (by kernel_rfl)
      rw [f11] at e97
      have f13 : vs 13 = .int .u32 ((v5 : Nat) : Int) := hd 13 (by kernel_rfl)
      have e99 : A'.tmps[99]?.getD undef = vs 13 := slot_in hA hap (Nat.lt_of_lt_of_eq (Nat.le_of_ble_eq_true rfl : 99 < 172) hsz.symm) (by kernel_rfl)
      rw [f13] at e99
      clear hA hd o5 o10 o11 o12 o14
      go_step
      exact hK _ _ (Kp.refl _ _) (congrArg (Value.int .u32) (u32_and_nat _ _ HV4.out HV5.out))
    · intro vs A' W hA hW hd K hK
      have e14 : A'.tmps[14]?.getD undef = .int .u32 ((v4 : Nat) : Int) := slot_out hA hap (Nat.lt_of_lt_of_eq (Nat.le_of_ble_eq_true rfl : 14 < 172) hsz.symm) (by kernel_rfl) o14
      clear hA hd o5 o10 o11 o12 o14
      go_step
      exact hK _ _ (Kp.refl _ _) rfl
    · intro vs A' W hA hW hd K hK
      have f15 : vs 15 = .int .u32 ((v4 : Nat) : Int) := hd 15 (by kernel_rfl)
      have e101 : A'.tmps[101]?.getD undef = vs 15 := slot_in hA hap (Nat.lt_of_lt_of_eq (Nat.le_of_ble_eq_true rfl : 101 < 172) hsz.symm) (by kernel_rfl)
      rw [f15] at e101
      clear hA hd o5 o10 o11 o12 o14
      go_step
      exact hK _ _ (Kp.refl _ _) (congrArg (Value.int .u32) (u32_not v4 HV4.out))
    · intro vs A' W hA hW hd K hK
      have e11 : A'.tmps[11]?.getD undef = .pointer (some ⟨g11, 0, none⟩) := slot_out hA hap (Nat.lt_of_lt_of_eq (Nat.le_of_ble_eq_true rfl : 11 < 172) hsz.symm) (by kernel_rfl) o11
      clear hA hd o5 o10 o11 o12 o14
      go_step
      exact hK _ _ (Kp.refl _ _) rfl
    · intro vs A' W hA hW hd K hK
      have f17 : vs 17 = .pointer (some ⟨g11, 6, none⟩) := hd 17 (by kernel_rfl)
      have e103 : A'.tmps[103]?.getD undef = vs 17 := slot_in hA hap (Nat.lt_of_lt_of_eq (Nat.le_of_ble_eq_true rfl : 103 < 172) hsz.symm) (by kernel_rfl)
      rw [f17] at e103
      clear hA hd o5 o10 o11 o12 o14
      have c0 := HV.out W ((Kp.refl [] _).drew.trans hW (by simp)) 6 v6 rfl
      go_step
      exact hK _ _ (Kp.refl _ _) rfl
    · intro vs A' W hA hW hd K hK
      have f16 : vs 16 = .int .u32 ((not32 v4 : Nat) : Int) := hd 16 (by kernel_rfl)
      have e102 : A'.tmps[102]?.getD undef = vs 16 := slot_in hA hap (Nat.lt_of_lt_of_eq (Nat.le_of_ble_eq_true rfl : 102 < 172) hsz.symm) (by kernel_rfl)
      rw [f16] at e102
      have f18 : vs 18 = .int .u32 ((v6 : Nat) : Int) := hd 18 (by kernel_rfl)
      have e104 : A'.tmps[104]?.getD undef = vs 18 := slot_in hA hap (Nat.lt_of_lt_of_eq (Nat.le_of_ble_eq_true rfl : 104 < 172) hsz.symm) (by kernel_rfl)
      rw [f18] at e104
      clear hA hd o5 o10 o11 o12 o14
      go_step
      exact hK _ _ (Kp.refl _ _) (congrArg (Value.int .u32) (u32_and_nat _ _ (not32_lt' v4) HV6.out))
    · intro vs A' W hA hW hd K hK
      have f14 : vs 14 = .int .u32 ((v4 &&& v5 : Nat) : Int) := hd 14 (by kernel_rfl)
      have e100 : A'.tmps[100]?.getD undef = vs 14 := slot_in hA hap (Nat.lt_of_lt_of_eq (Nat.le_of_ble_eq_true rfl : 100 < 172) hsz.symm) (by kernel_rfl)
      rw [f14] at e100
      have f19 : vs 19 = .int .u32 ((not32 v4 &&& v6 : Nat) : Int) := hd 19 (by kernel_rfl)
      have e105 : A'.tmps[105]?.getD undef = vs 19 := slot_in hA hap (Nat.lt_of_lt_of_eq (Nat.le_of_ble_eq_true rfl : 105 < 172) hsz.symm) (by kernel_rfl)
      rw [f19] at e105
      clear hA hd o5 o10 o11 o12 o14
      go_step
      exact hK _ _ (Kp.refl _ _) (congrArg (Value.int .u32) (u32_x _ _ (and_lt HV4.out) (and_lt (not32_lt' v4))))
    · intro vs A' W hA hW hd K hK
      have f10 : vs 10 = .int .u32 (((v7 + bS1 v4) % 4294967296 : Nat) : Int) := hd 10 (by kernel_rfl)
      have e96 : A'.tmps[96]?.getD undef = vs 10 := slot_in hA hap (Nat.lt_of_lt_of_eq (Nat.le_of_ble_eq_true rfl : 96 < 172) hsz.symm) (by kernel_rfl)
      rw [f10] at e96
      have f20 : vs 20 = .int .u32 ((cho v4 v5 v6 : Nat) : Int) := hd 20 (by kernel_rfl)
      have e106 : A'.tmps[106]?.getD undef = vs 20 := slot_in hA hap (Nat.lt_of_lt_of_eq (Nat.le_of_ble_eq_true rfl : 106 < 172) hsz.symm) (by kernel_rfl)
      rw [f20] at e106
      clear hA hd o5 o10 o11 o12 o14
      go_step
      exact hK _ _ (Kp.refl _ _) (congrArg (Value.int .u32) (by first | omega | rfl))
    · intro vs A' W hA hW hd K hK
      have e12 : A'.tmps[12]?.getD undef = .int .i64 (k : Int) := slot_out hA hap (Nat.lt_of_lt_of_eq (Nat.le_of_ble_eq_true rfl : 12 < 172) hsz.symm) (by kernel_rfl) o12
      clear hA hd o5 o10 o11 o12 o14
      go_step
      exact hK _ _ (Kp.refl _ _) rfl
    · intro vs A' W hA hW hd K hK
      have e10 : A'.tmps[10]?.getD undef = .pointer (some ⟨g10, 0, none⟩) := slot_out hA hap (Nat.lt_of_lt_of_eq (Nat.le_of_ble_eq_true rfl : 10 < 172) hsz.symm) (by kernel_rfl) o10
      have f22 : vs 22 = .int .i64 (k : Int) := hd 22 (by kernel_rfl)
      have e108 : A'.tmps[108]?.getD undef = vs 22 := slot_in hA hap (Nat.lt_of_lt_of_eq (Nat.le_of_ble_eq_true rfl : 108 < 172) hsz.symm) (by kernel_rfl)
      rw [f22] at e108
      clear hA hd o5 o10 o11 o12 o14
      have h0 : 0 ≤ (k : Int) := by omega
      have h1 : (k : Int) < 64 := by omega
      go_step
      exact hK _ _ (Kp.refl _ _) rfl
    · intro vs A' W hA hW hd K hK
      have f23 : vs 23 = .pointer (some ⟨g10, k, none⟩) := hd 23 (by kernel_rfl)
      have e109 : A'.tmps[109]?.getD undef = vs 23 := slot_in hA hap (Nat.lt_of_lt_of_eq (Nat.le_of_ble_eq_true rfl : 109 < 172) hsz.symm) (by kernel_rfl)
      rw [f23] at e109
      clear hA hd o5 o10 o11 o12 o14
      have c0 := HKt.out W ((Kp.refl [] _).drew.trans hW (by simp))
      go_step
      exact hK _ _ (Kp.refl _ _) rfl
    · intro vs A' W hA hW hd K hK
      have f21 : vs 21 = .int .u32 (((v7 + bS1 v4 + cho v4 v5 v6) % 4294967296 : Nat) : Int) := hd 21 (by kernel_rfl)
      have e107 : A'.tmps[107]?.getD undef = vs 21 := slot_in hA hap (Nat.lt_of_lt_of_eq (Nat.le_of_ble_eq_true rfl : 107 < 172) hsz.symm) (by kernel_rfl)
      rw [f21] at e107
      have f24 : vs 24 = .int .u32 ((kk : Nat) : Int) := hd 24 (by kernel_rfl)
      have e110 : A'.tmps[110]?.getD undef = vs 24 := slot_in hA hap (Nat.lt_of_lt_of_eq (Nat.le_of_ble_eq_true rfl : 110 < 172) hsz.symm) (by kernel_rfl)
      rw [f24] at e110
      clear hA hd o5 o10 o11 o12 o14
      go_step
      exact hK _ _ (Kp.refl _ _) (congrArg (Value.int .u32) (by first | omega | rfl))
    · intro vs A' W hA hW hd K hK
      have e12 : A'.tmps[12]?.getD undef = .int .i64 (k : Int) := slot_out hA hap (Nat.lt_of_lt_of_eq (Nat.le_of_ble_eq_true rfl : 12 < 172) hsz.symm) (by kernel_rfl) o12
      clear hA hd o5 o10 o11 o12 o14
      go_step
      exact hK _ _ (Kp.refl _ _) rfl
    · intro vs A' W hA hW hd K hK
      have e5 : A'.tmps[5]?.getD undef = .pointer (some ⟨g5, 0, none⟩) := slot_out hA hap (Nat.lt_of_lt_of_eq (Nat.le_of_ble_eq_true rfl : 5 < 172) hsz.symm) (by kernel_rfl) o5
      have f26 : vs 26 = .int .i64 (k : Int) := hd 26 (by kernel_rfl)
      have e112 : A'.tmps[112]?.getD undef = vs 26 := slot_in hA hap (Nat.lt_of_lt_of_eq (Nat.le_of_ble_eq_true rfl : 112 < 172) hsz.symm) (by kernel_rfl)
      rw [f26] at e112
      clear hA hd o5 o10 o11 o12 o14
      have h0 : 0 ≤ (k : Int) := by omega
      have h1 : (k : Int) < 64 := by omega
      go_step
      exact hK _ _ (Kp.refl _ _) rfl
    · intro vs A' W hA hW hd K hK
      have f27 : vs 27 = .pointer (some ⟨g5, k, none⟩) := hd 27 (by kernel_rfl)
      have e113 : A'.tmps[113]?.getD undef = vs 27 := slot_in hA hap (Nat.lt_of_lt_of_eq (Nat.le_of_ble_eq_true rfl : 113 < 172) hsz.symm) (by kernel_rfl)
      rw [f27] at e113
      clear hA hd o5 o10 o11 o12 o14
      have c0 := HWt.out W ((Kp.refl [] _).drew.trans hW (by simp))
      go_step
      exact hK _ _ (Kp.refl _ _) rfl
    · intro vs A' W hA hW hd K hK
      have f25 : vs 25 = .int .u32 (((v7 + bS1 v4 + cho v4 v5 v6 + kk) % 4294967296 : Nat) : Int) := hd 25 (by kernel_rfl)
      have e111 : A'.tmps[111]?.getD undef = vs 25 := slot_in hA hap (Nat.lt_of_lt_of_eq (Nat.le_of_ble_eq_true rfl : 111 < 172) hsz.symm) (by kernel_rfl)
      rw [f25] at e111
      have f28 : vs 28 = .int .u32 ((wk : Nat) : Int) := hd 28 (by kernel_rfl)
      have e114 : A'.tmps[114]?.getD undef = vs 28 := slot_in hA hap (Nat.lt_of_lt_of_eq (Nat.le_of_ble_eq_true rfl : 114 < 172) hsz.symm) (by kernel_rfl)
      rw [f28] at e114
      clear hA hd o5 o10 o11 o12 o14
      go_step
      exact hK _ _ (Kp.refl _ _) (congrArg (Value.int .u32) (by unfold rX; omega))
    · intro vs A' W hA hW hd K hK
      have f29 : vs 29 = .int .u32 ((rX v4 v5 v6 v7 kk wk : Nat) : Int) := hd 29 (by kernel_rfl)
      have e115 : A'.tmps[115]?.getD undef = vs 29 := slot_in hA hap (Nat.lt_of_lt_of_eq (Nat.le_of_ble_eq_true rfl : 115 < 172) hsz.symm) (by kernel_rfl)
      rw [f29] at e115
      clear hA hd o5 o10 o11 o12 o14
      go_step
      exact hK _ _ (Kp.refl _ _) rfl
  · intro vs W hW hp
    rw [show putAll vs (opsOf 20 Tryd.f82) 0 a = putD [(86, vs 0), (87, vs 1), (88, vs 2), (89, vs 3), (90, vs 4), (91, vs 5), (92, vs 6), (93, vs 7), (94, vs 8), (95, vs 9), (96, vs 10), (97, vs 11), (98, vs 12), (99, vs 13), (100, vs 14), (101, vs 15), (102, vs 16), (103, vs 17), (104, vs 18), (105, vs 19), (106, vs 20), (107, vs 21), (108, vs 22), (109, vs 23), (110, vs 24), (111, vs 25), (112, vs 26), (113, vs 27), (114, vs 28), (115, vs 29), (15, vs 30)] a from by kernel_rfl]
    exact hend _ W (same_putD _ a) hW (sl_putD _ a 15 _ (by rw [show vs 30 = _ from hp 30 (Nat.le_of_ble_eq_true (by kernel_rfl))]; kernel_rfl))
-- END sblk20
-- REG sblk21
set_option maxRecDepth 100000 in
set_option maxHeartbeats 2000000 in
theorem sblk_r21 {Q : Exit → Act → World → Prop} {a : Act} {w : World} (g11 v0 v1 v2 v3 v4 v5 v6 v7 : Nat) (HV0 : Hid (v0 < 4294967296)) (HV1 : Hid (v1 < 4294967296)) (HV2 : Hid (v2 < 4294967296)) (HV : Hid (∀ V, Kp [] w V → ∀ i x : Nat, [v0, v1, v2, v3, v4, v5, v6, v7][i]? = some x → V.cell? ⟨g11, i, none⟩ = some (.int .u32 (x : Int)))) (hsz : a.tmps.size = 172) (o11 : Sl a 11 (.pointer (some ⟨g11, 0, none⟩))) (o13 : Sl a 13 (.int .u32 ((v0 : Nat) : Int)))
    (hend : ∀ (a' : Act) (W : World), Same a a' [116, 117, 118, 119, 120, 121, 122, 123, 124, 125, 126, 127, 128, 129, 130, 131, 132, 133, 134, 135, 136, 137, 138, 139, 16] → Kp [] w.drew W → Sl a' 16 (.int .u32 ((rY v0 v1 v2 : Nat) : Int)) → Q .normal a' W) : (Code.region 21 (opsOf 21 Tryd.f82).toArray true).wp Tryd.prog Q a w := by
  have hap : apartB (opsOf 21 Tryd.f82) = true := by kernel_rfl
  refine wp_region_inv (l := (opsOf 21 Tryd.f82)) (fun i v W => match i with | 0 => v = .int .u32 ((v0 : Nat) : Int) | 1 => v = .int .u32 ((rotr v0 2 : Nat) : Int) | 2 => v = .int .u32 ((v0 : Nat) : Int) | 3 => v = .int .u32 ((rotr v0 13 : Nat) : Int) | 4 => v = .int .u32 ((rotr v0 2 ^^^ rotr v0 13 : Nat) : Int) | 5 => v = .int .u32 ((v0 : Nat) : Int) | 6 => v = .int .u32 ((rotr v0 22 : Nat) : Int) | 7 => v = .int .u32 ((bS0 v0 : Nat) : Int) | 8 => v = .int .u32 ((v0 : Nat) : Int) | 9 => v = .pointer (some ⟨g11, 1, none⟩) | 10 => v = .int .u32 ((v1 : Nat) : Int) | 11 => v = .int .u32 ((v0 &&& v1 : Nat) : Int) | 12 => v = .int .u32 ((v0 : Nat) : Int) | 13 => v = .pointer (some ⟨g11, 2, none⟩) | 14 => v = .int .u32 ((v2 : Nat) : Int) | 15 => v = .int .u32 ((v0 &&& v2 : Nat) : Int) | 16 => v = .int .u32 (((v0 &&& v1) ^^^ (v0 &&& v2) : Nat) : Int) | 17 => v = .pointer (some ⟨g11, 1, none⟩) | 18 => v = .int .u32 ((v1 : Nat) : Int) | 19 => v = .pointer (some ⟨g11, 2, none⟩) | 20 => v = .int .u32 ((v2 : Nat) : Int) | 21 => v = .int .u32 ((v1 &&& v2 : Nat) : Int) | 22 => v = .int .u32 ((maj v0 v1 v2 : Nat) : Int) | 23 => v = .int .u32 ((rY v0 v1 v2 : Nat) : Int) | 24 => v = .int .u32 ((rY v0 v1 v2 : Nat) : Int) | _ => True) (by kernel_rfl) hap (by kernel_rfl) ?_ ?_ ?_
  · intro i v W W' h _
    iterate 25 (rcases i with _ | i; · exact h)
    exact h
  · refine ⟨?_, ?_, ?_, ?_, ?_, ?_, ?_, ?_, ?_, ?_, ?_, ?_, ?_, ?_, ?_, ?_, ?_, ?_, ?_, ?_, ?_, ?_, ?_, ?_, ?_, trivial⟩
    · intro vs A' W hA hW hd K hK
      have e13 : A'.tmps[13]?.getD undef = .int .u32 ((v0 : Nat) : Int) := slot_out hA hap (Nat.lt_of_lt_of_eq (Nat.le_of_ble_eq_true rfl : 13 < 172) hsz.symm) (by kernel_rfl) o13
      clear hA hd o11 o13
      go_step
      exact hK _ _ (Kp.refl _ _) rfl
    · intro vs A' W hA hW hd K hK
      have f0 : vs 0 = .int .u32 ((v0 : Nat) : Int) := hd 0 (by kernel_rfl)
      have e116 : A'.tmps[116]?.getD undef = vs 0 := slot_in hA hap (Nat.lt_of_lt_of_eq (Nat.le_of_ble_eq_true rfl : 116 < 172) hsz.symm) (by kernel_rfl)
      rw [f0] at e116
      clear hA hd o11 o13
      go_step
      refine (srot_any v0 2 2 rfl HV0.out (by unfold rotK; omega) W).mono ?_
      rintro e w' ⟨rfl, rfl⟩
      exact hK _ _ (Kp.refl _ _) rfl
    · intro vs A' W hA hW hd K hK
      have e13 : A'.tmps[13]?.getD undef = .int .u32 ((v0 : Nat) : Int) := slot_out hA hap (Nat.lt_of_lt_of_eq (Nat.le_of_ble_eq_true rfl : 13 < 172) hsz.symm) (by kernel_rfl) o13
      clear hA hd o11 o13
      go_step
      exact hK _ _ (Kp.refl _ _) rfl
    · intro vs A' W hA hW hd K hK
      have f2 : vs 2 = .int .u32 ((v0 : Nat) : Int) := hd 2 (by kernel_rfl)
      have e118 : A'.tmps[118]?.getD undef = vs 2 := slot_in hA hap (Nat.lt_of_lt_of_eq (Nat.le_of_ble_eq_true rfl : 118 < 172) hsz.symm) (by kernel_rfl)
      rw [f2] at e118
      clear hA hd o11 o13
      go_step
      refine (srot_any v0 13 13 rfl HV0.out (by unfold rotK; omega) W).mono ?_
      rintro e w' ⟨rfl, rfl⟩
      exact hK _ _ (Kp.refl _ _) rfl
    · intro vs A' W hA hW hd K hK
      have f1 : vs 1 = .int .u32 ((rotr v0 2 : Nat) : Int) := hd 1 (by kernel_rfl)
      have e117 : A'.tmps[117]?.getD undef = vs 1 := slot_in hA hap (Nat.lt_of_lt_of_eq (Nat.le_of_ble_eq_true rfl : 117 < 172) hsz.symm) (by kernel_rfl)
      rw [f1] at e117
      have f3 : vs 3 = .int .u32 ((rotr v0 13 : Nat) : Int) := hd 3 (by kernel_rfl)
      have e119 : A'.tmps[119]?.getD undef = vs 3 := slot_in hA hap (Nat.lt_of_lt_of_eq (Nat.le_of_ble_eq_true rfl : 119 < 172) hsz.symm) (by kernel_rfl)
      rw [f3] at e119
      clear hA hd o11 o13
      go_step
      exact hK _ _ (Kp.refl _ _) (congrArg (Value.int .u32) (u32_x _ _ (rotr_lt HV0.out) (rotr_lt HV0.out)))
    · intro vs A' W hA hW hd K hK
      have e13 : A'.tmps[13]?.getD undef = .int .u32 ((v0 : Nat) : Int) := slot_out hA hap (Nat.lt_of_lt_of_eq (Nat.le_of_ble_eq_true rfl : 13 < 172) hsz.symm) (by kernel_rfl) o13
      clear hA hd o11 o13
      go_step
      exact hK _ _ (Kp.refl _ _) rfl
    · intro vs A' W hA hW hd K hK
      have f5 : vs 5 = .int .u32 ((v0 : Nat) : Int) := hd 5 (by kernel_rfl)
      have e121 : A'.tmps[121]?.getD undef = vs 5 := slot_in hA hap (Nat.lt_of_lt_of_eq (Nat.le_of_ble_eq_true rfl : 121 < 172) hsz.symm) (by kernel_rfl)
      rw [f5] at e121
      clear hA hd o11 o13
      go_step
      refine (srot_any v0 22 22 rfl HV0.out (by unfold rotK; omega) W).mono ?_
      rintro e w' ⟨rfl, rfl⟩
      exact hK _ _ (Kp.refl _ _) rfl
    · intro vs A' W hA hW hd K hK
      have f4 : vs 4 = .int .u32 ((rotr v0 2 ^^^ rotr v0 13 : Nat) : Int) := hd 4 (by kernel_rfl)
      have e120 : A'.tmps[120]?.getD undef = vs 4 := slot_in hA hap (Nat.lt_of_lt_of_eq (Nat.le_of_ble_eq_true rfl : 120 < 172) hsz.symm) (by kernel_rfl)
      rw [f4] at e120
      have f6 : vs 6 = .int .u32 ((rotr v0 22 : Nat) : Int) := hd 6 (by kernel_rfl)
      have e122 : A'.tmps[122]?.getD undef = vs 6 := slot_in hA hap (Nat.lt_of_lt_of_eq (Nat.le_of_ble_eq_true rfl : 122 < 172) hsz.symm) (by kernel_rfl)
      rw [f6] at e122
      clear hA hd o11 o13
      go_step
      exact hK _ _ (Kp.refl _ _) (congrArg (Value.int .u32) (u32_x _ _ (xor_lt (rotr_lt HV0.out) (rotr_lt HV0.out)) (rotr_lt HV0.out)))
    · intro vs A' W hA hW hd K hK
      have e13 : A'.tmps[13]?.getD undef = .int .u32 ((v0 : Nat) : Int) := slot_out hA hap (Nat.lt_of_lt_of_eq (Nat.le_of_ble_eq_true rfl : 13 < 172) hsz.symm) (by kernel_rfl) o13
      clear hA hd o11 o13
      go_step
      exact hK _ _ (Kp.refl _ _) rfl
    · intro vs A' W hA hW hd K hK
      have e11 : A'.tmps[11]?.getD undef = .pointer (some ⟨g11, 0, none⟩) := slot_out hA hap (Nat.lt_of_lt_of_eq (Nat.le_of_ble_eq_true rfl : 11 < 172) hsz.symm) (by kernel_rfl) o11
      clear hA hd o11 o13
      go_step
      exact hK _ _ (Kp.refl _ _) rfl
    · intro vs A' W hA hW hd K hK
      have f9 : vs 9 = .pointer (some ⟨g11, 1, none⟩) := hd 9 (by kernel_rfl)
      have e125 : A'.tmps[125]?.getD undef = vs 9 := slot_in hA hap (Nat.lt_of_lt_of_eq (Nat.le_of_ble_eq_true rfl : 125 < 172) hsz.symm) (by kernel_rfl)
      rw [f9] at e125
      clear hA hd o11 o13
      have c0 := HV.out W ((Kp.refl [] _).drew.trans hW (by simp)) 1 v1 rfl
      go_step
      exact hK _ _ (Kp.refl _ _) rfl
    · intro vs A' W hA hW hd K hK
      have f8 : vs 8 = .int .u32 ((v0 : Nat) : Int) := hd 8 (by kernel_rfl)
      have e124 : A'.tmps[124]?.getD undef = vs 8 := slot_in hA hap (Nat.lt_of_lt_of_eq (Nat.le_of_ble_eq_true rfl : 124 < 172) hsz.symm) (by kernel_rfl)
      rw [f8] at e124
      have f10 : vs 10 = .int .u32 ((v1 : Nat) : Int) := hd 10 (by kernel_rfl)
      have e126 : A'.tmps[126]?.getD undef = vs 10 := slot_in hA hap (Nat.lt_of_lt_of_eq (Nat.le_of_ble_eq_true rfl : 126 < 172) hsz.symm) (by kernel_rfl)
      rw [f10] at e126
      clear hA hd o11 o13
      go_step
      exact hK _ _ (Kp.refl _ _) (congrArg (Value.int .u32) (u32_and_nat _ _ HV0.out HV1.out))
    · intro vs A' W hA hW hd K hK
      have e13 : A'.tmps[13]?.getD undef = .int .u32 ((v0 : Nat) : Int) := slot_out hA hap (Nat.lt_of_lt_of_eq (Nat.le_of_ble_eq_true rfl : 13 < 172) hsz.symm) (by kernel_rfl) o13
      clear hA hd o11 o13
      go_step
      exact hK _ _ (Kp.refl _ _) rfl
    · intro vs A' W hA hW hd K hK
      have e11 : A'.tmps[11]?.getD undef = .pointer (some ⟨g11, 0, none⟩) := slot_out hA hap (Nat.lt_of_lt_of_eq (Nat.le_of_ble_eq_true rfl : 11 < 172) hsz.symm) (by kernel_rfl) o11
      clear hA hd o11 o13
      go_step
      exact hK _ _ (Kp.refl _ _) rfl
    · intro vs A' W hA hW hd K hK
      have f13 : vs 13 = .pointer (some ⟨g11, 2, none⟩) := hd 13 (by kernel_rfl)
      have e129 : A'.tmps[129]?.getD undef = vs 13 := slot_in hA hap (Nat.lt_of_lt_of_eq (Nat.le_of_ble_eq_true rfl : 129 < 172) hsz.symm) (by kernel_rfl)
      rw [f13] at e129
      clear hA hd o11 o13
      have c0 := HV.out W ((Kp.refl [] _).drew.trans hW (by simp)) 2 v2 rfl
      go_step
      exact hK _ _ (Kp.refl _ _) rfl
    · intro vs A' W hA hW hd K hK
      have f12 : vs 12 = .int .u32 ((v0 : Nat) : Int) := hd 12 (by kernel_rfl)
      have e128 : A'.tmps[128]?.getD undef = vs 12 := slot_in hA hap (Nat.lt_of_lt_of_eq (Nat.le_of_ble_eq_true rfl : 128 < 172) hsz.symm) (by kernel_rfl)
      rw [f12] at e128
      have f14 : vs 14 = .int .u32 ((v2 : Nat) : Int) := hd 14 (by kernel_rfl)
      have e130 : A'.tmps[130]?.getD undef = vs 14 := slot_in hA hap (Nat.lt_of_lt_of_eq (Nat.le_of_ble_eq_true rfl : 130 < 172) hsz.symm) (by kernel_rfl)
      rw [f14] at e130
      clear hA hd o11 o13
      go_step
      exact hK _ _ (Kp.refl _ _) (congrArg (Value.int .u32) (u32_and_nat _ _ HV0.out HV2.out))
    · intro vs A' W hA hW hd K hK
      have f11 : vs 11 = .int .u32 ((v0 &&& v1 : Nat) : Int) := hd 11 (by kernel_rfl)
      have e127 : A'.tmps[127]?.getD undef = vs 11 := slot_in hA hap (Nat.lt_of_lt_of_eq (Nat.le_of_ble_eq_true rfl : 127 < 172) hsz.symm) (by kernel_rfl)
      rw [f11] at e127
      have f15 : vs 15 = .int .u32 ((v0 &&& v2 : Nat) : Int) := hd 15 (by kernel_rfl)
      have e131 : A'.tmps[131]?.getD undef = vs 15 := slot_in hA hap (Nat.lt_of_lt_of_eq (Nat.le_of_ble_eq_true rfl : 131 < 172) hsz.symm) (by kernel_rfl)
      rw [f15] at e131
      clear hA hd o11 o13
      go_step
      exact hK _ _ (Kp.refl _ _) (congrArg (Value.int .u32) (u32_x _ _ (and_lt HV0.out) (and_lt HV0.out)))
    · intro vs A' W hA hW hd K hK
      have e11 : A'.tmps[11]?.getD undef = .pointer (some ⟨g11, 0, none⟩) := slot_out hA hap (Nat.lt_of_lt_of_eq (Nat.le_of_ble_eq_true rfl : 11 < 172) hsz.symm) (by kernel_rfl) o11
      clear hA hd o11 o13
      go_step
      exact hK _ _ (Kp.refl _ _) rfl
    · intro vs A' W hA hW hd K hK
      have f17 : vs 17 = .pointer (some ⟨g11, 1, none⟩) := hd 17 (by kernel_rfl)
      have e133 : A'.tmps[133]?.getD undef = vs 17 := slot_in hA hap (Nat.lt_of_lt_of_eq (Nat.le_of_ble_eq_true rfl : 133 < 172) hsz.symm) (by kernel_rfl)
      rw [f17] at e133
      clear hA hd o11 o13
      have c0 := HV.out W ((Kp.refl [] _).drew.trans hW (by simp)) 1 v1 rfl
      go_step
      exact hK _ _ (Kp.refl _ _) rfl
    · intro vs A' W hA hW hd K hK
      have e11 : A'.tmps[11]?.getD undef = .pointer (some ⟨g11, 0, none⟩) := slot_out hA hap (Nat.lt_of_lt_of_eq (Nat.le_of_ble_eq_true rfl : 11 < 172) hsz.symm) (by kernel_rfl) o11
      clear hA hd o11 o13
      go_step
      exact hK _ _ (Kp.refl _ _) rfl
    · intro vs A' W hA hW hd K hK
      have f19 : vs 19 = .pointer (some ⟨g11, 2, none⟩) := hd 19 (by kernel_rfl)
      have e135 : A'.tmps[135]?.getD undef = vs 19 := slot_in hA hap (Nat.lt_of_lt_of_eq (Nat.le_of_ble_eq_true rfl : 135 < 172) hsz.symm) (by kernel_rfl)
      rw [f19] at e135
      clear hA hd o11 o13
      have c0 := HV.out W ((Kp.refl [] _).drew.trans hW (by simp)) 2 v2 rfl
      go_step
      exact hK _ _ (Kp.refl _ _) rfl
    · intro vs A' W hA hW hd K hK
      have f18 : vs 18 = .int .u32 ((v1 : Nat) : Int) := hd 18 (by kernel_rfl)
      have e134 : A'.tmps[134]?.getD undef = vs 18 := slot_in hA hap (Nat.lt_of_lt_of_eq (Nat.le_of_ble_eq_true rfl : 134 < 172) hsz.symm) (by kernel_rfl)
      rw [f18] at e134
      have f20 : vs 20 = .int .u32 ((v2 : Nat) : Int) := hd 20 (by kernel_rfl)
      have e136 : A'.tmps[136]?.getD undef = vs 20 := slot_in hA hap (Nat.lt_of_lt_of_eq (Nat.le_of_ble_eq_true rfl : 136 < 172) hsz.symm) (by kernel_rfl)
      rw [f20] at e136
      clear hA hd o11 o13
      go_step
      exact hK _ _ (Kp.refl _ _) (congrArg (Value.int .u32) (u32_and_nat _ _ HV1.out HV2.out))
    · intro vs A' W hA hW hd K hK
      have f16 : vs 16 = .int .u32 (((v0 &&& v1) ^^^ (v0 &&& v2) : Nat) : Int) := hd 16 (by kernel_rfl)
      have e132 : A'.tmps[132]?.getD undef = vs 16 := slot_in hA hap (Nat.lt_of_lt_of_eq (Nat.le_of_ble_eq_true rfl : 132 < 172) hsz.symm) (by kernel_rfl)
      rw [f16] at e132
      have f21 : vs 21 = .int .u32 ((v1 &&& v2 : Nat) : Int) := hd 21 (by kernel_rfl)
      have e137 : A'.tmps[137]?.getD undef = vs 21 := slot_in hA hap (Nat.lt_of_lt_of_eq (Nat.le_of_ble_eq_true rfl : 137 < 172) hsz.symm) (by kernel_rfl)
      rw [f21] at e137
      clear hA hd o11 o13
      go_step
      exact hK _ _ (Kp.refl _ _) (congrArg (Value.int .u32) (u32_x _ _ (xor_lt (and_lt HV0.out) (and_lt HV0.out)) (and_lt HV1.out)))
    · intro vs A' W hA hW hd K hK
      have f7 : vs 7 = .int .u32 ((bS0 v0 : Nat) : Int) := hd 7 (by kernel_rfl)
      have e123 : A'.tmps[123]?.getD undef = vs 7 := slot_in hA hap (Nat.lt_of_lt_of_eq (Nat.le_of_ble_eq_true rfl : 123 < 172) hsz.symm) (by kernel_rfl)
      rw [f7] at e123
      have f22 : vs 22 = .int .u32 ((maj v0 v1 v2 : Nat) : Int) := hd 22 (by kernel_rfl)
      have e138 : A'.tmps[138]?.getD undef = vs 22 := slot_in hA hap (Nat.lt_of_lt_of_eq (Nat.le_of_ble_eq_true rfl : 138 < 172) hsz.symm) (by kernel_rfl)
      rw [f22] at e138
      clear hA hd o11 o13
      go_step
      exact hK _ _ (Kp.refl _ _) (congrArg (Value.int .u32) (by unfold rY; omega))
    · intro vs A' W hA hW hd K hK
      have f23 : vs 23 = .int .u32 ((rY v0 v1 v2 : Nat) : Int) := hd 23 (by kernel_rfl)
      have e139 : A'.tmps[139]?.getD undef = vs 23 := slot_in hA hap (Nat.lt_of_lt_of_eq (Nat.le_of_ble_eq_true rfl : 139 < 172) hsz.symm) (by kernel_rfl)
      rw [f23] at e139
      clear hA hd o11 o13
      go_step
      exact hK _ _ (Kp.refl _ _) rfl
  · intro vs W hW hp
    rw [show putAll vs (opsOf 21 Tryd.f82) 0 a = putD [(116, vs 0), (117, vs 1), (118, vs 2), (119, vs 3), (120, vs 4), (121, vs 5), (122, vs 6), (123, vs 7), (124, vs 8), (125, vs 9), (126, vs 10), (127, vs 11), (128, vs 12), (129, vs 13), (130, vs 14), (131, vs 15), (132, vs 16), (133, vs 17), (134, vs 18), (135, vs 19), (136, vs 20), (137, vs 21), (138, vs 22), (139, vs 23), (16, vs 24)] a from by kernel_rfl]
    exact hend _ W (same_putD _ a) hW (sl_putD _ a 16 _ (by rw [show vs 24 = _ from hp 24 (Nat.le_of_ble_eq_true (by kernel_rfl))]; kernel_rfl))
-- END sblk21
-- REG sblk17
set_option maxRecDepth 100000 in
set_option maxHeartbeats 2000000 in
theorem sblk_r17 {Q : Exit → Act → World → Prop} {a : Act} {w : World} (k : Nat) (hsz : a.tmps.size = 172) (o79 : Sl a 79 (.int .i64 (k : Int)))
    (hend : ∀ (a' : Act), Same a a' [80] → Sl a' 80 (.bool (decide ((k : Int) < 64))) → Q .normal a' (w)) : (Code.region 17 (opsOf 17 Tryd.f82).toArray false).wp Tryd.prog Q a w := by
  refine wp_region_lit (l := (opsOf 17 Tryd.f82)) ?_
  conv => arg 4; whnf
  unfold Sl at o79
  go_wp2_with fail
  try simp only [Act.put]
  exact hend _ (by repeat (first | (with_reducible refine same_set (by decide) ?_) | (with_reducible exact same_nil))) (by unfold Sl; first | (simp [hsz]; done) | (simp [hsz]; omega))
-- END sblk17
-- REG sblk18
set_option maxRecDepth 100000 in
set_option maxHeartbeats 2000000 in
theorem sblk_r18 {Q : Exit → Act → World → Prop} {a : Act} {w : World} (k : Nat) (hsz : a.tmps.size = 172) (o79 : Sl a 79 (.int .i64 (k : Int)))
    (hend : ∀ (a' : Act), Same a a' [81, 12] → Sl a' 12 (.int .i64 (k : Int)) → Q .normal a' (w)) : (Code.region 18 (opsOf 18 Tryd.f82).toArray false).wp Tryd.prog Q a w := by
  refine wp_region_lit (l := (opsOf 18 Tryd.f82)) ?_
  conv => arg 4; whnf
  unfold Sl at o79
  go_wp2_with fail
  try simp only [Act.put]
  exact hend _ (by repeat (first | (with_reducible refine same_set (by decide) ?_) | (with_reducible exact same_nil))) (by unfold Sl; first | (simp [hsz]; done) | (simp [hsz]; omega))
-- END sblk18
-- REG sblk22
set_option maxRecDepth 100000 in
set_option maxHeartbeats 2000000 in
theorem sblk_r22 {Q : Exit → Act → World → Prop} {a : Act} {w : World} (w0 : World) (g11 v0 v1 v2 v3 v4 v5 v6 v7 x y : Nat) (L : List Res) (S : Held w0 w (blkR g11 111 (u32A [v0, v1, v2, v3, v4, v5, v6, v7]) :: L)) (hsz : a.tmps.size = 172) (o11 : Sl a 11 (.pointer (some ⟨g11, 0, none⟩))) (o13 : Sl a 13 (.int .u32 (v0 : Int))) (o14 : Sl a 14 (.int .u32 (v4 : Int))) (o15 : Sl a 15 (.int .u32 (x : Int))) (o16 : Sl a 16 (.int .u32 (y : Int)))
    (hend : ∀ (a' : Act) (W : World), Same a a' [140, 141, 142, 143, 144, 145, 146, 147, 148, 149, 150, 151, 152, 153, 154, 155, 156, 157] → (Held w0 W (blkR g11 111 (u32A [(x + y) % 4294967296, v0, v1, v2, (v3 + x) % 4294967296, v4, v5, v6]) :: L)) → Q .normal a' W) : (Code.region 22 (opsOf 22 Tryd.f82).toArray false).wp Tryd.prog Q a w := by
  refine wp_region_lit (l := (opsOf 22 Tryd.f82)) ?_
  conv => arg 4; whnf
  unfold Sl at o11 o13 o14 o15 o16
  have S := Lib.hid S
  have c1 := u32_cell (S.out.at_ (l1 := [])) 1 v1 rfl
  have c2 := u32_cell (S.out.at_ (l1 := [])) 2 v2 rfl
  have c3 := u32_cell (S.out.at_ (l1 := [])) 3 v3 rfl
  have c5 := u32_cell (S.out.at_ (l1 := [])) 5 v5 rfl
  have c6 := u32_cell (S.out.at_ (l1 := [])) 6 v6 rfl
  go_wp2_with (first
    | (refine wpList_buildC rfl 111 _ rfl (at0N (u32L [(x + y) % 4294967296, v0, v1, v2, (v3 + x) % 4294967296, v4, v5, v6]) 0) ?_ _ (Tryd.built8 _ _ _ _ _ _ _ _) ?_; simp [Act.eval, Act.put, hsz, at0N, u32L, o13, o14, o15, o16])
    | (refine wpList_store_blk rfl 111 (.tmp 11) (.tmp 157) rfl g11 (by simp [Act.eval, Act.put, hsz, o11]) (u32A [(x + y) % 4294967296, v0, v1, v2, (v3 + x) % 4294967296, v4, v5, v6]) (by simp [Act.eval, Act.put, hsz]) 111 _ (S.out.at_ (l1 := [])) (by rw [u32A_size]; exact Tryd.info8w) (by rw [u32A_size, u32A_size]; rfl) (u32A_one _) ?_; intro w2 b2 k2; have S2 := Lib.hid (Held.setBlk (l1 := []) S.out b2 k2); clear b2 k2))
  try simp only [Act.put]
  exact hend _ _ (by repeat (first | (with_reducible refine same_set (by decide) ?_) | (with_reducible exact same_nil))) (S2.out)
-- END sblk22
-- REG sblk23
set_option maxRecDepth 100000 in
set_option maxHeartbeats 2000000 in
theorem sblk_r23 {Q : Exit → Act → World → Prop} {a : Act} {w : World} (k : Nat) (hk : k < 64) (hsz : a.tmps.size = 172) (o79 : Sl a 79 (.int .i64 (k : Int)))
    (hend : ∀ (a' : Act), Same a a' [158, 79] → Sl a' 79 (.int .i64 ((k + 1 : Nat) : Int)) → Q .normal a' (w)) : (Code.region 23 (opsOf 23 Tryd.f82).toArray false).wp Tryd.prog Q a w := by
  refine wp_region_lit (l := (opsOf 23 Tryd.f82)) ?_
  conv => arg 4; whnf
  unfold Sl at o79
  go_wp2_with fail
  try simp only [Act.put]
  exact hend _ (by repeat (first | (with_reducible refine same_set (by decide) ?_) | (with_reducible exact same_nil))) (by unfold Sl; first | (simp [hsz]; done) | (simp [hsz]; omega))
-- END sblk23
end Go.Proofs.YtapboamjpilckaaDoor
/- Block of sha: the rounds. -/
namespace Go.Proofs.YtapboamjpilckaaDoor
open Go.RowKit
def dsL3 : List Nat := [12, 13, 14, 15, 16, 79, 80, 81, 82, 83, 84, 85, 86, 87, 88, 89, 90, 91, 92, 93, 94, 95, 96, 97, 98, 99, 100, 101, 102, 103, 104, 105, 106, 107, 108, 109, 110, 111, 112, 113, 114, 115, 116, 117, 118, 119, 120, 121, 122, 123, 124, 125, 126, 127, 128, 129, 130, 131, 132, 133, 134, 135, 136, 137, 138, 139, 140, 141, 142, 143, 144, 145, 146, 147, 148, 149, 150, 151, 152, 153, 154, 155, 156, 157, 158]
set_option maxRecDepth 100000 in
set_option maxHeartbeats 2000000 in
theorem sblk_l3 {Q : Exit → Act → World → Prop} {a : Act} {w0 w : World} (st ws : List Nat) (hst : Ws st) (hsl : st.length = 8) (hwl : ws.length = 64) (g5 g10 g11 : Nat) (L : List Res) (hsz : a.tmps.size = 172)
    (o5 : Sl a 5 (.pointer (some ⟨g5, 0, none⟩))) (o10 : Sl a 10 (.pointer (some ⟨g10, 0, none⟩))) (o11 : Sl a 11 (.pointer (some ⟨g11, 0, none⟩))) (o79 : Sl a 79 (.int .i64 0))
    (S : Held w0 w (blkR g11 111 (u32A st) :: blkR g10 144 (u32A kT) :: blkR g5 144 (u32A ws) :: L))
    (hend : ∀ (a' : Act) (W : World), Same a a' dsL3 → Held w0 W (blkR g11 111 (u32A (rnds st ws 64)) :: blkR g10 144 (u32A kT) :: blkR g5 144 (u32A ws) :: L) → Q .normal a' W) :
    (Code.block 4 (blockOf 4 Tryd.f82)).wp Tryd.prog Q a w := by
  refine wp_block ?_
  conv => arg 2; whnf
  refine wp_loop (fun a' w' => ∃ k : Nat, k ≤ 64 ∧ Same a a' dsL3 ∧ Sl a' 79 (.int .i64 (k : Int)) ∧ Held w0 w' (blkR g11 111 (u32A (rnds st ws k)) :: blkR g10 144 (u32A kT) :: blkR g5 144 (u32A ws) :: L)) (fun a' _ => 64 - (intOf (a'.eval (.tmp 79))).toNat) ⟨0, by omega, Same.refl _ _, o79, S⟩ ?_
  clear o79 S
  rintro a1 w1 ⟨k, hk, hs, o79, S⟩
  have o5 := hs.keep 5 _ (by decide) o5
  have o10 := hs.keep 10 _ (by decide) o10
  have o11 := hs.keep 11 _ (by decide) o11
  have hz := hs.size.trans hsz
  refine wp_seq (sblk_r17 k hz o79 (fun a2 hs2 o80 => ?_))
  have e79 := o79.eval (by rw [hz]; decide)
  have hz2 := hs2.size.trans hz
  by_cases hlt : k < 64
  · refine wp_seq (wp_cond_true ((o80.eval (by rw [hz2]; decide)).trans (by rw [decide_eq_true (by omega)])) (wp_skip ?_))
    have o79 := hs2.keep 79 _ (by decide) o79
    refine wp_seq (wp_block ?_)
    refine wp_seq (sblk_r18 k hz2 o79 (fun a3 hs3 o12 => ?_))
    have T := (hs.trans hs2).trans hs3
    have hz3 := hs3.size.trans hz2
    have o79 := hs3.keep 79 _ (by decide) o79
    have o5 := (hs2.trans hs3).keep 5 _ (by decide) o5
    have o10 := (hs2.trans hs3).keep 10 _ (by decide) o10
    have o11 := (hs2.trans hs3).keep 11 _ (by decide) o11
    have hv := rnds_length st ws k
    have hvl := rnds_lt hst ws k
    have Hnext : rnds st ws (k + 1) = rnd (rnds st ws k) (kT.getD k 0) (ws.getD k 0) := rfl
    obtain ⟨v0, v1, v2, v3, v4, v5, v6, v7, hvv⟩ := list8 (hv.trans hsl)
    rw [hvv] at hvl S Hnext
    have HV0 := Lib.hid (hvl v0 (by simp))
    have HV1 := Lib.hid (hvl v1 (by simp))
    have HV2 := Lib.hid (hvl v2 (by simp))
    have HV4 := Lib.hid (hvl v4 (by simp))
    have HV5 := Lib.hid (hvl v5 (by simp))
    have HV6 := Lib.hid (hvl v6 (by simp))
    have HV : ∀ W, Kp [] w1 W → ∀ V, Kp [] W V → ∀ i x : Nat, [v0, v1, v2, v3, v4, v5, v6, v7][i]? = some x → V.cell? ⟨g11, i, none⟩ = some (.int .u32 (x : Int)) := fun W k1 V k2 i x h => u32_cell ((S.at_ (l1 := [])).kp (k1.trans k2 (by simp)) (by simp)) i x h
    have HKt : ∀ W, Kp [] w1 W → ∀ V, Kp [] W V → V.cell? ⟨g10, k, none⟩ = some (.int .u32 ((kT.getD k 0 : Nat) : Int)) := fun W k1 V k2 => u32_cell ((S.at_ (l1 := [_])).kp (k1.trans k2 (by simp)) (by simp)) k _ (getD_at hlt)
    have HWt : ∀ W, Kp [] w1 W → ∀ V, Kp [] W V → V.cell? ⟨g5, k, none⟩ = some (.int .u32 ((ws.getD k 0 : Nat) : Int)) := fun W k1 V k2 => u32_cell ((S.at_ (l1 := [_, _])).kp (k1.trans k2 (by simp)) (by simp)) k _ (getD_at (by rw [hwl]; exact hlt))
    generalize kT.getD k 0 = kk at *
    generalize ws.getD k 0 = wk at *
    refine wp_seq (sblk_r19 g11 v0 v1 v2 v3 v4 v5 v6 v7 (Lib.hid (HV w1 (Kp.refl _ _))) hz3 o11 (fun a4 W4 hs4 k4 o13 o14 => ?_))
    have K4 : Kp [] w1 W4 := (Kp.refl [] _).drew.trans k4 (by simp)
    have hz4 := hs4.size.trans hz3
    have o79 := hs4.keep 79 _ (by decide) o79
    have o12 := hs4.keep 12 _ (by decide) o12
    have o5 := hs4.keep 5 _ (by decide) o5
    have o10 := hs4.keep 10 _ (by decide) o10
    have o11 := hs4.keep 11 _ (by decide) o11
    refine wp_seq (sblk_r20 g5 g10 g11 k v0 v1 v2 v3 v4 v5 v6 v7 kk wk hlt HV4 HV5 HV6 (Lib.hid (HV W4 K4)) (Lib.hid (HKt W4 K4)) (Lib.hid (HWt W4 K4)) hz4 o5 o10 o11 o12 o14 (fun a5 W5 hs5 k5 o15 => ?_))
    have K5 : Kp [] w1 W5 := (K4.trans (Kp.refl [] _).drew (by simp)).trans k5 (by simp)
    have hz5 := hs5.size.trans hz4
    have o79 := hs5.keep 79 _ (by decide) o79
    have o13 := hs5.keep 13 _ (by decide) o13
    have o14 := hs5.keep 14 _ (by decide) o14
    have o11 := hs5.keep 11 _ (by decide) o11
    refine wp_seq (sblk_r21 g11 v0 v1 v2 v3 v4 v5 v6 v7 HV0 HV1 HV2 (Lib.hid (HV W5 K5)) hz5 o11 o13 (fun a6 W6 hs6 k6 o16 => ?_))
    have K6 : Kp [] w1 W6 := (K5.trans (Kp.refl [] _).drew (by simp)).trans k6 (by simp)
    have hz6 := hs6.size.trans hz5
    have o79 := hs6.keep 79 _ (by decide) o79
    have o13 := hs6.keep 13 _ (by decide) o13
    have o14 := hs6.keep 14 _ (by decide) o14
    have o15 := hs6.keep 15 _ (by decide) o15
    have o11 := hs6.keep 11 _ (by decide) o11
    refine sblk_r22 w0 g11 v0 v1 v2 v3 v4 v5 v6 v7 _ _ _ (S.kp K6) hz6 o11 o13 o14 o15 o16 (fun a7 W7 hs7 S7 => ?_)
    have hz7 := hs7.size.trans hz6
    have o79 := hs7.keep 79 _ (by decide) o79
    refine sblk_r23 k hlt hz7 o79 (fun a8 hs8 o79 => ?_)
    have hz8 := hs8.size.trans hz7
    refine ⟨⟨k + 1, by omega, ?_, o79, ?_⟩, ?_⟩
    · refine ((((((T.trans hs4).trans hs5).trans hs6).trans hs7).trans hs8)).more ?_
      decide +kernel
    · rw [Hnext]
      exact S7
    · show 64 - (intOf (a8.eval (.tmp 79))).toNat < 64 - (intOf (a1.eval (.tmp 79))).toNat
      rw [e79, o79.eval (by rw [hz8]; decide)]
      simp [intOf]; omega
  · obtain rfl : k = 64 := by omega
    refine wp_seq (wp_cond_false ((o80.eval (by rw [hz2]; decide)).trans (by rw [decide_eq_false (by omega)])) (wp_exit ?_))
    refine hend _ _ ((hs.trans hs2).more (by decide +kernel)) S
end Go.Proofs.YtapboamjpilckaaDoor
/- Block of sha: the words' regions, each a theorem. -/
namespace Go.Proofs.YtapboamjpilckaaDoor
open Go.RowKit
-- REG sblk3
set_option maxRecDepth 100000 in
set_option maxHeartbeats 2000000 in
theorem sblk_r3 {Q : Exit → Act → World → Prop} {a : Act} {w : World} (k : Nat) (hsz : a.tmps.size = 172) (o18 : Sl a 18 (.int .i64 (k : Int)))
    (hend : ∀ (a' : Act), Same a a' [19] → Sl a' 19 (.bool (decide ((k : Int) < 16))) → Q .normal a' (w)) : (Code.region 3 (opsOf 3 Tryd.f82).toArray false).wp Tryd.prog Q a w := by
  refine wp_region_lit (l := (opsOf 3 Tryd.f82)) ?_
  conv => arg 4; whnf
  unfold Sl at o18
  go_wp2_with fail
  try simp only [Act.put]
  exact hend _ (by repeat (first | (with_reducible refine same_set (by decide) ?_) | (with_reducible exact same_nil))) (by unfold Sl; first | (simp [hsz]; done) | (simp [hsz]; omega))
-- END sblk3
-- REG sblk4
set_option maxRecDepth 100000 in
set_option maxHeartbeats 2000000 in
theorem sblk_r4 {Q : Exit → Act → World → Prop} {a : Act} {w : World} (k : Nat) (hsz : a.tmps.size = 172) (o18 : Sl a 18 (.int .i64 (k : Int)))
    (hend : ∀ (a' : Act), Same a a' [20, 6] → Sl a' 6 (.int .i64 (k : Int)) → Q .normal a' (w)) : (Code.region 4 (opsOf 4 Tryd.f82).toArray false).wp Tryd.prog Q a w := by
  refine wp_region_lit (l := (opsOf 4 Tryd.f82)) ?_
  conv => arg 4; whnf
  unfold Sl at o18
  go_wp2_with fail
  try simp only [Act.put]
  exact hend _ (by repeat (first | (with_reducible refine same_set (by decide) ?_) | (with_reducible exact same_nil))) (by unfold Sl; first | (simp [hsz]; done) | (simp [hsz]; omega))
-- END sblk4
-- REG sblk5
set_option maxRecDepth 100000 in
set_option maxHeartbeats 2000000 in
theorem sblk_r5 {Q : Exit → Act → World → Prop} {a : Act} {w : World} (w0 : World) (k g5 g3 : Nat) (L : List Nat) (b : List UInt8) (R : List Res) (hlt : k < 16) (hbl : b.length = 64) (hL : L.length = k) (S : Held w0 w (blkR g5 144 (u32A (pz L)) :: blkR g3 76 (hashA b) :: R)) (hsz : a.tmps.size = 172) (o3 : Sl a 3 (.pointer (some ⟨g3, 0, none⟩))) (o5 : Sl a 5 (.pointer (some ⟨g5, 0, none⟩))) (o6 : Sl a 6 (.int .i64 (k : Int)))
    (hend : ∀ (a' : Act) (W : World), Same a a' [21, 22, 23, 24, 25, 26] → (Held w0 W (blkR g5 144 (u32A (pz (L ++ [num ((b.drop (4 * k)).take 4)]))) :: blkR g3 76 (hashA b) :: R)) → Q .normal a' W) : (Code.region 5 (opsOf 5 Tryd.f82).toArray false).wp Tryd.prog Q a w := by
  refine wp_region_lit (l := (opsOf 5 Tryd.f82)) ?_
  conv => arg 4; whnf
  unfold Sl at o3 o5 o6
  have S := Lib.hid S
  have HBl := Lib.hid hbl
  have HP := Lib.hid (pz_next (l := L) (by omega) (num ((b.drop (4 * k)).take 4)))
  rw [hL] at HP
  have HR : Hid (Calls Tryd.prog 97 #[.slice (some ⟨g3, 4 * k, none⟩) (64 - 4 * k) (64 - 4 * k)] w fun e w' => e = .returned (.int .u32 ((num ((b.drop (4 * k)).take 4) : Nat) : Int)) ∧ w = w') := Lib.hid (by
    have := bytes_rd (S.out.at_ (l1 := [_])) (4 * k) (by rw [hbl]; omega) (by rw [hbl]; omega)
    rw [hbl] at this
    exact word_any _ _ _ (by omega) w this)
  generalize num ((b.drop (4 * k)).take 4) = nw at *
  have hpl : k < (pz L).length := by rw [pz_length (by omega)]; omega
  have q1 := u32_cell (S.out.at_ (l1 := [])) k _ (getD_at hpl)
  have q2 := (S.out.at_ (l1 := [])).frozen k
  have q3 := (S.out.at_ (l1 := [])).lt
  have S2 : Hid (Held w0 (w.setCell ⟨g5, k, none⟩ (.int .u32 (nw : Int))) _) := Lib.hid (S.out.set (l1 := []) k (.int .u32 (nw : Int)))
  rw [u32A_set, HP.out] at S2
  clear hpl hL hbl
  have hs := Tryd.slice64 g3 w (4 * k) (4 * (k : Int)) (by omega) (by omega)
  go_wp2_with fail
  refine HR.out.mono ?_
  rintro e w' ⟨rfl, rfl⟩
  go_wp2
  try simp only [Act.put]
  exact hend _ _ (by repeat (first | (with_reducible refine same_set (by decide) ?_) | (with_reducible exact same_nil))) (S2.out)
-- END sblk5
-- REG sblk6
set_option maxRecDepth 100000 in
set_option maxHeartbeats 2000000 in
theorem sblk_r6 {Q : Exit → Act → World → Prop} {a : Act} {w : World} (k : Nat) (hk : k < 16) (hsz : a.tmps.size = 172) (o18 : Sl a 18 (.int .i64 (k : Int)))
    (hend : ∀ (a' : Act), Same a a' [27, 18] → Sl a' 18 (.int .i64 ((k + 1 : Nat) : Int)) → Q .normal a' (w)) : (Code.region 6 (opsOf 6 Tryd.f82).toArray false).wp Tryd.prog Q a w := by
  refine wp_region_lit (l := (opsOf 6 Tryd.f82)) ?_
  conv => arg 4; whnf
  unfold Sl at o18
  go_wp2_with fail
  try simp only [Act.put]
  exact hend _ (by repeat (first | (with_reducible refine same_set (by decide) ?_) | (with_reducible exact same_nil))) (by unfold Sl; first | (simp [hsz]; done) | (simp [hsz]; omega))
-- END sblk6
-- REG sblk8
set_option maxRecDepth 100000 in
set_option maxHeartbeats 2000000 in
theorem sblk_r8 {Q : Exit → Act → World → Prop} {a : Act} {w : World} (n : Nat) (hsz : a.tmps.size = 172) (o7 : Sl a 7 (.int .i64 (n : Int)))
    (hend : ∀ (a' : Act), Same a a' [28, 29] → Sl a' 29 (.bool (decide ((n : Int) < 64))) → Q .normal a' (w)) : (Code.region 8 (opsOf 8 Tryd.f82).toArray false).wp Tryd.prog Q a w := by
  refine wp_region_lit (l := (opsOf 8 Tryd.f82)) ?_
  conv => arg 4; whnf
  unfold Sl at o7
  go_wp2_with fail
  try simp only [Act.put]
  exact hend _ (by repeat (first | (with_reducible refine same_set (by decide) ?_) | (with_reducible exact same_nil))) (by unfold Sl; first | (simp [hsz]; done) | (simp [hsz]; omega))
-- END sblk8
-- REG sblk9
set_option maxRecDepth 100000 in
set_option maxHeartbeats 2000000 in
theorem sblk_r9 {Q : Exit → Act → World → Prop} {a : Act} {w : World} (n : Nat) (hn : n < 64) (hsz : a.tmps.size = 172) (o7 : Sl a 7 (.int .i64 (n : Int)))
    (hend : ∀ (a' : Act), Same a a' [30, 31, 7] → Sl a' 7 (.int .i64 ((n + 1 : Nat) : Int)) → Q .normal a' (w)) : (Code.region 9 (opsOf 9 Tryd.f82).toArray false).wp Tryd.prog Q a w := by
  refine wp_region_lit (l := (opsOf 9 Tryd.f82)) ?_
  conv => arg 4; whnf
  unfold Sl at o7
  go_wp2_with fail
  try simp only [Act.put]
  exact hend _ (by repeat (first | (with_reducible refine same_set (by decide) ?_) | (with_reducible exact same_nil))) (by unfold Sl; first | (simp [hsz]; done) | (simp [hsz]; omega))
-- END sblk9
-- REG sblk10
set_option maxRecDepth 100000 in
set_option maxHeartbeats 2000000 in
theorem sblk_r10 {Q : Exit → Act → World → Prop} {a : Act} {w : World} (j g5 x y : Nat) (L : List Nat) (hlt : j < 48) (HX : Hid (L[j + 1]? = some x)) (HY : Hid (L[j + 14]? = some y)) (HW : Hid (∀ V, Kp [] w V → ∀ i x : Nat, L[i]? = some x → V.cell? ⟨g5, i, none⟩ = some (.int .u32 (x : Int)))) (hsz : a.tmps.size = 172) (o5 : Sl a 5 (.pointer (some ⟨g5, 0, none⟩))) (o7 : Sl a 7 (.int .i64 ((j + 16 : Nat) : Int)))
    (hend : ∀ (a' : Act) (W : World), Same a a' [32, 33, 34, 35, 36, 37, 38, 39, 8, 9] → Kp [] w.drew W → Sl a' 8 (.int .u32 (x : Int)) → Sl a' 9 (.int .u32 (y : Int)) → Q .normal a' W) : (Code.region 10 (opsOf 10 Tryd.f82).toArray true).wp Tryd.prog Q a w := by
  have hap : apartB (opsOf 10 Tryd.f82) = true := by kernel_rfl
  refine wp_region_inv (l := (opsOf 10 Tryd.f82)) (fun i v W => match i with | 0 => v = .int .i64 ((j + 16 : Nat) : Int) | 1 => v = .int .i64 ((j + 1 : Nat) : Int) | 2 => v = .pointer (some ⟨g5, j + 1, none⟩) | 3 => v = .int .u32 (x : Int) | 4 => v = .int .i64 ((j + 16 : Nat) : Int) | 5 => v = .int .i64 ((j + 14 : Nat) : Int) | 6 => v = .pointer (some ⟨g5, j + 14, none⟩) | 7 => v = .int .u32 (y : Int) | 8 => v = .int .u32 (x : Int) | 9 => v = .int .u32 (y : Int) | _ => True) (by kernel_rfl) hap (by kernel_rfl) ?_ ?_ ?_
  · intro i v W W' h _
    iterate 10 (rcases i with _ | i; · exact h)
    exact h
  · refine ⟨?_, ?_, ?_, ?_, ?_, ?_, ?_, ?_, ?_, ?_, trivial⟩
    · intro vs A' W hA hW hd K hK
      have e7 : A'.tmps[7]?.getD undef = .int .i64 ((j + 16 : Nat) : Int) := slot_out hA hap (Nat.lt_of_lt_of_eq (Nat.le_of_ble_eq_true rfl : 7 < 172) hsz.symm) (by kernel_rfl) o7
      clear hA hd o5 o7
      go_step
      exact hK _ _ (Kp.refl _ _) rfl
    · intro vs A' W hA hW hd K hK
      have f0 : vs 0 = .int .i64 ((j + 16 : Nat) : Int) := hd 0 (by kernel_rfl)
      have e32 : A'.tmps[32]?.getD undef = vs 0 := slot_in hA hap (Nat.lt_of_lt_of_eq (Nat.le_of_ble_eq_true rfl : 32 < 172) hsz.symm) (by kernel_rfl)
      rw [f0] at e32
      clear hA hd o5 o7
      go_step
      exact hK _ _ (Kp.refl _ _) (congrArg (Value.int .i64) (by first | omega | (unfold wrap64; omega)))
    · intro vs A' W hA hW hd K hK
      have e5 : A'.tmps[5]?.getD undef = .pointer (some ⟨g5, 0, none⟩) := slot_out hA hap (Nat.lt_of_lt_of_eq (Nat.le_of_ble_eq_true rfl : 5 < 172) hsz.symm) (by kernel_rfl) o5
      have f1 : vs 1 = .int .i64 ((j + 1 : Nat) : Int) := hd 1 (by kernel_rfl)
      have e33 : A'.tmps[33]?.getD undef = vs 1 := slot_in hA hap (Nat.lt_of_lt_of_eq (Nat.le_of_ble_eq_true rfl : 33 < 172) hsz.symm) (by kernel_rfl)
      rw [f1] at e33
      clear hA hd o5 o7
      have h0 : 0 ≤ (j : Int) + 1 := by omega
      have h1 : (j : Int) + 1 < 64 := by omega
      go_step
      exact hK _ _ (Kp.refl _ _) rfl
    · intro vs A' W hA hW hd K hK
      have f2 : vs 2 = .pointer (some ⟨g5, j + 1, none⟩) := hd 2 (by kernel_rfl)
      have e34 : A'.tmps[34]?.getD undef = vs 2 := slot_in hA hap (Nat.lt_of_lt_of_eq (Nat.le_of_ble_eq_true rfl : 34 < 172) hsz.symm) (by kernel_rfl)
      rw [f2] at e34
      clear hA hd o5 o7
      have c0 := HW.out W ((Kp.refl [] _).drew.trans hW (by simp)) (j + 1) x HX.out
      go_step
      exact hK _ _ (Kp.refl _ _) rfl
    · intro vs A' W hA hW hd K hK
      have e7 : A'.tmps[7]?.getD undef = .int .i64 ((j + 16 : Nat) : Int) := slot_out hA hap (Nat.lt_of_lt_of_eq (Nat.le_of_ble_eq_true rfl : 7 < 172) hsz.symm) (by kernel_rfl) o7
      clear hA hd o5 o7
      go_step
      exact hK _ _ (Kp.refl _ _) rfl
    · intro vs A' W hA hW hd K hK
      have f4 : vs 4 = .int .i64 ((j + 16 : Nat) : Int) := hd 4 (by kernel_rfl)
      have e36 : A'.tmps[36]?.getD undef = vs 4 := slot_in hA hap (Nat.lt_of_lt_of_eq (Nat.le_of_ble_eq_true rfl : 36 < 172) hsz.symm) (by kernel_rfl)
      rw [f4] at e36
      clear hA hd o5 o7
      go_step
      exact hK _ _ (Kp.refl _ _) (congrArg (Value.int .i64) (by first | omega | (unfold wrap64; omega)))
    · intro vs A' W hA hW hd K hK
      have e5 : A'.tmps[5]?.getD undef = .pointer (some ⟨g5, 0, none⟩) := slot_out hA hap (Nat.lt_of_lt_of_eq (Nat.le_of_ble_eq_true rfl : 5 < 172) hsz.symm) (by kernel_rfl) o5
      have f5 : vs 5 = .int .i64 ((j + 14 : Nat) : Int) := hd 5 (by kernel_rfl)
      have e37 : A'.tmps[37]?.getD undef = vs 5 := slot_in hA hap (Nat.lt_of_lt_of_eq (Nat.le_of_ble_eq_true rfl : 37 < 172) hsz.symm) (by kernel_rfl)
      rw [f5] at e37
      clear hA hd o5 o7
      have h0 : 0 ≤ (j : Int) + 14 := by omega
      have h1 : (j : Int) + 14 < 64 := by omega
      go_step
      exact hK _ _ (Kp.refl _ _) rfl
    · intro vs A' W hA hW hd K hK
      have f6 : vs 6 = .pointer (some ⟨g5, j + 14, none⟩) := hd 6 (by kernel_rfl)
      have e38 : A'.tmps[38]?.getD undef = vs 6 := slot_in hA hap (Nat.lt_of_lt_of_eq (Nat.le_of_ble_eq_true rfl : 38 < 172) hsz.symm) (by kernel_rfl)
      rw [f6] at e38
      clear hA hd o5 o7
      have c0 := HW.out W ((Kp.refl [] _).drew.trans hW (by simp)) (j + 14) y HY.out
      go_step
      exact hK _ _ (Kp.refl _ _) rfl
    · intro vs A' W hA hW hd K hK
      have f3 : vs 3 = .int .u32 (x : Int) := hd 3 (by kernel_rfl)
      have e35 : A'.tmps[35]?.getD undef = vs 3 := slot_in hA hap (Nat.lt_of_lt_of_eq (Nat.le_of_ble_eq_true rfl : 35 < 172) hsz.symm) (by kernel_rfl)
      rw [f3] at e35
      clear hA hd o5 o7
      go_step
      exact hK _ _ (Kp.refl _ _) rfl
    · intro vs A' W hA hW hd K hK
      have f7 : vs 7 = .int .u32 (y : Int) := hd 7 (by kernel_rfl)
      have e39 : A'.tmps[39]?.getD undef = vs 7 := slot_in hA hap (Nat.lt_of_lt_of_eq (Nat.le_of_ble_eq_true rfl : 39 < 172) hsz.symm) (by kernel_rfl)
      rw [f7] at e39
      clear hA hd o5 o7
      go_step
      exact hK _ _ (Kp.refl _ _) rfl
  · intro vs W hW hp
    rw [show putAll vs (opsOf 10 Tryd.f82) 0 a = putD [(32, vs 0), (33, vs 1), (34, vs 2), (35, vs 3), (36, vs 4), (37, vs 5), (38, vs 6), (39, vs 7), (8, vs 8), (9, vs 9)] a from by kernel_rfl]
    exact hend _ W (same_putD _ a) hW (sl_putD _ a 8 _ (by rw [show vs 8 = _ from hp 8 (Nat.le_of_ble_eq_true (by kernel_rfl))]; kernel_rfl)) (sl_putD _ a 9 _ (by rw [show vs 9 = _ from hp 9 (Nat.le_of_ble_eq_true (by kernel_rfl))]; kernel_rfl))
-- END sblk10
-- REG sblk11
set_option maxRecDepth 100000 in
set_option maxHeartbeats 2000000 in
theorem sblk_r11 {Q : Exit → Act → World → Prop} {a : Act} {w : World} (w0 : World) (j g5 : Nat) (L : List Nat) (R : List Res) (hlt : j < 48) (a1 c m : Nat) (HA : L[j]? = some a1) (HC : L[j + 9]? = some c) (HM : L[j + 16]? = some m) (hsz : a.tmps.size = 172) (o5 : Sl a 5 (.pointer (some ⟨g5, 0, none⟩))) (o7 : Sl a 7 (.int .i64 ((j + 16 : Nat) : Int)))
    (S0 : Held w0 w (blkR g5 144 (u32A L) :: R))
    (hend : ∀ (a' : Act) (W : World), Same a a' [40, 41, 42, 43, 44, 45, 46, 47, 48, 49, 50] → Held w0 W (blkR g5 144 (u32A (L.set (j + 16) ((a1 + c) % 4294967296))) :: R) → Q .normal a' W) : (Code.region 11 (opsOf 11 Tryd.f82).toArray true).wp Tryd.prog Q a w := by
  have hap : apartB (opsOf 11 Tryd.f82) = true := by kernel_rfl
  refine wp_region_sep (Γ := Unit) (l := (opsOf 11 Tryd.f82)) 2 [0, 1, 2, 3, 4, 5, 6, 7, 8, 9, 10, 11, 13]
    (fun i vs gs => match i with | 0 => vs 0 = .int .i64 ((j + 16 : Nat) : Int) | 1 => vs 1 = .int .i64 ((j + 16 : Nat) : Int) | 2 => vs 2 = .int .i64 (j : Int) | 3 => vs 3 = .pointer (some ⟨g5, j, none⟩) | 4 => vs 4 = .int .u32 ((a1 : Nat) : Int) | 5 => vs 5 = .int .i64 ((j + 16 : Nat) : Int) | 6 => vs 6 = .int .i64 ((j + 9 : Nat) : Int) | 7 => vs 7 = .pointer (some ⟨g5, j + 9, none⟩) | 8 => vs 8 = .int .u32 ((c : Nat) : Int) | 9 => vs 9 = .int .u32 (((a1 + c) % 4294967296 : Nat) : Int) | 10 => vs 10 = .pointer (some ⟨g5, j + 16, none⟩) | _ => True)
    (fun i vs gs => match i with | 11 => [blkR g5 144 (u32A (L.set (j + 16) ((a1 + c) % 4294967296)))] | 12 => [blkR g5 144 (u32A (L))] | 13 => R | _ => [])
    (fun i => match i with | 11 => [12] | _ => []) (fun i => match i with | 4 => [12] | 8 => [12] | _ => []) S0 (by kernel_rfl) hap (by kernel_rfl) (by kernel_rfl) (fun i => match i with | 0 => [0] | 1 => [1] | 2 => [2] | 3 => [3] | 4 => [4] | 5 => [5] | 6 => [6] | 7 => [7] | 8 => [8] | 9 => [9] | 10 => [10] | _ => []) (by kernel_rfl) ?_ (by kernel_rfl) ?_ ?_ ?_
  · intro s vs vs' gs gs' h
    iterate 14 (rcases s with _ | s; · (first | exact ⟨rfl, id⟩ | (simp only [List.mem_cons, List.not_mem_nil, or_false, forall_eq] at h; simp [h])))
    exact ⟨rfl, id⟩
  · simp only [List.range, List.range.loop, List.flatMap_cons, List.flatMap_nil, List.append_nil]
    exact List.Perm.refl _
  · clear S0 hend
    refine ⟨?_, ?_, ?_, ?_, ?_, ?_, ?_, ?_, ?_, ?_, ?_, ?_, trivial⟩
    · intro vs gs A' W LF hA S hR hd hu K hK
      replace hK := hK default
      have e7 : A'.tmps[7]?.getD undef = .int .i64 ((j + 16 : Nat) : Int) := slot_out hA hap (Nat.lt_of_lt_of_eq (Nat.le_of_ble_eq_true rfl : 7 < 172) hsz.symm) (by kernel_rfl) o7
      clear hA o5 o7
      go_step
      exact hK _ _ S rfl
    · intro vs gs A' W LF hA S hR hd hu K hK
      replace hK := hK default
      have e7 : A'.tmps[7]?.getD undef = .int .i64 ((j + 16 : Nat) : Int) := slot_out hA hap (Nat.lt_of_lt_of_eq (Nat.le_of_ble_eq_true rfl : 7 < 172) hsz.symm) (by kernel_rfl) o7
      clear hA o5 o7
      go_step
      exact hK _ _ S rfl
    · intro vs gs A' W LF hA S hR hd hu K hK
      replace hK := hK default
      have f1 : vs 1 = .int .i64 ((j + 16 : Nat) : Int) := hd 1 (by kernel_rfl)
      have e41 : A'.tmps[41]?.getD undef = vs 1 := slot_in hA hap (Nat.lt_of_lt_of_eq (Nat.le_of_ble_eq_true rfl : 41 < 172) hsz.symm) (by kernel_rfl)
      rw [f1] at e41
      clear hA o5 o7
      go_step
      exact hK _ _ S (congrArg (Value.int .i64) (by first | omega | (unfold wrap64; omega)))
    · intro vs gs A' W LF hA S hR hd hu K hK
      replace hK := hK default
      have e5 : A'.tmps[5]?.getD undef = .pointer (some ⟨g5, 0, none⟩) := slot_out hA hap (Nat.lt_of_lt_of_eq (Nat.le_of_ble_eq_true rfl : 5 < 172) hsz.symm) (by kernel_rfl) o5
      have f2 : vs 2 = .int .i64 (j : Int) := hd 2 (by kernel_rfl)
      have e42 : A'.tmps[42]?.getD undef = vs 2 := slot_in hA hap (Nat.lt_of_lt_of_eq (Nat.le_of_ble_eq_true rfl : 42 < 172) hsz.symm) (by kernel_rfl)
      rw [f2] at e42
      clear hA o5 o7
      have h0 : 0 ≤ (j : Int) := by omega
      have h1 : (j : Int) < 64 := by omega
      go_step
      exact hK _ _ S rfl
    · intro vs gs A' W LF hA S hR hd hu K hK
      replace hK := hK default
      have f3 : vs 3 = .pointer (some ⟨g5, j, none⟩) := hd 3 (by kernel_rfl)
      have e43 : A'.tmps[43]?.getD undef = vs 3 := slot_in hA hap (Nat.lt_of_lt_of_eq (Nat.le_of_ble_eq_true rfl : 43 < 172) hsz.symm) (by kernel_rfl)
      rw [f3] at e43
      clear hA o5 o7
      have c0 := u32_cell (S.ok (blkR g5 144 (u32A (L))) (hR 12 (List.mem_singleton.2 rfl) _ (List.mem_singleton.2 rfl))) (j) (a1) HA
      go_step
      exact hK _ _ S rfl
    · intro vs gs A' W LF hA S hR hd hu K hK
      replace hK := hK default
      have e7 : A'.tmps[7]?.getD undef = .int .i64 ((j + 16 : Nat) : Int) := slot_out hA hap (Nat.lt_of_lt_of_eq (Nat.le_of_ble_eq_true rfl : 7 < 172) hsz.symm) (by kernel_rfl) o7
      clear hA o5 o7
      go_step
      exact hK _ _ S rfl
    · intro vs gs A' W LF hA S hR hd hu K hK
      replace hK := hK default
      have f5 : vs 5 = .int .i64 ((j + 16 : Nat) : Int) := hd 5 (by kernel_rfl)
      have e45 : A'.tmps[45]?.getD undef = vs 5 := slot_in hA hap (Nat.lt_of_lt_of_eq (Nat.le_of_ble_eq_true rfl : 45 < 172) hsz.symm) (by kernel_rfl)
      rw [f5] at e45
      clear hA o5 o7
      go_step
      exact hK _ _ S (congrArg (Value.int .i64) (by first | omega | (unfold wrap64; omega)))
    · intro vs gs A' W LF hA S hR hd hu K hK
      replace hK := hK default
      have e5 : A'.tmps[5]?.getD undef = .pointer (some ⟨g5, 0, none⟩) := slot_out hA hap (Nat.lt_of_lt_of_eq (Nat.le_of_ble_eq_true rfl : 5 < 172) hsz.symm) (by kernel_rfl) o5
      have f6 : vs 6 = .int .i64 ((j + 9 : Nat) : Int) := hd 6 (by kernel_rfl)
      have e46 : A'.tmps[46]?.getD undef = vs 6 := slot_in hA hap (Nat.lt_of_lt_of_eq (Nat.le_of_ble_eq_true rfl : 46 < 172) hsz.symm) (by kernel_rfl)
      rw [f6] at e46
      clear hA o5 o7
      have h0 : 0 ≤ (j : Int) + 9 := by omega
      have h1 : (j : Int) + 9 < 64 := by omega
      go_step
      exact hK _ _ S rfl
    · intro vs gs A' W LF hA S hR hd hu K hK
      replace hK := hK default
      have f7 : vs 7 = .pointer (some ⟨g5, j + 9, none⟩) := hd 7 (by kernel_rfl)
      have e47 : A'.tmps[47]?.getD undef = vs 7 := slot_in hA hap (Nat.lt_of_lt_of_eq (Nat.le_of_ble_eq_true rfl : 47 < 172) hsz.symm) (by kernel_rfl)
      rw [f7] at e47
      clear hA o5 o7
      have c0 := u32_cell (S.ok (blkR g5 144 (u32A (L))) (hR 12 (List.mem_singleton.2 rfl) _ (List.mem_singleton.2 rfl))) (j + 9) (c) HC
      go_step
      exact hK _ _ S rfl
    · intro vs gs A' W LF hA S hR hd hu K hK
      replace hK := hK default
      have f4 : vs 4 = .int .u32 ((a1 : Nat) : Int) := hd 4 (by kernel_rfl)
      have e44 : A'.tmps[44]?.getD undef = vs 4 := slot_in hA hap (Nat.lt_of_lt_of_eq (Nat.le_of_ble_eq_true rfl : 44 < 172) hsz.symm) (by kernel_rfl)
      rw [f4] at e44
      have f8 : vs 8 = .int .u32 ((c : Nat) : Int) := hd 8 (by kernel_rfl)
      have e48 : A'.tmps[48]?.getD undef = vs 8 := slot_in hA hap (Nat.lt_of_lt_of_eq (Nat.le_of_ble_eq_true rfl : 48 < 172) hsz.symm) (by kernel_rfl)
      rw [f8] at e48
      clear hA o5 o7
      go_step
      exact hK _ _ S (congrArg (Value.int .u32) (by first | omega | rfl))
    · intro vs gs A' W LF hA S hR hd hu K hK
      replace hK := hK default
      have e5 : A'.tmps[5]?.getD undef = .pointer (some ⟨g5, 0, none⟩) := slot_out hA hap (Nat.lt_of_lt_of_eq (Nat.le_of_ble_eq_true rfl : 5 < 172) hsz.symm) (by kernel_rfl) o5
      have f0 : vs 0 = .int .i64 ((j + 16 : Nat) : Int) := hd 0 (by kernel_rfl)
      have e40 : A'.tmps[40]?.getD undef = vs 0 := slot_in hA hap (Nat.lt_of_lt_of_eq (Nat.le_of_ble_eq_true rfl : 40 < 172) hsz.symm) (by kernel_rfl)
      rw [f0] at e40
      clear hA o5 o7
      have h0 : 0 ≤ (j : Int) + 16 := by omega
      have h1 : (j : Int) + 16 < 64 := by omega
      go_step
      exact hK _ _ S rfl
    · intro vs gs A' W LF hA S hR hd hu K hK
      replace hK := hK default
      have f10 : vs 10 = .pointer (some ⟨g5, j + 16, none⟩) := hd 10 (by kernel_rfl)
      have e50 : A'.tmps[50]?.getD undef = vs 10 := slot_in hA hap (Nat.lt_of_lt_of_eq (Nat.le_of_ble_eq_true rfl : 50 < 172) hsz.symm) (by kernel_rfl)
      rw [f10] at e50
      have f9 : vs 9 = .int .u32 (((a1 + c) % 4294967296 : Nat) : Int) := hd 9 (by kernel_rfl)
      have e49 : A'.tmps[49]?.getD undef = vs 9 := slot_in hA hap (Nat.lt_of_lt_of_eq (Nat.le_of_ble_eq_true rfl : 49 < 172) hsz.symm) (by kernel_rfl)
      rw [f9] at e49
      clear hA o5 o7
      have S1 : Held w0 W (blkR g5 144 (u32A (L)) :: LF) := S
      have q1 := u32_cell (S1.at_ (l1 := [])) (j + 16) _ (HM)
      have q2 := (S1.at_ (l1 := [])).frozen (j + 16)
      have q3 := (S1.at_ (l1 := [])).lt
      go_step
      have S2 := S1.set (l1 := []) (j + 16) (.int .u32 (((a1 + c) % 4294967296 : Nat) : Int))
      rw [u32A_set] at S2
      exact hK undef _ S2 trivial
  · intro vs gs W S hp
    have S : Held w0 W (blkR g5 144 (u32A (L.set (j + 16) ((a1 + c) % 4294967296))) :: R) := by simpa only [List.flatMap_cons, List.flatMap_nil, List.append_nil, List.nil_append, List.cons_append, List.append_assoc] using S
    rw [show putAll vs (opsOf 11 Tryd.f82) 0 a = putD [(40, vs 0), (41, vs 1), (42, vs 2), (43, vs 3), (44, vs 4), (45, vs 5), (46, vs 6), (47, vs 7), (48, vs 8), (49, vs 9), (50, vs 10)] a from by kernel_rfl]
    exact hend _ W (same_putD _ a)  S
-- END sblk11
-- REG sblk12
set_option maxRecDepth 100000 in
set_option maxHeartbeats 2000000 in
theorem sblk_r12 {Q : Exit → Act → World → Prop} {a : Act} {w : World} (w0 : World) (j g5 : Nat) (L : List Nat) (R : List Res) (hlt : j < 48) (m x : Nat) (HM : L[j + 16]? = some m) (HXl : x < 4294967296) (hsz : a.tmps.size = 172) (o5 : Sl a 5 (.pointer (some ⟨g5, 0, none⟩))) (o7 : Sl a 7 (.int .i64 ((j + 16 : Nat) : Int))) (o8 : Sl a 8 (.int .u32 ((x : Nat) : Int)))
    (S0 : Held w0 w (blkR g5 144 (u32A L) :: R))
    (hend : ∀ (a' : Act) (W : World), Same a a' [51, 52, 53, 54, 55, 56, 57, 58, 59, 60, 61, 62, 63] → Held w0 W (blkR g5 144 (u32A (L.set (j + 16) ((m + sg0 x) % 4294967296))) :: R) → Q .normal a' W) : (Code.region 12 (opsOf 12 Tryd.f82).toArray true).wp Tryd.prog Q a w := by
  have hap : apartB (opsOf 12 Tryd.f82) = true := by kernel_rfl
  refine wp_region_sep (Γ := Unit) (l := (opsOf 12 Tryd.f82)) 2 [0, 1, 2, 3, 4, 5, 6, 7, 8, 9, 10, 11, 12, 13, 15]
    (fun i vs gs => match i with | 0 => vs 0 = .int .i64 ((j + 16 : Nat) : Int) | 1 => vs 1 = .pointer (some ⟨g5, j + 16, none⟩) | 2 => vs 2 = .int .u32 ((m : Nat) : Int) | 3 => vs 3 = .int .u32 ((x : Nat) : Int) | 4 => vs 4 = .int .u32 ((rotr x 7 : Nat) : Int) | 5 => vs 5 = .int .u32 ((x : Nat) : Int) | 6 => vs 6 = .int .u32 ((rotr x 18 : Nat) : Int) | 7 => vs 7 = .int .u32 ((rotr x 7 ^^^ rotr x 18 : Nat) : Int) | 8 => vs 8 = .int .u32 ((x : Nat) : Int) | 9 => vs 9 = .int .u32 ((x / 8 : Nat) : Int) | 10 => vs 10 = .int .u32 ((sg0 x : Nat) : Int) | 11 => vs 11 = .int .u32 (((m + sg0 x) % 4294967296 : Nat) : Int) | 12 => vs 12 = .pointer (some ⟨g5, j + 16, none⟩) | _ => True)
    (fun i vs gs => match i with | 13 => [blkR g5 144 (u32A (L.set (j + 16) ((m + sg0 x) % 4294967296)))] | 14 => [blkR g5 144 (u32A (L))] | 15 => R | _ => [])
    (fun i => match i with | 13 => [14] | _ => []) (fun i => match i with | 2 => [14] | _ => []) S0 (by kernel_rfl) hap (by kernel_rfl) (by kernel_rfl) (fun i => match i with | 0 => [0] | 1 => [1] | 2 => [2] | 3 => [3] | 4 => [4] | 5 => [5] | 6 => [6] | 7 => [7] | 8 => [8] | 9 => [9] | 10 => [10] | 11 => [11] | 12 => [12] | _ => []) (by kernel_rfl) ?_ (by kernel_rfl) ?_ ?_ ?_
  · intro s vs vs' gs gs' h
    iterate 16 (rcases s with _ | s; · (first | exact ⟨rfl, id⟩ | (simp only [List.mem_cons, List.not_mem_nil, or_false, forall_eq] at h; simp [h])))
    exact ⟨rfl, id⟩
  · simp only [List.range, List.range.loop, List.flatMap_cons, List.flatMap_nil, List.append_nil]
    exact List.Perm.refl _
  · clear S0 hend
    refine ⟨?_, ?_, ?_, ?_, ?_, ?_, ?_, ?_, ?_, ?_, ?_, ?_, ?_, ?_, trivial⟩
    · intro vs gs A' W LF hA S hR hd hu K hK
      replace hK := hK default
      have e7 : A'.tmps[7]?.getD undef = .int .i64 ((j + 16 : Nat) : Int) := slot_out hA hap (Nat.lt_of_lt_of_eq (Nat.le_of_ble_eq_true rfl : 7 < 172) hsz.symm) (by kernel_rfl) o7
      clear hA o5 o7 o8
      go_step
      exact hK _ _ S rfl
    · intro vs gs A' W LF hA S hR hd hu K hK
      replace hK := hK default
      have e5 : A'.tmps[5]?.getD undef = .pointer (some ⟨g5, 0, none⟩) := slot_out hA hap (Nat.lt_of_lt_of_eq (Nat.le_of_ble_eq_true rfl : 5 < 172) hsz.symm) (by kernel_rfl) o5
      have f0 : vs 0 = .int .i64 ((j + 16 : Nat) : Int) := hd 0 (by kernel_rfl)
      have e51 : A'.tmps[51]?.getD undef = vs 0 := slot_in hA hap (Nat.lt_of_lt_of_eq (Nat.le_of_ble_eq_true rfl : 51 < 172) hsz.symm) (by kernel_rfl)
      rw [f0] at e51
      clear hA o5 o7 o8
      have h0 : 0 ≤ (j : Int) + 16 := by omega
      have h1 : (j : Int) + 16 < 64 := by omega
      go_step
      exact hK _ _ S rfl
    · intro vs gs A' W LF hA S hR hd hu K hK
      replace hK := hK default
      have f1 : vs 1 = .pointer (some ⟨g5, j + 16, none⟩) := hd 1 (by kernel_rfl)
      have e52 : A'.tmps[52]?.getD undef = vs 1 := slot_in hA hap (Nat.lt_of_lt_of_eq (Nat.le_of_ble_eq_true rfl : 52 < 172) hsz.symm) (by kernel_rfl)
      rw [f1] at e52
      clear hA o5 o7 o8
      have c0 := u32_cell (S.ok (blkR g5 144 (u32A (L))) (hR 14 (List.mem_singleton.2 rfl) _ (List.mem_singleton.2 rfl))) (j + 16) (m) HM
      go_step
      exact hK _ _ S rfl
    · intro vs gs A' W LF hA S hR hd hu K hK
      replace hK := hK default
      have e8 : A'.tmps[8]?.getD undef = .int .u32 ((x : Nat) : Int) := slot_out hA hap (Nat.lt_of_lt_of_eq (Nat.le_of_ble_eq_true rfl : 8 < 172) hsz.symm) (by kernel_rfl) o8
      clear hA o5 o7 o8
      go_step
      exact hK _ _ S rfl
    · intro vs gs A' W LF hA S hR hd hu K hK
      replace hK := hK default
      have f3 : vs 3 = .int .u32 ((x : Nat) : Int) := hd 3 (by kernel_rfl)
      have e54 : A'.tmps[54]?.getD undef = vs 3 := slot_in hA hap (Nat.lt_of_lt_of_eq (Nat.le_of_ble_eq_true rfl : 54 < 172) hsz.symm) (by kernel_rfl)
      rw [f3] at e54
      clear hA o5 o7 o8
      go_step
      refine (srot_any x 7 7 rfl HXl (by unfold rotK; omega) W).mono ?_
      rintro e w' ⟨rfl, rfl⟩
      exact hK _ _ S rfl
    · intro vs gs A' W LF hA S hR hd hu K hK
      replace hK := hK default
      have e8 : A'.tmps[8]?.getD undef = .int .u32 ((x : Nat) : Int) := slot_out hA hap (Nat.lt_of_lt_of_eq (Nat.le_of_ble_eq_true rfl : 8 < 172) hsz.symm) (by kernel_rfl) o8
      clear hA o5 o7 o8
      go_step
      exact hK _ _ S rfl
    · intro vs gs A' W LF hA S hR hd hu K hK
      replace hK := hK default
      have f5 : vs 5 = .int .u32 ((x : Nat) : Int) := hd 5 (by kernel_rfl)
      have e56 : A'.tmps[56]?.getD undef = vs 5 := slot_in hA hap (Nat.lt_of_lt_of_eq (Nat.le_of_ble_eq_true rfl : 56 < 172) hsz.symm) (by kernel_rfl)
      rw [f5] at e56
      clear hA o5 o7 o8
      go_step
      refine (srot_any x 18 18 rfl HXl (by unfold rotK; omega) W).mono ?_
      rintro e w' ⟨rfl, rfl⟩
      exact hK _ _ S rfl
    · intro vs gs A' W LF hA S hR hd hu K hK
      replace hK := hK default
      have f4 : vs 4 = .int .u32 ((rotr x 7 : Nat) : Int) := hd 4 (by kernel_rfl)
      have e55 : A'.tmps[55]?.getD undef = vs 4 := slot_in hA hap (Nat.lt_of_lt_of_eq (Nat.le_of_ble_eq_true rfl : 55 < 172) hsz.symm) (by kernel_rfl)
      rw [f4] at e55
      have f6 : vs 6 = .int .u32 ((rotr x 18 : Nat) : Int) := hd 6 (by kernel_rfl)
      have e57 : A'.tmps[57]?.getD undef = vs 6 := slot_in hA hap (Nat.lt_of_lt_of_eq (Nat.le_of_ble_eq_true rfl : 57 < 172) hsz.symm) (by kernel_rfl)
      rw [f6] at e57
      clear hA o5 o7 o8
      go_step
      exact hK _ _ S (congrArg (Value.int .u32) (u32_x _ _ (rotr_lt HXl) (rotr_lt HXl)))
    · intro vs gs A' W LF hA S hR hd hu K hK
      replace hK := hK default
      have e8 : A'.tmps[8]?.getD undef = .int .u32 ((x : Nat) : Int) := slot_out hA hap (Nat.lt_of_lt_of_eq (Nat.le_of_ble_eq_true rfl : 8 < 172) hsz.symm) (by kernel_rfl) o8
      clear hA o5 o7 o8
      go_step
      exact hK _ _ S rfl
    · intro vs gs A' W LF hA S hR hd hu K hK
      replace hK := hK default
      have f8 : vs 8 = .int .u32 ((x : Nat) : Int) := hd 8 (by kernel_rfl)
      have e59 : A'.tmps[59]?.getD undef = vs 8 := slot_in hA hap (Nat.lt_of_lt_of_eq (Nat.le_of_ble_eq_true rfl : 59 < 172) hsz.symm) (by kernel_rfl)
      rw [f8] at e59
      clear hA o5 o7 o8
      go_step
      exact hK _ _ S (congrArg (Value.int .u32) (by first | omega | rfl))
    · intro vs gs A' W LF hA S hR hd hu K hK
      replace hK := hK default
      have f7 : vs 7 = .int .u32 ((rotr x 7 ^^^ rotr x 18 : Nat) : Int) := hd 7 (by kernel_rfl)
      have e58 : A'.tmps[58]?.getD undef = vs 7 := slot_in hA hap (Nat.lt_of_lt_of_eq (Nat.le_of_ble_eq_true rfl : 58 < 172) hsz.symm) (by kernel_rfl)
      rw [f7] at e58
      have f9 : vs 9 = .int .u32 ((x / 8 : Nat) : Int) := hd 9 (by kernel_rfl)
      have e60 : A'.tmps[60]?.getD undef = vs 9 := slot_in hA hap (Nat.lt_of_lt_of_eq (Nat.le_of_ble_eq_true rfl : 60 < 172) hsz.symm) (by kernel_rfl)
      rw [f9] at e60
      clear hA o5 o7 o8
      go_step
      exact hK _ _ S (congrArg (Value.int .u32) (u32_x _ _ (xor_lt (rotr_lt HXl) (rotr_lt HXl)) (div_lt HXl)))
    · intro vs gs A' W LF hA S hR hd hu K hK
      replace hK := hK default
      have f2 : vs 2 = .int .u32 ((m : Nat) : Int) := hd 2 (by kernel_rfl)
      have e53 : A'.tmps[53]?.getD undef = vs 2 := slot_in hA hap (Nat.lt_of_lt_of_eq (Nat.le_of_ble_eq_true rfl : 53 < 172) hsz.symm) (by kernel_rfl)
      rw [f2] at e53
      have f10 : vs 10 = .int .u32 ((sg0 x : Nat) : Int) := hd 10 (by kernel_rfl)
      have e61 : A'.tmps[61]?.getD undef = vs 10 := slot_in hA hap (Nat.lt_of_lt_of_eq (Nat.le_of_ble_eq_true rfl : 61 < 172) hsz.symm) (by kernel_rfl)
      rw [f10] at e61
      clear hA o5 o7 o8
      go_step
      exact hK _ _ S (congrArg (Value.int .u32) (by first | omega | rfl))
    · intro vs gs A' W LF hA S hR hd hu K hK
      replace hK := hK default
      have e5 : A'.tmps[5]?.getD undef = .pointer (some ⟨g5, 0, none⟩) := slot_out hA hap (Nat.lt_of_lt_of_eq (Nat.le_of_ble_eq_true rfl : 5 < 172) hsz.symm) (by kernel_rfl) o5
      have f0 : vs 0 = .int .i64 ((j + 16 : Nat) : Int) := hd 0 (by kernel_rfl)
      have e51 : A'.tmps[51]?.getD undef = vs 0 := slot_in hA hap (Nat.lt_of_lt_of_eq (Nat.le_of_ble_eq_true rfl : 51 < 172) hsz.symm) (by kernel_rfl)
      rw [f0] at e51
      clear hA o5 o7 o8
      have h0 : 0 ≤ (j : Int) + 16 := by omega
      have h1 : (j : Int) + 16 < 64 := by omega
      go_step
      exact hK _ _ S rfl
    · intro vs gs A' W LF hA S hR hd hu K hK
      replace hK := hK default
      have f12 : vs 12 = .pointer (some ⟨g5, j + 16, none⟩) := hd 12 (by kernel_rfl)
      have e63 : A'.tmps[63]?.getD undef = vs 12 := slot_in hA hap (Nat.lt_of_lt_of_eq (Nat.le_of_ble_eq_true rfl : 63 < 172) hsz.symm) (by kernel_rfl)
      rw [f12] at e63
      have f11 : vs 11 = .int .u32 (((m + sg0 x) % 4294967296 : Nat) : Int) := hd 11 (by kernel_rfl)
      have e62 : A'.tmps[62]?.getD undef = vs 11 := slot_in hA hap (Nat.lt_of_lt_of_eq (Nat.le_of_ble_eq_true rfl : 62 < 172) hsz.symm) (by kernel_rfl)
      rw [f11] at e62
      clear hA o5 o7 o8
      have S1 : Held w0 W (blkR g5 144 (u32A (L)) :: LF) := S
      have q1 := u32_cell (S1.at_ (l1 := [])) (j + 16) _ (HM)
      have q2 := (S1.at_ (l1 := [])).frozen (j + 16)
      have q3 := (S1.at_ (l1 := [])).lt
      go_step
      have S2 := S1.set (l1 := []) (j + 16) (.int .u32 (((m + sg0 x) % 4294967296 : Nat) : Int))
      rw [u32A_set] at S2
      exact hK undef _ S2 trivial
  · intro vs gs W S hp
    have S : Held w0 W (blkR g5 144 (u32A (L.set (j + 16) ((m + sg0 x) % 4294967296))) :: R) := by simpa only [List.flatMap_cons, List.flatMap_nil, List.append_nil, List.nil_append, List.cons_append, List.append_assoc] using S
    rw [show putAll vs (opsOf 12 Tryd.f82) 0 a = putD [(51, vs 0), (52, vs 1), (53, vs 2), (54, vs 3), (55, vs 4), (56, vs 5), (57, vs 6), (58, vs 7), (59, vs 8), (60, vs 9), (61, vs 10), (62, vs 11), (63, vs 12)] a from by kernel_rfl]
    exact hend _ W (same_putD _ a)  S
-- END sblk12
-- REG sblk13
set_option maxRecDepth 100000 in
set_option maxHeartbeats 2000000 in
theorem sblk_r13 {Q : Exit → Act → World → Prop} {a : Act} {w : World} (w0 : World) (j g5 : Nat) (L : List Nat) (R : List Res) (hlt : j < 48) (m y : Nat) (HM : L[j + 16]? = some m) (HYl : y < 4294967296) (hsz : a.tmps.size = 172) (o5 : Sl a 5 (.pointer (some ⟨g5, 0, none⟩))) (o7 : Sl a 7 (.int .i64 ((j + 16 : Nat) : Int))) (o9 : Sl a 9 (.int .u32 ((y : Nat) : Int)))
    (S0 : Held w0 w (blkR g5 144 (u32A L) :: R))
    (hend : ∀ (a' : Act) (W : World), Same a a' [64, 65, 66, 67, 68, 69, 70, 71, 72, 73, 74, 75, 76] → Held w0 W (blkR g5 144 (u32A (L.set (j + 16) ((m + sg1 y) % 4294967296))) :: R) → Q .normal a' W) : (Code.region 13 (opsOf 13 Tryd.f82).toArray true).wp Tryd.prog Q a w := by
  have hap : apartB (opsOf 13 Tryd.f82) = true := by kernel_rfl
  refine wp_region_sep (Γ := Unit) (l := (opsOf 13 Tryd.f82)) 2 [0, 1, 2, 3, 4, 5, 6, 7, 8, 9, 10, 11, 12, 13, 15]
    (fun i vs gs => match i with | 0 => vs 0 = .int .i64 ((j + 16 : Nat) : Int) | 1 => vs 1 = .pointer (some ⟨g5, j + 16, none⟩) | 2 => vs 2 = .int .u32 ((m : Nat) : Int) | 3 => vs 3 = .int .u32 ((y : Nat) : Int) | 4 => vs 4 = .int .u32 ((rotr y 17 : Nat) : Int) | 5 => vs 5 = .int .u32 ((y : Nat) : Int) | 6 => vs 6 = .int .u32 ((rotr y 19 : Nat) : Int) | 7 => vs 7 = .int .u32 ((rotr y 17 ^^^ rotr y 19 : Nat) : Int) | 8 => vs 8 = .int .u32 ((y : Nat) : Int) | 9 => vs 9 = .int .u32 ((y / 1024 : Nat) : Int) | 10 => vs 10 = .int .u32 ((sg1 y : Nat) : Int) | 11 => vs 11 = .int .u32 (((m + sg1 y) % 4294967296 : Nat) : Int) | 12 => vs 12 = .pointer (some ⟨g5, j + 16, none⟩) | _ => True)
    (fun i vs gs => match i with | 13 => [blkR g5 144 (u32A (L.set (j + 16) ((m + sg1 y) % 4294967296)))] | 14 => [blkR g5 144 (u32A (L))] | 15 => R | _ => [])
    (fun i => match i with | 13 => [14] | _ => []) (fun i => match i with | 2 => [14] | _ => []) S0 (by kernel_rfl) hap (by kernel_rfl) (by kernel_rfl) (fun i => match i with | 0 => [0] | 1 => [1] | 2 => [2] | 3 => [3] | 4 => [4] | 5 => [5] | 6 => [6] | 7 => [7] | 8 => [8] | 9 => [9] | 10 => [10] | 11 => [11] | 12 => [12] | _ => []) (by kernel_rfl) ?_ (by kernel_rfl) ?_ ?_ ?_
  · intro s vs vs' gs gs' h
    iterate 16 (rcases s with _ | s; · (first | exact ⟨rfl, id⟩ | (simp only [List.mem_cons, List.not_mem_nil, or_false, forall_eq] at h; simp [h])))
    exact ⟨rfl, id⟩
  · simp only [List.range, List.range.loop, List.flatMap_cons, List.flatMap_nil, List.append_nil]
    exact List.Perm.refl _
  · clear S0 hend
    refine ⟨?_, ?_, ?_, ?_, ?_, ?_, ?_, ?_, ?_, ?_, ?_, ?_, ?_, ?_, trivial⟩
    · intro vs gs A' W LF hA S hR hd hu K hK
      replace hK := hK default
      have e7 : A'.tmps[7]?.getD undef = .int .i64 ((j + 16 : Nat) : Int) := slot_out hA hap (Nat.lt_of_lt_of_eq (Nat.le_of_ble_eq_true rfl : 7 < 172) hsz.symm) (by kernel_rfl) o7
      clear hA o5 o7 o9
      go_step
      exact hK _ _ S rfl
    · intro vs gs A' W LF hA S hR hd hu K hK
      replace hK := hK default
      have e5 : A'.tmps[5]?.getD undef = .pointer (some ⟨g5, 0, none⟩) := slot_out hA hap (Nat.lt_of_lt_of_eq (Nat.le_of_ble_eq_true rfl : 5 < 172) hsz.symm) (by kernel_rfl) o5
      have f0 : vs 0 = .int .i64 ((j + 16 : Nat) : Int) := hd 0 (by kernel_rfl)
      have e64 : A'.tmps[64]?.getD undef = vs 0 := slot_in hA hap (Nat.lt_of_lt_of_eq (Nat.le_of_ble_eq_true rfl : 64 < 172) hsz.symm) (by kernel_rfl)
      rw [f0] at e64
      clear hA o5 o7 o9
      have h0 : 0 ≤ (j : Int) + 16 := by omega
      have h1 : (j : Int) + 16 < 64 := by omega
      go_step
      exact hK _ _ S rfl
    · intro vs gs A' W LF hA S hR hd hu K hK
      replace hK := hK default
      have f1 : vs 1 = .pointer (some ⟨g5, j + 16, none⟩) := hd 1 (by kernel_rfl)
      have e65 : A'.tmps[65]?.getD undef = vs 1 := slot_in hA hap (Nat.lt_of_lt_of_eq (Nat.le_of_ble_eq_true rfl : 65 < 172) hsz.symm) (by kernel_rfl)
      rw [f1] at e65
      clear hA o5 o7 o9
      have c0 := u32_cell (S.ok (blkR g5 144 (u32A (L))) (hR 14 (List.mem_singleton.2 rfl) _ (List.mem_singleton.2 rfl))) (j + 16) (m) HM
      go_step
      exact hK _ _ S rfl
    · intro vs gs A' W LF hA S hR hd hu K hK
      replace hK := hK default
      have e9 : A'.tmps[9]?.getD undef = .int .u32 ((y : Nat) : Int) := slot_out hA hap (Nat.lt_of_lt_of_eq (Nat.le_of_ble_eq_true rfl : 9 < 172) hsz.symm) (by kernel_rfl) o9
      clear hA o5 o7 o9
      go_step
      exact hK _ _ S rfl
    · intro vs gs A' W LF hA S hR hd hu K hK
      replace hK := hK default
      have f3 : vs 3 = .int .u32 ((y : Nat) : Int) := hd 3 (by kernel_rfl)
      have e67 : A'.tmps[67]?.getD undef = vs 3 := slot_in hA hap (Nat.lt_of_lt_of_eq (Nat.le_of_ble_eq_true rfl : 67 < 172) hsz.symm) (by kernel_rfl)
      rw [f3] at e67
      clear hA o5 o7 o9
      go_step
      refine (srot_any y 17 17 rfl HYl (by unfold rotK; omega) W).mono ?_
      rintro e w' ⟨rfl, rfl⟩
      exact hK _ _ S rfl
    · intro vs gs A' W LF hA S hR hd hu K hK
      replace hK := hK default
      have e9 : A'.tmps[9]?.getD undef = .int .u32 ((y : Nat) : Int) := slot_out hA hap (Nat.lt_of_lt_of_eq (Nat.le_of_ble_eq_true rfl : 9 < 172) hsz.symm) (by kernel_rfl) o9
      clear hA o5 o7 o9
      go_step
      exact hK _ _ S rfl
    · intro vs gs A' W LF hA S hR hd hu K hK
      replace hK := hK default
      have f5 : vs 5 = .int .u32 ((y : Nat) : Int) := hd 5 (by kernel_rfl)
      have e69 : A'.tmps[69]?.getD undef = vs 5 := slot_in hA hap (Nat.lt_of_lt_of_eq (Nat.le_of_ble_eq_true rfl : 69 < 172) hsz.symm) (by kernel_rfl)
      rw [f5] at e69
      clear hA o5 o7 o9
      go_step
      refine (srot_any y 19 19 rfl HYl (by unfold rotK; omega) W).mono ?_
      rintro e w' ⟨rfl, rfl⟩
      exact hK _ _ S rfl
    · intro vs gs A' W LF hA S hR hd hu K hK
      replace hK := hK default
      have f4 : vs 4 = .int .u32 ((rotr y 17 : Nat) : Int) := hd 4 (by kernel_rfl)
      have e68 : A'.tmps[68]?.getD undef = vs 4 := slot_in hA hap (Nat.lt_of_lt_of_eq (Nat.le_of_ble_eq_true rfl : 68 < 172) hsz.symm) (by kernel_rfl)
      rw [f4] at e68
      have f6 : vs 6 = .int .u32 ((rotr y 19 : Nat) : Int) := hd 6 (by kernel_rfl)
      have e70 : A'.tmps[70]?.getD undef = vs 6 := slot_in hA hap (Nat.lt_of_lt_of_eq (Nat.le_of_ble_eq_true rfl : 70 < 172) hsz.symm) (by kernel_rfl)
      rw [f6] at e70
      clear hA o5 o7 o9
      go_step
      exact hK _ _ S (congrArg (Value.int .u32) (u32_x _ _ (rotr_lt HYl) (rotr_lt HYl)))
    · intro vs gs A' W LF hA S hR hd hu K hK
      replace hK := hK default
      have e9 : A'.tmps[9]?.getD undef = .int .u32 ((y : Nat) : Int) := slot_out hA hap (Nat.lt_of_lt_of_eq (Nat.le_of_ble_eq_true rfl : 9 < 172) hsz.symm) (by kernel_rfl) o9
      clear hA o5 o7 o9
      go_step
      exact hK _ _ S rfl
    · intro vs gs A' W LF hA S hR hd hu K hK
      replace hK := hK default
      have f8 : vs 8 = .int .u32 ((y : Nat) : Int) := hd 8 (by kernel_rfl)
      have e72 : A'.tmps[72]?.getD undef = vs 8 := slot_in hA hap (Nat.lt_of_lt_of_eq (Nat.le_of_ble_eq_true rfl : 72 < 172) hsz.symm) (by kernel_rfl)
      rw [f8] at e72
      clear hA o5 o7 o9
      go_step
      exact hK _ _ S (congrArg (Value.int .u32) (by first | omega | rfl))
    · intro vs gs A' W LF hA S hR hd hu K hK
      replace hK := hK default
      have f7 : vs 7 = .int .u32 ((rotr y 17 ^^^ rotr y 19 : Nat) : Int) := hd 7 (by kernel_rfl)
      have e71 : A'.tmps[71]?.getD undef = vs 7 := slot_in hA hap (Nat.lt_of_lt_of_eq (Nat.le_of_ble_eq_true rfl : 71 < 172) hsz.symm) (by kernel_rfl)
      rw [f7] at e71
      have f9 : vs 9 = .int .u32 ((y / 1024 : Nat) : Int) := hd 9 (by kernel_rfl)
      have e73 : A'.tmps[73]?.getD undef = vs 9 := slot_in hA hap (Nat.lt_of_lt_of_eq (Nat.le_of_ble_eq_true rfl : 73 < 172) hsz.symm) (by kernel_rfl)
      rw [f9] at e73
      clear hA o5 o7 o9
      go_step
      exact hK _ _ S (congrArg (Value.int .u32) (u32_x _ _ (xor_lt (rotr_lt HYl) (rotr_lt HYl)) (div_lt HYl)))
    · intro vs gs A' W LF hA S hR hd hu K hK
      replace hK := hK default
      have f2 : vs 2 = .int .u32 ((m : Nat) : Int) := hd 2 (by kernel_rfl)
      have e66 : A'.tmps[66]?.getD undef = vs 2 := slot_in hA hap (Nat.lt_of_lt_of_eq (Nat.le_of_ble_eq_true rfl : 66 < 172) hsz.symm) (by kernel_rfl)
      rw [f2] at e66
      have f10 : vs 10 = .int .u32 ((sg1 y : Nat) : Int) := hd 10 (by kernel_rfl)
      have e74 : A'.tmps[74]?.getD undef = vs 10 := slot_in hA hap (Nat.lt_of_lt_of_eq (Nat.le_of_ble_eq_true rfl : 74 < 172) hsz.symm) (by kernel_rfl)
      rw [f10] at e74
      clear hA o5 o7 o9
      go_step
      exact hK _ _ S (congrArg (Value.int .u32) (by first | omega | rfl))
    · intro vs gs A' W LF hA S hR hd hu K hK
      replace hK := hK default
      have e5 : A'.tmps[5]?.getD undef = .pointer (some ⟨g5, 0, none⟩) := slot_out hA hap (Nat.lt_of_lt_of_eq (Nat.le_of_ble_eq_true rfl : 5 < 172) hsz.symm) (by kernel_rfl) o5
      have f0 : vs 0 = .int .i64 ((j + 16 : Nat) : Int) := hd 0 (by kernel_rfl)
      have e64 : A'.tmps[64]?.getD undef = vs 0 := slot_in hA hap (Nat.lt_of_lt_of_eq (Nat.le_of_ble_eq_true rfl : 64 < 172) hsz.symm) (by kernel_rfl)
      rw [f0] at e64
      clear hA o5 o7 o9
      have h0 : 0 ≤ (j : Int) + 16 := by omega
      have h1 : (j : Int) + 16 < 64 := by omega
      go_step
      exact hK _ _ S rfl
    · intro vs gs A' W LF hA S hR hd hu K hK
      replace hK := hK default
      have f12 : vs 12 = .pointer (some ⟨g5, j + 16, none⟩) := hd 12 (by kernel_rfl)
      have e76 : A'.tmps[76]?.getD undef = vs 12 := slot_in hA hap (Nat.lt_of_lt_of_eq (Nat.le_of_ble_eq_true rfl : 76 < 172) hsz.symm) (by kernel_rfl)
      rw [f12] at e76
      have f11 : vs 11 = .int .u32 (((m + sg1 y) % 4294967296 : Nat) : Int) := hd 11 (by kernel_rfl)
      have e75 : A'.tmps[75]?.getD undef = vs 11 := slot_in hA hap (Nat.lt_of_lt_of_eq (Nat.le_of_ble_eq_true rfl : 75 < 172) hsz.symm) (by kernel_rfl)
      rw [f11] at e75
      clear hA o5 o7 o9
      have S1 : Held w0 W (blkR g5 144 (u32A (L)) :: LF) := S
      have q1 := u32_cell (S1.at_ (l1 := [])) (j + 16) _ (HM)
      have q2 := (S1.at_ (l1 := [])).frozen (j + 16)
      have q3 := (S1.at_ (l1 := [])).lt
      go_step
      have S2 := S1.set (l1 := []) (j + 16) (.int .u32 (((m + sg1 y) % 4294967296 : Nat) : Int))
      rw [u32A_set] at S2
      exact hK undef _ S2 trivial
  · intro vs gs W S hp
    have S : Held w0 W (blkR g5 144 (u32A (L.set (j + 16) ((m + sg1 y) % 4294967296))) :: R) := by simpa only [List.flatMap_cons, List.flatMap_nil, List.append_nil, List.nil_append, List.cons_append, List.append_assoc] using S
    rw [show putAll vs (opsOf 13 Tryd.f82) 0 a = putD [(64, vs 0), (65, vs 1), (66, vs 2), (67, vs 3), (68, vs 4), (69, vs 5), (70, vs 6), (71, vs 7), (72, vs 8), (73, vs 9), (74, vs 10), (75, vs 11), (76, vs 12)] a from by kernel_rfl]
    exact hend _ W (same_putD _ a)  S
-- END sblk13
end Go.Proofs.YtapboamjpilckaaDoor
