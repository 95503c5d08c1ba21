/- Several texts in one: Mem, CrcM, CrcA, Num, Held, Lex, Agg, Arr, Base, CrcB, CrcC, CrcD, CrcE, CrcF, CrcG, CrcH, Texts, CrcI. -/
import Derived.WalkKit
import Derived.WalkSpells
import Derived.WalkLawsBesides
import Derived.Maps.AppendAt
import Derived.Deep.AppendLies
import Derived.Deep.Draws
import Derived.Lib.Hide
import Derived.Deep.RegionWith
import Derived.Deep.QuietTactic
import Derived.BigQuiet
import Derived.BigRegion
import Derived.Deep.RegionHeld3
import Derived.Deep.RegionLaw
import Derived.Deep.DeepCutAuto
import Derived.Deep.DeepFit
import Derived.Outline
import Derived.Test.YtgldgkdnnimglaaRows
import Derived.Laws.BitsAllLaws
import Derived.OrdersHeld
import Derived.ChangeKeysEq
import Derived.Laws.Bits128
set_option linter.unusedVariables false
set_option linter.unusedSimpArgs false
set_option maxRecDepth 100000
set_option maxHeartbeats 8000000
namespace Go.Proofs.Ytgldgkdnnimglaa
/- Words for memory, over any program: which blocks a call may turn; a slice that reads as a list; a row of the call's own; append onto such a row. -/
section
open Go.RowKit

/-- 'w'' is 'w' with new blocks, and with writes to the blocks of S alone. -/
structure Kp (S : List Nat) (w w' : World) : Prop where
  os : w'.os = w.os
  tape : w'.tape = w.tape
  output : w'.output = w.output
  size : w.heap.size ≤ w'.heap.size
  block : ∀ k, k < w.heap.size → k ∉ S → w'.heap[k]? = w.heap[k]?

theorem Kp.refl (S : List Nat) (w : World) : Kp S w w := ⟨rfl, rfl, rfl, Nat.le_refl _, fun _ _ _ => rfl⟩
theorem Kp.drew {S : List Nat} {a w : World} (h : Kp S a w) : Kp S a w.drew := ⟨h.os, h.tape, h.output, h.size, h.block⟩
/-- Two steps: what the second may turn is among the first's, or new. -/
theorem Kp.trans {S T : List Nat} {a b c : World} (h : Kp S a b) (k : Kp T b c) (hT : ∀ g, g ∈ T → g ∈ S ∨ a.heap.size ≤ g) : Kp S a c :=
  ⟨k.os.trans h.os, k.tape.trans h.tape, k.output.trans h.output, Nat.le_trans h.size k.size, fun i hi hn => (k.block i (Nat.lt_of_lt_of_le hi h.size) (fun hm => by
    rcases hT i hm with h1 | h1
    · exact hn h1
    · omega)).trans (h.block i hi hn)⟩
theorem Kp.more {S T : List Nat} {a b : World} (h : Kp S a b) (hT : ∀ g, g ∈ S → g ∈ T ∨ a.heap.size ≤ g) : Kp T a b := (Kp.refl T a).trans h hT
theorem Kp.alloc {S : List Nat} {a w : World} (h : Kp S a w) (o : Obj) : Kp S a (w.alloc o) :=
  ⟨h.os, h.tape, h.output, Nat.le_trans h.size (by simp), fun i hi hn => (Below.heap_alloc w o i (Nat.lt_of_lt_of_le hi h.size)).trans (h.block i hi hn)⟩
theorem Kp.setCell {S : List Nat} {a w : World} (h : Kp S a w) {p : Addr} (hp : p.block ∈ S ∨ a.heap.size ≤ p.block) (u : Value) : Kp S a (w.setCell p u) :=
  ⟨h.os, h.tape, h.output, by simpa [World.setCell] using h.size, fun i hi hn => (Below.heap_setCell w p u i (by
    rintro rfl
    rcases hp with hp | hp
    · exact hn hp
    · omega)).trans (h.block i hi hn)⟩
theorem Kp.of_grown {w w' : World} {row : Option Nat} (h : w.grownBy w' row) : Kp row.toList w w' :=
  ⟨h.os, h.tape, h.output, h.size, fun k hk hn => h.block k hk (fun e => hn (by rw [← e]; simp))⟩
theorem Kp.grown {S : List Nat} {a w w' : World} {row : Option Nat} (h : Kp S a w) (hg : w.grownBy w' row) (hr : ∀ g, row = some g → g ∈ S ∨ a.heap.size ≤ g) : Kp S a w' :=
  h.trans (Kp.of_grown hg) (fun g hm => hr g (by cases row <;> simp_all))
theorem Kp.below {S : List Nat} {B : Nat} {w w' : World} (h : Kp S w w') (hB : B ≤ w.heap.size) (hS : ∀ g, g ∈ S → B ≤ g) : Below B w w' :=
  ⟨h.os, h.tape, h.output, h.size, fun k hk => h.block k (by omega) (fun hm => by have := hS k hm; omega)⟩
/-- Block g is just the cells cs of element type t, none frozen. -/
def Blk (w : World) (g : Nat) (t : TypeId) (cs : Array Value) : Prop := w.heap[g]? = some (.cells cs t (0, 0))
section
variable {w w' : World} {g : Nat} {t : TypeId} {cs : Array Value}
theorem Blk.lt (h : Blk w g t cs) : g < w.heap.size := (Array.getElem?_eq_some_iff.1 h).1
theorem Blk.cell (h : Blk w g t cs) (i : Nat) : w.cell? ⟨g, i, none⟩ = cs[i]? := cell_of_row w g i cs t (0, 0) h
theorem Blk.frozen (h : Blk w g t cs) (i : Nat) : w.frozen? ⟨g, i, none⟩ = false := by
  unfold Blk at h
  simp [World.frozen?, h]
theorem Blk.new (w : World) (t : TypeId) (cs : Array Value) : Blk (w.alloc (.cells cs t)) w.heap.size t cs := heap_alloc_new w _
theorem Blk.drew (h : Blk w g t cs) : Blk w.drew g t cs := h
theorem Blk.alloc (h : Blk w g t cs) (o : Obj) : Blk (w.alloc o) g t cs := (Below.heap_alloc w o g h.lt).trans h
theorem Blk.set_ (h : Blk w g t cs) (i : Nat) (u : Value) : Blk (w.setCell ⟨g, i, none⟩ u) g t (cs.setIfInBounds i u) := by
  unfold Blk at h ⊢
  simp [World.setCell, Array.getElem?_modify, h]
theorem Blk.far (h : Blk w g t cs) {p : Addr} (hp : g ≠ p.block) (u : Value) : Blk (w.setCell p u) g t cs := (Below.heap_setCell w p u g hp).trans h
theorem Blk.kp {S : List Nat} (h : Blk w g t cs) (hk : Kp S w w') (hg : g ∉ S) : Blk w' g t cs := (hk.block g h.lt hg).trans h
theorem Blk.ne_ {g' : Nat} {t' : TypeId} {cs' : Array Value} (h : Blk w g t cs) (h' : Blk w g' t' cs') (hne : t ≠ t') : g ≠ g' := by
  rintro rfl
  unfold Blk at h h'
  rw [h] at h'
  injection h' with h'
  injection h' with _ ht
  exact hne ht
end

theorem block_of_add (a : Addr) (n : Nat) : (a.add n).block = a.block := by unfold Addr.add; split <;> rfl
theorem add_of_add (a : Addr) (i j : Nat) : (a.add i).add j = a.add (i + j) := by
  unfold Addr.add
  by_cases hi : i = 0 <;> by_cases hj : j = 0 <;> simp [hi, hj, Nat.add_assoc]

/-- The slice value v holds the cells xs ('s' cells an element), wherever it lies: nil let in. -/
def Rd (w : World) (s : Nat) (v : Value) (n : Nat) (xs : List Value) : Prop :=
  xs.length = n * s ∧ ∃ A c, v = .slice A n c ∧ n ≤ c ∧ c ≤ maxLen ∧ (A = none → n = 0 ∧ c = 0) ∧ ∀ ad, A = some ad → ∀ j u, xs[j]? = some u → w.cell? (ad.add j) = some u

section
variable {w w' : World} {s n : Nat} {v : Value} {xs : List Value}
theorem cell_lt {w : World} {a : Addr} {u : Value} (h : w.cell? a = some u) : a.block < w.heap.size := by
  unfold World.cell? at h
  rcases Nat.lt_or_ge a.block w.heap.size with hlt | hge
  · exact hlt
  · rw [Array.getElem?_eq_none hge] at h; simp at h
theorem Rd.keep (h : Rd w s v n xs) (hk : ∀ p : Addr, v.ownBlock = some p.block → p.block < w.heap.size → w'.cell? p = w.cell? p) : Rd w' s v n xs := by
  obtain ⟨h1, A, c, rfl, h2, h3, h4, h5⟩ := h
  refine ⟨h1, A, c, rfl, h2, h3, h4, fun ad had j u hu => ?_⟩
  have h6 := h5 ad had j u hu
  subst had
  exact (hk _ (by rw [block_of_add]; rfl) (cell_lt h6)).trans h6
theorem Rd.kp {S : List Nat} (h : Rd w s v n xs) (hk : Kp S w w') (hn : ∀ g, v.ownBlock = some g → g ∉ S) : Rd w' s v n xs :=
  h.keep fun p hp hlt => World.cell?_of_block (hk.block p.block hlt (hn _ hp))
theorem Rd.alloc (h : Rd w s v n xs) (o : Obj) : Rd (w.alloc o) s v n xs := h.kp ((Kp.refl [] w).alloc o) (by simp)
theorem Rd.nil (w : World) (s : Nat) : Rd w s (.slice none 0 0) 0 [] := ⟨by simp, none, 0, rfl, by simp, by simp, fun _ => ⟨rfl, rfl⟩, fun ad h => by cases h⟩
theorem Rd.of_own {base : Nat} {e : TypeId} (h : w.ownsRow base e s v n xs) : Rd w s v n xs := by
  refine ⟨h.1, ?_⟩
  rcases h.2 with ⟨rfl, rfl⟩ | ⟨g, cap, cur, rfl, _, _, hnc, hcm, _⟩
  · exact ⟨none, 0, rfl, by simp, by simp, (fun _ => ⟨rfl, rfl⟩), (fun ad h0 => by cases h0)⟩
  · exact ⟨_, cap, rfl, hnc, hcm, (fun h0 => by cases h0), (fun ad had => by cases had; exact h.cells (g := g) rfl)⟩
end

/-- A row of the call's own (any block): 'ownsRow' from block 0 on. -/
abbrev Ow (w : World) (e : TypeId) (s : Nat) (v : Value) (n : Nat) (xs : List Value) : Prop := w.ownsRow 0 e s v n xs
section
variable {w w' : World} {e : TypeId} {s n : Nat} {v : Value} {xs : List Value}
theorem ow_kp {S : List Nat} (h : Ow w e s v n xs) (hk : Kp S w w') (hn : ∀ g, v.ownBlock = some g → g ∉ S) : Ow w' e s v n xs := by
  refine ⟨h.1, ?_⟩
  rcases h.2 with hv | ⟨g, cap, cur, rfl, hb, hgg, rest⟩
  · exact .inl hv
  · refine .inr ⟨g, cap, cur, rfl, hb, ?_, rest⟩
    rw [hk.block g (Array.getElem?_eq_some_iff.1 hgg).1 (hn g rfl)]
    exact hgg
theorem ow_lt (h : Ow w e s v n xs) {g : Nat} (hg : v.ownBlock = some g) : g < w.heap.size := (h.lt g hg).2
theorem ow_form (h : Ow w e s v n xs) : ∃ A c, v = .slice A n c ∧ n ≤ c ∧ c ≤ maxLen := by
  rcases h.2 with ⟨rfl, rfl⟩ | ⟨g', cap, cur, rfl, _, _, hn, hc, _⟩
  · exact ⟨none, 0, rfl, Nat.le_refl _, by simp⟩
  · exact ⟨_, cap, rfl, hn, hc⟩
theorem ow_blk_ne {t : TypeId} {g : Nat} {cs : Array Value} (h : Ow w e s v n xs) (hg : Blk w g t cs) (hne : e ≠ t) : v.ownBlock ≠ some g := by
  rcases h.2 with ⟨rfl, _⟩ | ⟨g', cap, cur, rfl, _, hh, _⟩
  · simp [Value.ownBlock]
  · intro he
    have : g' = g := by simpa [Value.ownBlock] using he
    subst this
    exact Blk.ne_ (t := e) hh hg hne rfl
end

/-- Bytes as values. -/
def bv (l : List UInt8) : List Value := l.map fun b => Value.int .u8 (b.toNat : Int)
theorem bv_cons (b : UInt8) (l : List UInt8) : bv (b :: l) = Value.int .u8 (b.toNat : Int) :: bv l := rfl
theorem bv_append (a b : List UInt8) : bv (a ++ b) = bv a ++ bv b := List.map_append
theorem bv_length (a : List UInt8) : (bv a).length = a.length := List.length_map ..
theorem bv_one (a : List UInt8) : ∀ u ∈ bv a, u.oneCell' = true := by
  intro u hu
  obtain ⟨_, _, rfl⟩ := List.mem_map.1 hu
  rfl
theorem bv_get (l : List UInt8) (j : Nat) : (bv l)[j]? = l[j]?.map fun b => Value.int .u8 (b.toNat : Int) := List.getElem?_map ..
theorem rd_new (w : World) (t : TypeId) (u : Value) : Rd (w.alloc (.cells #[u] t)) 1 (.slice (some ⟨w.heap.size, 0, none⟩) 1 1) 1 [u] :=
  ⟨rfl, _, 1, rfl, Nat.le_refl _, by simp [maxLen], (fun h => by cases h), (fun ad had j x hx => by
    cases had
    rcases j with _ | j
    · simp at hx; subst hx; exact (Blk.new w t #[u]).cell 0
    · simp at hx)⟩
theorem one_bv (u : Value) (h : u.oneCell' = true) : ∀ x ∈ [u], x.oneCell' = true := by simpa using h
theorem bv_inj {a b : List UInt8} (h : bv a = bv b) : a = b := by
  induction a generalizing b with
  | nil => cases b with
    | nil => rfl
    | cons y b => cases h
  | cons x a ih => cases b with
    | nil => cases h
    | cons y b =>
      simp only [bv_cons, List.cons.injEq, Value.int.injEq, true_and] at h
      rw [ih h.2, UInt8.toNat_inj.1 (by omega : x.toNat = y.toNat)]

section
variable {P : Program} (w : World)
theorem run_append_none (t ty e : TypeId) (i : TypeInfo) (size : Nat) (ht : P.underlying t = some (.slice e)) (hi : P.info? e = some i)
    (v : Value) (n : Nat) (xs : List Value) (hown : Ow w e size v n xs) (c : Nat) : (Builtin.append_ #[t, t] ty #[v, .slice none 0 c]).run P w = .ok v w := by
  rcases hown.2 with ⟨rfl, rfl⟩ | ⟨g, cap, cur, rfl, _, _, hnc, _⟩
  · simp [Builtin.append_, run_underlying ht, sizeOf, typeInfo, hi, Builtin.lenOf, Builtin.firstCells]
  · simp [Builtin.append_, run_underlying ht, sizeOf, typeInfo, hi, Builtin.lenOf, Builtin.firstCells, hnc, storeCells]

/-- append of what reads as 'news' onto a row of the call's own. -/
theorem run_app (t ty e : TypeId) (i : TypeInfo) (z : Value) (size bytes : Nat) (ht : P.underlying t = some (.slice e)) (hi : P.info? e = some i) (hz : i.zero = some z)
    (hsize : i.size = size) (hby : i.bytes = bytes) (hzs : z.cells.size = size) (hsz : 0 < size)
    (v : Value) (n : Nat) (xs : List Value) (hown : Ow w e size v n xs)
    (x : Value) (m : Nat) (news : List Value) (hr : Rd w size x m news) (h1 : ∀ u ∈ news, u.oneCell' = true)
    (h63 : n + m ≤ maxLen) (hbytes : (n + m) * bytes ≤ 140737488355328) :
    ∃ v' w', (Builtin.append_ #[t, t] ty #[v, x]).run P w = .ok v' w' ∧ Ow w' e size v' (n + m) (xs ++ news) ∧ w.grownBy w' v.ownBlock ∧
      (v'.ownBlock = v.ownBlock ∨ v'.ownBlock = some w.heap.size) := by
  obtain ⟨hl, A, c, rfl, hc1, hc2, hA, hcells⟩ := hr
  rcases A with _ | ad
  · obtain ⟨rfl, rfl⟩ := hA rfl
    have hn : news = [] := List.eq_nil_of_length_eq_zero (by simpa using hl)
    subst hn
    exact ⟨v, w, run_append_none w t ty e i size ht hi v n xs hown 0, by simpa using hown, World.grownBy.refl w _, .inl rfl⟩
  · obtain ⟨v', w', hrun, h2, h3, _, h5⟩ := run_append_own_at (P := P) w 0 t ty e i z size bytes ht hi hz hsize hby hzs hsz v n xs hown ad m c news hl (hcells ad rfl) h1 h63 hbytes (Nat.zero_le _)
    exact ⟨v', w', hrun, h2, h3, h5⟩

theorem wpList_app {ops : Array Oper} {rest : List Oper} {o : Oper} {a : Act} {Q : Exit → Act → World → Prop} (hgd : o.guard = none) (s x : Operand) (t : TypeId)
    (ho : o.op = .call { callee := .builtin .append, args := #[s, x], argTypes := #[t, t] })
    (e : TypeId) (i : TypeInfo) (z : Value) (size bytes : Nat) (ht : P.underlying t = some (.slice e)) (hi : P.info? e = some i) (hz : i.zero = some z)
    (hsize : i.size = size) (hby : i.bytes = bytes) (hzs : z.cells.size = size) (hsz : 0 < size)
    (v : Value) (n : Nat) (xs : List Value) (hs : a.eval s = v) (hown : Ow w e size v n xs)
    (y : Value) (m : Nat) (news : List Value) (hx : a.eval x = y) (hr : Rd w size y m news) (h1 : ∀ u ∈ news, u.oneCell' = true)
    (h63 : n + m ≤ maxLen) (hbytes : (n + m) * bytes ≤ 140737488355328)
    (h : ∀ v' w', Ow w' e size v' (n + m) (xs ++ news) → w.grownBy w' v.ownBlock → (v'.ownBlock = v.ownBlock ∨ v'.ownBlock = some w.heap.size) → wpList P ops Q rest (a.put o.dst v') w') : wpList P ops Q (o :: rest) a w :=
  wpList_plain hgd fun K hK => by
    obtain ⟨v', w', hrun, h2, h3, h4⟩ := run_app (P := P) w t o.type e i z size bytes ht hi hz hsize hby hzs hsz v n xs hown y m news hr h1 h63 hbytes
    unfold Oper.wp execOp
    simp only [ho, resolve, invoke, builtin, Sem.run_bind, Sem.run_pure, Result.andThen_ok, List.map_toArray, List.map_cons, List.map_nil, hs, hx, hrun]
    exact hK _ _ (h v' w' h2 h3 h4)
end

/-- 's[a:a+k]', as the walk spells it. -/
theorem Rd.cut {w : World} {A : Option Addr} {n c a k : Nat} {xs : List Value} (h : Rd w 1 (.slice A n c) n xs) (hk : a + k ≤ n) (hca : ¬ c = a) : Rd w 1 (.slice (A.map (fun x => x.add a)) k (c - a)) k ((xs.drop a).take k) := by
  obtain ⟨hl, A', c', hv, h1, h2, h3, h4⟩ := h
  cases hv
  have hl' : xs.length = n := by omega
  refine ⟨by rw [List.length_take, List.length_drop]; omega, _, _, rfl, by omega, by omega, (fun hA => ?_), (fun ad had j u hu => ?_)⟩
  · have : A = none := by cases A <;> simp_all
    have := h3 this
    omega
  · rcases A with _ | ad0
    · cases had
    · cases had
      rw [add_of_add]
      refine h4 ad0 rfl _ u ?_
      rw [List.getElem?_take] at hu
      split at hu
      · rw [List.getElem?_drop] at hu; exact hu
      · cases hu
theorem Rd.cut0 {w : World} {A : Option Addr} {n c a k : Nat} {xs : List Value} (h : Rd w 1 (.slice A n c) n xs) (hk : a + k ≤ n) (hca : c = a) : Rd w 1 (.slice A k (c - a)) k ((xs.drop a).take k) := by
  obtain ⟨hl, A', c', hv, h1, h2, h3, h4⟩ := h
  cases hv
  have hk0 : k = 0 := by omega
  subst hk0
  refine ⟨by simp, _, _, rfl, by omega, by omega, (fun hA => ?_), (fun ad had j u hu => by simp at hu)⟩
  have := h3 hA
  omega
theorem bv_drop (l : List UInt8) (a k : Nat) : ((bv l).drop a).take k = bv ((l.drop a).take k) := by simp [bv, List.map_take, List.map_drop]

/-- A slice of bytes turned into a string. -/
theorem foldl_push (l : List UInt8) : ∀ (s : List UInt8), (l.map fun b : UInt8 => (b.toNat : Int)).foldl (fun (r : ByteArray) n => r.push (UInt8.ofNat n.toNat)) ⟨s.toArray⟩ = ⟨(s ++ l).toArray⟩ := by
  induction l with
  | nil => intro s; simp
  | cons b l ih =>
    intro s
    simp only [List.map_cons, List.foldl_cons, Int.toNat_natCast, UInt8.ofNat_toNat]
    have : (ByteArray.mk s.toArray).push b = ⟨(s ++ [b]).toArray⟩ := by simp [ByteArray.push]
    rw [this, ih (s ++ [b])]
    simp
theorem run_str {P : Program} {w : World} {x : Value} {bs : List UInt8} {n : Nat} (src dst e : TypeId) (hs : P.underlying src = some (.slice e)) (he : P.underlying e = some (.int .u8)) (hd : P.underlying dst = some .string) (h : Rd w 1 x n (bv bs)) :
    (convert src dst x).run P w = .ok (.string ⟨bs.toArray⟩) w := by
  obtain ⟨hl, A, c, rfl, _, _, hA, hc⟩ := h
  rw [run_convert_bytes_string w src dst e A n c hs he hd]
  rcases A with _ | a
  · obtain ⟨rfl, _⟩ := hA rfl
    have : bs = [] := List.eq_nil_of_length_eq_zero (by rw [bv_length] at hl; omega)
    subst this
    simp [Conv.bytesToString]
    rfl
  · have hn : n = bs.length := by rw [bv_length] at hl; omega
    subst hn
    have hbv : bv bs = (bs.map fun b : UInt8 => (b.toNat : Int)).map (Value.int .u8) := by simp [bv]
    have h1 := run_loadCells_list (P := P) (w := w) a (bv bs) (hc a rfl)
    rw [bv_length, hbv] at h1
    rw [run_bytesToString w a bs.length c (bs.map fun b : UInt8 => (b.toNat : Int)) h1]
    have h2 := foldl_push bs []
    simp only [List.nil_append] at h2
    rw [show (ByteArray.empty : ByteArray) = ⟨([] : List UInt8).toArray⟩ from rfl, h2]
end
/- Crc: the plain mathematics: steps, moves, sums; nothing of the program. -/
section

/-- n times. -/
def itn {α : Type} (f : α → α) : Nat → α → α
  | 0, x => x
  | n + 1, x => itn f n (f x)
theorem itn_add {α : Type} (f : α → α) (m n : Nat) (x : α) : itn f (m + n) x = itn f n (itn f m x) := by
  induction m generalizing x with
  | zero => rw [Nat.zero_add]; rfl
  | succ m ih => rw [Nat.succ_add]; exact ih (f x)
theorem itn_succ {α : Type} (f : α → α) (n : Nat) (x : α) : itn f (n + 1) x = f (itn f n x) := itn_add f n 1 x
def P32 : Nat := 2197175160
/-- The step. -/
def stp (x : Nat) : Nat := (x / 2) ^^^ (x % 2 * P32)
theorem xor_div2 (a b : Nat) : (a ^^^ b) / 2 = a / 2 ^^^ b / 2 := by
  have := Nat.shiftRight_xor_distrib (a := a) (b := b) (i := 1)
  simpa [Nat.shiftRight_succ] using this
theorem xor_mod2 (a b : Nat) : (a ^^^ b) % 2 = (a % 2) ^^^ (b % 2) := by
  have := Nat.xor_mod_two_pow (a := a) (b := b) (n := 1)
  simpa using this
theorem bit_cases (a : Nat) : a % 2 = 0 ∨ a % 2 = 1 := by omega
theorem bit_mul (a b m : Nat) : ((a % 2) ^^^ (b % 2)) * m = (a % 2 * m) ^^^ (b % 2 * m) := by
  rcases bit_cases a with h | h <;> rcases bit_cases b with h' | h' <;> rw [h, h'] <;> simp
theorem xor4 (a b c d : Nat) : (a ^^^ b) ^^^ (c ^^^ d) = (a ^^^ c) ^^^ (b ^^^ d) := by
  rw [Nat.xor_assoc, Nat.xor_assoc, ← Nat.xor_assoc b c d, Nat.xor_comm b c, Nat.xor_assoc c b d]
/-- Additive: bit by bit. -/
def Lin (f : Nat → Nat) : Prop := ∀ a b, f (a ^^^ b) = f a ^^^ f b
theorem Lin.zero {f : Nat → Nat} (h : Lin f) : f 0 = 0 := by
  have := h 0 0
  rw [Nat.xor_self, Nat.xor_self] at this
  exact this
theorem Lin.itn {f : Nat → Nat} (h : Lin f) (n : Nat) : Lin (itn f n) := by
  induction n with
  | zero => intro a b; rfl
  | succ n ih =>
    intro a b
    show Proofs.Ytgldgkdnnimglaa.itn f n (f (a ^^^ b)) = _
    rw [h a b]; exact ih _ _
theorem stp_lin : Lin stp := by
  intro a b
  unfold stp
  rw [xor_div2, xor_mod2, bit_mul, xor4]
theorem P32_lt : P32 < 2 ^ 32 := by decide
theorem stp_lt {x : Nat} (h : x < 2 ^ 32) : stp x < 2 ^ 32 := by
  unfold stp
  refine Nat.xor_lt_two_pow (by omega) ?_
  rcases bit_cases x with h' | h' <;> rw [h']
  · simp
  · rw [Nat.one_mul]; exact P32_lt
theorem itn_stp_lt {x : Nat} (n : Nat) (h : x < 2 ^ 32) : itn stp n x < 2 ^ 32 := by
  induction n generalizing x with
  | zero => exact h
  | succ n ih => exact ih (stp_lt h)
/-- A byte's way. -/
def eight (x : Nat) : Nat := itn stp 8 x
theorem eight_lin : Lin eight := stp_lin.itn 8
theorem eight_lt {x : Nat} (h : x < 2 ^ 32) : eight x < 2 ^ 32 := itn_stp_lt 8 h
/-- A number behind some bytes. -/
def thru (x : Nat) (l : List UInt8) : Nat := l.foldl (fun x c => eight (x ^^^ c.toNat)) x
theorem thru_cons (x : Nat) (c : UInt8) (l : List UInt8) : thru x (c :: l) = thru (eight (x ^^^ c.toNat)) l := rfl
theorem thru_append (x : Nat) (a b : List UInt8) : thru x (a ++ b) = thru (thru x a) b := by simp [thru]
theorem thru_snoc (x : Nat) (a : List UInt8) (c : UInt8) : thru x (a ++ [c]) = eight (thru x a ^^^ c.toNat) := by rw [thru_append]; rfl
theorem u8_lt32 (c : UInt8) : c.toNat < 2 ^ 32 := Nat.lt_trans c.toNat_lt (by decide)
theorem thru_lt {x : Nat} (l : List UInt8) (h : x < 2 ^ 32) : thru x l < 2 ^ 32 := by
  induction l generalizing x with
  | nil => exact h
  | cons c l ih => exact ih (eight_lt (Nat.xor_lt_two_pow h (u8_lt32 c)))
/-- Two numbers behind the same bytes. -/
theorem thru_xor (x y : Nat) (l : List UInt8) : thru (x ^^^ y) l = thru x l ^^^ itn stp (8 * l.length) y := by
  induction l generalizing x y with
  | nil => rfl
  | cons c l ih =>
    rw [thru_cons, thru_cons, List.length_cons, Nat.mul_succ, Nat.add_comm, itn_add]
    have e : x ^^^ y ^^^ c.toNat = (x ^^^ c.toNat) ^^^ y := by rw [Nat.xor_assoc, Nat.xor_comm y, ← Nat.xor_assoc]
    rw [e, eight_lin, ih]
    rfl
def not32 (x : Nat) : Nat := 4294967295 - x
theorem not32_xor {x : Nat} (h : x < 2 ^ 32) : not32 x = x ^^^ 4294967295 := by
  have h1 : (2 ^ 32 - 1 : Nat) = 4294967295 := by decide
  apply Nat.eq_of_testBit_eq
  intro i
  unfold not32
  rw [Nat.testBit_xor, ← h1, Nat.testBit_two_pow_sub_one]
  have h2 := Nat.testBit_two_pow_sub_succ (x := x) (n := 32) h i
  rw [show 2 ^ 32 - 1 - x = 2 ^ 32 - (x + 1) from by omega, h2]
  by_cases hi : i < 32
  · simp [hi]
  · have : x.testBit i = false := Nat.testBit_lt_two_pow (Nat.lt_of_lt_of_le h (Nat.pow_le_pow_right (by omega) (by omega)))
    simp [hi, this]
theorem not32_lt (x : Nat) : not32 x < 2 ^ 32 := by unfold not32; omega
theorem not32_not32 {x : Nat} (h : x < 2 ^ 32) : not32 (not32 x) = x := by unfold not32; omega
/-- The sum of a text that goes on. -/
def more (s : Nat) (l : List UInt8) : Nat := not32 (thru (not32 s) l)
def crc (l : List UInt8) : Nat := more 0 l
theorem more_lt (s : Nat) (l : List UInt8) : more s l < 2 ^ 32 := not32_lt _
theorem more_nil {s : Nat} (h : s < 2 ^ 32) : more s [] = s := not32_not32 h
theorem more_append (s : Nat) (a b : List UInt8) : more s (a ++ b) = more (more s a) b := by
  unfold more
  rw [thru_append, not32_not32 (thru_lt a (not32_lt s))]
theorem crc_append (a b : List UInt8) : crc (a ++ b) = more (crc a) b := more_append 0 a b
theorem crc_nil : crc [] = 0 := more_nil (by decide)

/-! ### Moves -/
/-- A number moved by a list of moves, a bit each. -/
def ofL : List Nat → Nat → Nat
  | [], _ => 0
  | m :: ms, x => (x % 2 * m) ^^^ ofL ms (x / 2)
def matOf (f : Nat → Nat) : List Nat := (List.range 32).map fun i => f (2 ^ i)
theorem two_parts (x k : Nat) : x * 2 ^ k = (x % 2 * 2 ^ k) ^^^ (x / 2 * 2 ^ (k + 1)) := by
  have h1 : (x / 2) <<< (k + 1) + x % 2 * 2 ^ k = (x / 2) <<< (k + 1) ||| x % 2 * 2 ^ k := Nat.shiftLeft_add_eq_or_of_lt (by
    have : x % 2 * 2 ^ k ≤ 1 * 2 ^ k := Nat.mul_le_mul_right _ (by omega)
    have h2 : (2 : Nat) ^ (k + 1) = 2 * 2 ^ k := by rw [Nat.pow_succ, Nat.mul_comm]
    have h3 : 0 < 2 ^ k := Nat.pow_pos (by omega)
    omega) _
  have h2 : (x / 2) <<< (k + 1) ||| x % 2 * 2 ^ k = (x % 2 * 2 ^ k) ^^^ (x / 2 * 2 ^ (k + 1)) := by
    rw [Nat.shiftLeft_eq]
    apply Nat.eq_of_testBit_eq
    intro i
    rw [Nat.testBit_or, Nat.testBit_xor]
    by_cases hi : i ≤ k
    · have : (x / 2 * 2 ^ (k + 1)).testBit i = false := by rw [Nat.testBit_mul_two_pow]; simp; intro h; omega
      simp [this]
    · have : (x % 2 * 2 ^ k).testBit i = false := by
        refine Nat.testBit_lt_two_pow ?_
        have h3 : x % 2 * 2 ^ k ≤ 1 * 2 ^ k := Nat.mul_le_mul_right _ (by omega)
        have h4 : (2 : Nat) ^ (k + 1) ≤ 2 ^ i := Nat.pow_le_pow_right (by omega) (by omega)
        have h5 : (2 : Nat) ^ (k + 1) = 2 * 2 ^ k := by rw [Nat.pow_succ, Nat.mul_comm]
        have h6 : 0 < 2 ^ k := Nat.pow_pos (by omega)
        omega
      simp [this]
  rw [← h2, ← h1, Nat.shiftLeft_eq]
  have h5 : (2 : Nat) ^ (k + 1) = 2 * 2 ^ k := by rw [Nat.pow_succ, Nat.mul_comm]
  rw [h5, ← Nat.mul_assoc, ← Nat.add_mul]
  congr 1
  omega
theorem ofL_range {f : Nat → Nat} (h : Lin f) : ∀ (n k x : Nat), x < 2 ^ n → ofL ((List.range' k n).map fun i => f (2 ^ i)) x = f (x * 2 ^ k)
  | 0, k, x, hx => by
    have : x = 0 := by simpa using hx
    subst this
    rw [Nat.zero_mul, h.zero]; rfl
  | n + 1, k, x, hx => by
    rw [List.range'_succ, List.map_cons, ofL, ofL_range h n (k + 1) (x / 2) (by rw [Nat.pow_succ] at hx; omega)]
    rw [two_parts x k, h]
    congr 1
    rcases bit_cases x with h' | h' <;> rw [h']
    · rw [Nat.zero_mul, Nat.zero_mul, h.zero]
    · rw [Nat.one_mul, Nat.one_mul]
theorem ofL_mat {f : Nat → Nat} (h : Lin f) {x : Nat} (hx : x < 2 ^ 32) : ofL (matOf f) x = f x := by
  have := ofL_range h 32 0 x hx
  rw [Nat.pow_zero, Nat.mul_one] at this
  rw [← this, matOf, List.range_eq_range']
def sqM (m : List Nat) : List Nat := m.map (ofL m)
theorem sqM_mat {f : Nat → Nat} (h : Lin f) (hf : ∀ x, x < 2 ^ 32 → f x < 2 ^ 32) : sqM (matOf f) = matOf fun x => f (f x) := by
  unfold sqM
  conv => lhs; arg 2; unfold matOf
  rw [List.map_map]
  unfold matOf
  apply List.map_congr_left
  intro i hi
  have hi' : i < 32 := List.mem_range.1 hi
  show ofL (matOf f) (f (2 ^ i)) = f (f (2 ^ i))
  exact ofL_mat h (hf _ (Nat.pow_lt_pow_right (by omega) hi'))
/-- A byte's way, 2^k times. -/
def far (k : Nat) : Nat → Nat := itn stp (8 * 2 ^ k)
theorem far_lin (k : Nat) : Lin (far k) := stp_lin.itn _
theorem far_lt (k : Nat) {x : Nat} (h : x < 2 ^ 32) : far k x < 2 ^ 32 := itn_stp_lt _ h
theorem far_succ (k x : Nat) : far (k + 1) x = far k (far k x) := by
  unfold far
  rw [← itn_add]
  congr 1
  rw [Nat.pow_succ]; omega
theorem far_mat (k : Nat) : itn sqM k (matOf eight) = matOf (far k) := by
  induction k with
  | zero => rfl
  | succ k ih =>
    rw [itn_succ, ih, sqM_mat (far_lin k) (fun x hx => far_lt k hx)]
    congr 1
    funext x
    exact (far_succ k x).symm
set_option maxRecDepth 100000 in
theorem turn31 : itn sqM 31 (matOf eight) = matOf eight := by decide +kernel
theorem mat31 : matOf (far 31) = matOf eight := (far_mat 31).symm.trans turn31

/-- Carried over n bytes. -/
def carry (x n : Nat) : Nat := itn stp (8 * n) x
theorem carry_lt {x : Nat} (n : Nat) (h : x < 2 ^ 32) : carry x n < 2 ^ 32 := itn_stp_lt _ h
theorem carry_add (x m n : Nat) : carry x (m + n) = carry (carry x m) n := by unfold carry; rw [Nat.mul_add, itn_add]

/-- One bit of the count. -/
theorem carry_bit (x n k : Nat) : carry x (n % 2 ^ (k + 1)) = (if n / 2 ^ k % 2 = 1 then far k (carry x (n % 2 ^ k)) else carry x (n % 2 ^ k)) := by
  have h := Nat.mod_mul (x := n) (a := 2 ^ k) (b := 2)
  rw [← Nat.pow_succ] at h
  rw [h]
  rcases bit_cases (n / 2 ^ k) with h' | h' <;> rw [h']
  · rw [if_neg (by omega), Nat.mul_zero, Nat.add_zero]
  · rw [if_pos rfl, Nat.mul_one, carry_add]
    rfl
end
/- Walks of package crc: steps, bytes. -/
section
open Go.RowKit

theorem ret_int {k : IntKind} {a b : Int} (h : a = b) : Ending.returned (.int k a) = .returned (.int k b) := by rw [h]
theorem stp_even {x : Nat} (h : x % 2 = 0) : stp x = x / 2 := by unfold stp; rw [h, Nat.zero_mul, Nat.xor_zero]
theorem stp_odd {x : Nat} (h : x % 2 = 1) : stp x = x / 2 ^^^ P32 := by unfold stp; rw [h, Nat.one_mul]
theorem and1 {x : Nat} (h : x < 4294967296) (b : Bool) (c : (bits .and .u32 (x : Int) 1 == 1) = b) : ((x : Int) % 2 == 1) = b := by
  have := u32_and_nat x 1 h (by decide)
  rw [Nat.and_one_is_mod] at this
  rw [show bits .and .u32 (x : Int) 1 = ((x % 2 : Nat) : Int) from this] at c
  exact c
theorem way_odd {x : Nat} (h : x < 4294967296) (c : ((x : Int) % 2 == 1) = true) : bits .xor .u32 ((x : Int) / 2) 2197175160 = (stp x : Int) := by
  have : (x : Int) % 2 = 1 := by simpa using c
  rw [stp_odd (by omega), ← u32_xor_nat (x / 2) P32 (by omega) (by decide)]
  rfl
theorem way_even {x : Nat} (c : ((x : Int) % 2 == 1) = false) : (x : Int) / 2 = (stp x : Int) := by
  have : ¬ (x : Int) % 2 = 1 := by simpa using c
  rw [stp_even (by omega)]
  rfl
set_option maxHeartbeats 400000 in
theorem step_any (x : Nat) (h : x < 4294967296) (w : World) : Calls Try.prog 50 #[.int .u32 x] w fun e w' => e = .returned (.int .u32 (stp x)) ∧ w = w' := by
  go_enter Try.func50, Try.ntmps50
  go_wp2
  all_goals go_ret
  · exact ⟨ret_int (way_odd h (and1 h _ (by assumption))), rfl⟩
  · exact ⟨ret_int (way_even (and1 h _ (by assumption))), rfl⟩
set_option maxHeartbeats 400000 in
theorem Step_any (x : Nat) (h : x < 4294967296) (w : World) : Calls Try.prog 51 #[.int .u32 x] w fun e w' => e = .returned (.int .u32 (stp x)) ∧ w = w' := by
  go_enter Try.func51, Try.ntmps51
  go_wp2
  all_goals go_ret
  · exact ⟨ret_int (way_odd h (by assumption)), rfl⟩
  · exact ⟨ret_int (way_even (by assumption)), rfl⟩
set_option maxHeartbeats 400000 in
theorem Eight_any (x : Nat) (h : x < 4294967296) (w : World) : Calls Try.prog 42 #[.int .u32 x] w fun e w' => e = .returned (.int .u32 (eight x)) ∧ w = w' := by
  go_enter Try.func42, Try.ntmps42
  go_wp2
  go_loop [0, 3] (fun v i => ∃ k : Nat, k ≤ 8 ∧ i = .int .i64 k ∧ v = .int .u32 ((itn stp k x : Nat) : Int)) (fun _ i => 8 - (intOf i).toNat)
  case atStart => exact ⟨0, by omega, rfl, rfl⟩
  case round =>
    obtain ⟨k, hk, rfl, rfl⟩ := hrel
    have hb : itn stp k x < 4294967296 := itn_stp_lt k h
    by_cases hlt : k < 8
    · go_wp2_with (go_at_call 51; refine (Step_any _ hb _).mono ?_; rintro e w' ⟨rfl, rfl⟩)
      go_round
      case rel => exact ⟨k + 1, by omega, by go_num, by rw [itn_succ]⟩
      case measure => simp [intOf]; omega
    · obtain rfl : k = 8 := by omega
      go_wp2
      go_ret
      exact ⟨rfl, rfl⟩
/-! ### Masks -/
def mask (x : Nat) : Nat := (x / 32768 + x * 131072 % 4294967296 + 2726488792) % 4294967296
def unmask (m : Nat) : Nat := (m + 1568478504) % 4294967296 / 131072 + (m + 1568478504) % 4294967296 * 32768 % 4294967296
theorem or_add (x k : Nat) (hk : k ≤ 32) (h : x < 4294967296) : (x / 2 ^ k ||| x * 2 ^ (32 - k) % 2 ^ 32) = x / 2 ^ k + x * 2 ^ (32 - k) % 2 ^ 32 := by
  have e : x * 2 ^ (32 - k) % 2 ^ 32 = (x % 2 ^ k) <<< (32 - k) := by
    rw [Nat.shiftLeft_eq]
    conv => lhs; rw [show (2 : Nat) ^ 32 = 2 ^ k * 2 ^ (32 - k) from by rw [← Nat.pow_add]; congr 1; omega]
    rw [Nat.mul_mod_mul_right]
  have hlt : x / 2 ^ k < 2 ^ (32 - k) := by
    rw [Nat.div_lt_iff_lt_mul (Nat.pow_pos (by omega)), ← Nat.pow_add, show 32 - k + k = 32 from by omega]
    exact h
  rw [e, Nat.or_comm, ← Nat.shiftLeft_add_eq_or_of_lt hlt, Nat.add_comm]
theorem way_mask {x : Nat} (h : x < 4294967296) : (bits .or .u32 ((x : Int) / 32768) ((x : Int) * 131072 % 4294967296) + 2726488792) % 4294967296 = (mask x : Int) := by
  have e := u32_or_nat (x / 32768) (x * 131072 % 4294967296) (by omega) (by omega)
  have := or_add x 15 (by omega) h
  rw [show (2 : Nat) ^ 15 = 32768 from rfl, show (2 : Nat) ^ (32 - 15) = 131072 from rfl, show (2 : Nat) ^ 32 = 4294967296 from rfl] at this
  rw [this] at e
  rw [show bits .or .u32 ((x : Int) / 32768) ((x : Int) * 131072 % 4294967296) = ((x / 32768 + x * 131072 % 4294967296 : Nat) : Int) from e]
  unfold mask; omega
theorem way_unmask {x : Nat} : bits .or .u32 (((x : Int) - 2726488792) % 4294967296 / 131072) (((x : Int) - 2726488792) % 4294967296 * 32768 % 4294967296) = (unmask x : Int) := by
  have hy : ((x : Int) - 2726488792) % 4294967296 = (((x + 1568478504) % 4294967296 : Nat) : Int) := by omega
  rw [hy]
  unfold unmask
  have hlt : (x + 1568478504) % 4294967296 < 4294967296 := by omega
  generalize (x + 1568478504) % 4294967296 = y at hlt
  have e := u32_or_nat (y / 131072) (y * 32768 % 4294967296) (by omega) (by omega)
  have := or_add y 17 (by omega) hlt
  rw [show (2 : Nat) ^ 17 = 131072 from rfl, show (2 : Nat) ^ (32 - 17) = 32768 from rfl, show (2 : Nat) ^ 32 = 4294967296 from rfl] at this
  rw [this] at e
  exact e
set_option maxHeartbeats 400000 in
theorem Mask_any (x : Nat) (h : x < 4294967296) (w : World) : Calls Try.prog 24 #[.int .u32 x] w fun e w' => e = .returned (.int .u32 (mask x)) ∧ w = w' := by
  have H := Lib.hid (ret_int (k := .u32) (way_mask h))
  go_enter Try.func24, Try.ntmps24
  go_wp2
  go_ret
  exact ⟨H.out, rfl⟩
set_option maxRecDepth 100000 in
set_option maxHeartbeats 400000 in
theorem Unmask_any (x : Nat) (_h : x < 4294967296) (w : World) : Calls Try.prog 26 #[.int .u32 x] w fun e w' => e = .returned (.int .u32 (unmask x)) ∧ w = w' := by
  have H := Lib.hid (ret_int (k := .u32) (way_unmask (x := x)))
  go_enter Try.func26, Try.ntmps26
  go_wp2
  go_ret
  exact ⟨H.out, rfl⟩
end
/- Numbers as bytes: the plain mathematics; nothing of the program. -/
section

/-- The form of a number in so many bytes, the highest first. -/
def be : Nat → Nat → List UInt8
  | 0, _ => []
  | k + 1, x => UInt8.ofNat (x / 256 ^ k) :: be k x
@[simp] theorem be_zero (x : Nat) : be 0 x = [] := rfl
theorem be_succ (k x : Nat) : be (k + 1) x = UInt8.ofNat (x / 256 ^ k) :: be k x := rfl
@[simp] theorem be_length (k x : Nat) : (be k x).length = k := by
  induction k with
  | zero => rfl
  | succ k ih => rw [be_succ, List.length_cons, ih]
/-- The number that bytes are. -/
def num (l : List UInt8) : Nat := l.foldl (fun a b => 256 * a + b.toNat) 0
@[simp] theorem num_nil : num [] = 0 := rfl
end
/- What a call holds of its own: a list of things in memory, no two of which share a block; each stays as it is while others are turned. -/
section
open Go.RowKit

/-- A thing in memory: its blocks, and what is said of it. -/
structure Res where
  fp : List Nat
  ok : World → Prop
  keep : ∀ w w' S, ok w → Kp S w w' → (∀ b, b ∈ fp → b ∉ S) → ok w'
  lt : ∀ w, ok w → ∀ b, b ∈ fp → b < w.heap.size

def Apart (r s : Res) : Prop := ∀ b, b ∈ r.fp → b ∉ s.fp
theorem Apart.symm {r s : Res} (h : Apart r s) : Apart s r := fun b hb hr => h b hr hb

/-- The things of L, made since w0. -/
structure Held (w0 w : World) (L : List Res) : Prop where
  k : Kp [] w0 w
  ok : ∀ r, r ∈ L → r.ok w
  base : ∀ r, r ∈ L → ∀ b, b ∈ r.fp → w0.heap.size ≤ b
  apart : L.Pairwise Apart

theorem Held.start (w : World) : Held w w [] := ⟨Kp.refl _ _, by simp, by simp, List.Pairwise.nil⟩
theorem Held.at_ {w0 w : World} {l1 l2 : List Res} {r : Res} (h : Held w0 w (l1 ++ r :: l2)) : r.ok w := h.ok r (by simp)
/-- What touches nothing of ours. -/
theorem Held.kp {w0 w w' : World} {L : List Res} (h : Held w0 w L) (hk : Kp [] w w') : Held w0 w' L :=
  ⟨h.k.trans hk (by simp), fun r hr => r.keep w w' [] (h.ok r hr) hk (by simp), h.base, h.apart⟩
/-- A new thing. -/
theorem Held.new {w0 w w' : World} {L : List Res} (h : Held w0 w L) (r : Res) (hk : Kp [] w w') (hr : r.ok w') (hf : ∀ b, b ∈ r.fp → w.heap.size ≤ b) : Held w0 w' (r :: L) := by
  have h' := h.kp hk
  refine ⟨h'.k, fun s hs => ?_, fun s hs => ?_, List.pairwise_cons.2 ⟨fun s hs b hb hs' => ?_, h.apart⟩⟩
  · rcases List.mem_cons.1 hs with rfl | hs
    · exact hr
    · exact h'.ok s hs
  · rcases List.mem_cons.1 hs with rfl | hs
    · exact fun b hb => Nat.le_trans h.k.size (hf b hb)
    · exact h.base s hs
  · have h1 := s.lt w (h.ok s hs) b hs'
    have h2 := hf b hb
    omega
theorem Held.drop {w0 w : World} {L : List Res} {r : Res} (h : Held w0 w (r :: L)) : Held w0 w L :=
  ⟨h.k, fun s hs => h.ok s (List.mem_cons_of_mem _ hs), fun s hs => h.base s (List.mem_cons_of_mem _ hs), (List.pairwise_cons.1 h.apart).2⟩
theorem Held.perm {w0 w : World} {L L' : List Res} (h : Held w0 w L) (hp : L.Perm L') : Held w0 w L' :=
  ⟨h.k, fun r hr => h.ok r (hp.mem_iff.2 hr), fun r hr => h.base r (hp.mem_iff.2 hr), hp.pairwise h.apart (fun hx => hx.symm)⟩
/-- The head is turned. -/
theorem Held.turn {w0 w w' : World} {L : List Res} {r : Res} (h : Held w0 w (r :: L)) (r' : Res) (hk : Kp r.fp w w') (hr : r'.ok w') (hf : ∀ b, b ∈ r'.fp → b ∈ r.fp ∨ w.heap.size ≤ b) : Held w0 w' (r' :: L) := by
  have hap := List.pairwise_cons.1 h.apart
  refine ⟨h.k.trans hk (fun g hg => .inr (h.base r (by simp) g hg)), fun s hs => ?_, fun s hs => ?_, List.pairwise_cons.2 ⟨fun s hs b hb hs' => ?_, hap.2⟩⟩
  · rcases List.mem_cons.1 hs with rfl | hs
    · exact hr
    · exact s.keep w w' r.fp (h.ok s (List.mem_cons_of_mem _ hs)) hk (fun b hb hr => (hap.1 s hs) b hr hb)
  · rcases List.mem_cons.1 hs with rfl | hs
    · intro b hb
      rcases hf b hb with h1 | h1
      · exact h.base r (by simp) b h1
      · exact Nat.le_trans h.k.size h1
    · exact h.base s (List.mem_cons_of_mem _ hs)
  · rcases hf b hb with h1 | h1
    · exact hap.1 s hs b h1 hs'
    · have := s.lt w (h.ok s (List.mem_cons_of_mem _ hs)) b hs'
      omega
theorem perm_mid {l1 l2 : List Res} {r : Res} : (l1 ++ r :: l2).Perm (r :: (l1 ++ l2)) := List.perm_middle
/-- One of the list is turned. -/
theorem Held.turnAt {w0 w w' : World} {l1 l2 : List Res} {r : Res} (h : Held w0 w (l1 ++ r :: l2)) (r' : Res) (hk : Kp r.fp w w') (hr : r'.ok w') (hf : ∀ b, b ∈ r'.fp → b ∈ r.fp ∨ w.heap.size ≤ b) : Held w0 w' (l1 ++ r' :: l2) :=
  ((h.perm perm_mid).turn r' hk hr hf).perm perm_mid.symm
/-- A row of the call's own. -/
def rowR (e : TypeId) (s : Nat) (v : Value) (n : Nat) (xs : List Value) : Res where
  fp := v.ownBlock.toList
  ok := fun w => Ow w e s v n xs
  keep := fun _ _ _ h hk hn => ow_kp h hk (fun g hg => hn g (by simp [hg]))
  lt := fun _ h b hb => ow_lt h (by simpa using hb)
/-- A block, whole. -/
def blkR (g : Nat) (t : TypeId) (cs : Array Value) : Res where
  fp := [g]
  ok := fun w => Blk w g t cs
  keep := fun _ _ _ h hk hn => h.kp hk (hn g (by simp))
  lt := fun _ h b hb => by simp at hb; subst hb; exact h.lt
end
/- A region that draws its order: ONE walk, in the order of the text. An operation is QUIET if it yields one value in every world that meets S (a copy, an address, arithmetic, a load of a cell that S names); all others are EFFECTS: each waits for the one before it. Then every order that the tape may pick comes to what the order of the text comes to; S is shown anew behind each effect but the last. -/
section

section
variable {P : Program} {ops : Array Oper} {Q : Exit → Act → World → Prop} {md : Region.Mode} {S : World → Prop} {qf lst : Nat → Bool}

/-- The post with no way out but the normal one. -/
def Qn (Q : Exit → Act → World → Prop) : Exit → Act → World → Prop := fun e a w => e = .normal ∧ Q .normal a w

/-- Whatever order is picked from here on: a quiet operation yields in every world of S; behind an effect S holds as long as anything is left. -/
def wpMix (P : Program) (md : Region.Mode) (ops : Array Oper) (Q : Exit → Act → World → Prop) (S : World → Prop) (qf lst : Nat → Bool) : Nat → Array Bool → Act → World → Prop
  | 0, listed, a, w => Region.ready md ops listed = [] ∧ Q .normal a w
  | fuel + 1, listed, a, w =>
    (Region.ready md ops listed = [] → Q .normal a w) ∧
    ∀ i ∈ Region.ready md ops listed, ∀ o, ops[i]? = some o →
      if qf i = true then ∃ v, YieldsIf P ops S o v a ∧ wpMix P md ops Q S qf lst fuel (listed.setIfInBounds i true) (a.put o.dst v) w
      else wpOp P ops (Qn Q) i (fun a' w' => (lst i = false → S w') ∧ wpMix P md ops Q S qf lst fuel (listed.setIfInBounds i true) a' w') a w

theorem ready_some {i : Nat} {listed : Array Bool} (h : i ∈ Region.ready md ops listed) : ∃ o, ops[i]? = some o := by
  obtain ⟨_, o, ho, _⟩ := mem_ready.1 h
  exact ⟨o, ho⟩

theorem wpOp_n {i : Nat} {a : Act} {w : World} {K : Act → World → Prop} (h : wpOp P ops (Qn Q) i K a w) : wpOp P ops Q i K a w := by
  unfold wpOp at *
  split
  · rename_i ho; simp only [ho] at h; exact h
  · rename_i o ho
    simp only [ho] at h
    split
    · rename_i hw
      simp only [hw, if_true] at h
      rcases h with h | ⟨_, _, _, h, _⟩
      · left
        unfold Oper.wp at *
        generalize (execOp a.eval o).run P w = r at *
        cases r with
        | ok n w' =>
          cases n <;> simp only [Oper.upon] at h ⊢ <;> try exact h
          case enter f args =>
            refine Calls.mono h fun e w'' he => ?_
            cases e with
            | returned u => exact he
            | panicked c => cases he.1
            | outgrown => obtain ⟨_, _, he, _⟩ := he; cases he
        | halt x w' =>
          cases x <;> simp only [Oper.upon] at h ⊢
          cases h.1
      · cases h
    · rename_i hw; simp only [hw] at h; exact h

def Closed (md : Region.Mode) (ops : Array Oper) (listed : Array Bool) : Prop := ∀ j oj, ops[j]? = some oj → listed.getD j false = true → ∀ e ∈ oj.after, Region.binds md e = true → listed.getD e.on false = true

theorem Closed.add {listed : Array Bool} {j : Nat} (h : Closed md ops listed) (hj : j ∈ Region.ready md ops listed) : Closed md ops (listed.setIfInBounds j true) := by
  intro k ok hk hl e he hb
  by_cases hkj : j = k
  · subst hkj
    obtain ⟨_, o', ho', hall⟩ := mem_ready.1 hj
    obtain rfl : ok = o' := by rw [hk] at ho'; exact Option.some.inj ho'
    exact getD_set_true (hall e he hb)
  · rw [getD_set_ne false hkj] at hl
    exact getD_set_true (h k ok hk hl e he hb)

/-- Number j comes last, whatever the order: what it waits for, and what that waits for, is all the rest. -/
def LastIs (md : Region.Mode) (ops : Array Oper) (lst : Nat → Bool) : Prop :=
  ∀ j oj, lst j = true → ops[j]? = some oj → ∀ listed : Array Bool, Closed md ops listed → (∀ e ∈ oj.after, Region.binds md e = true → listed.getD e.on false = true) → ∀ i, i < ops.size → i ≠ j → listed.getD i false = true

theorem LastIs.none_left {j : Nat} {oj : Oper} {listed : Array Bool} (hl : LastIs md ops lst) (hlj : lst j = true) (hj : ops[j]? = some oj) (hsz : listed.size = ops.size) (hcl : Closed md ops listed)
    (hall : ∀ e ∈ oj.after, Region.binds md e = true → listed.getD e.on false = true) : ∀ i, i ≠ j → i ∉ Region.ready md ops listed := by
  intro i hij hr
  obtain ⟨h0, oi, hoi, _⟩ := mem_ready.1 hr
  have hlo : i < ops.size := (Array.getElem?_eq_some_iff.1 hoi).1
  have h1 := hl j oj hlj hj listed hcl hall i hlo hij
  have hlt : i < listed.size := by rw [hsz]; exact hlo
  simp [hlt] at h0 h1
  rw [h0] at h1; cases h1

theorem any_of_mix (hl : LastIs md ops lst) : ∀ (fuel : Nat) (listed : Array Bool) (a : Act) (w : World), listed.size = ops.size → Closed md ops listed → (S w ∨ Region.ready md ops listed = []) → wpMix P md ops Q S qf lst fuel listed a w → wpAny P md ops Q fuel listed a w
  | 0, _, _, _, _, _, _, h => h
  | fuel + 1, listed, a, w, hsz, hcl, hS, h => ⟨h.1, fun i hi => by
      obtain ⟨o, ho⟩ := ready_some hi
      have h2 := h.2 i hi o ho
      have hSw : S w := hS.resolve_right (fun e => by rw [e] at hi; cases hi)
      have hsz' : (listed.setIfInBounds i true).size = ops.size := by rw [Array.size_setIfInBounds, hsz]
      split at h2
      · obtain ⟨v, hy, hm⟩ := h2
        exact hy.wpOp ho hSw (any_of_mix hl fuel _ _ _ hsz' (hcl.add hi) (.inl hSw) hm)
      · refine wpOp_n (wpOp_mono (fun a' w' ⟨h3, h4⟩ => any_of_mix hl fuel _ a' w' hsz' (hcl.add hi) ?_ h4) h2)
        cases hli : lst i with
        | false => exact .inl (h3 hli)
        | true =>
          right
          obtain ⟨_, o', ho', hall⟩ := mem_ready.1 hi
          obtain rfl : o = o' := by rw [ho] at ho'; exact Option.some.inj ho'
          refine List.eq_nil_iff_forall_not_mem.2 fun k hk => ?_
          by_cases hki : k = i
          · subst hki
            have := (mem_ready.1 hk).1
            have hlt : k < listed.size := by rw [hsz]; exact (Array.getElem?_eq_some_iff.1 ho).1
            simp [hlt] at this
          · exact LastIs.none_left hl hli ho hsz' (hcl.add hi) (fun e he hb => getD_set_true (hall e he hb)) k hki hk⟩

theorem not_wait {i : Nat} {listed : Array Bool} {oj : Oper} (hr : i ∈ Region.ready md ops listed) (hall : ∀ e ∈ oj.after, Region.binds md e = true → listed.getD e.on false = true) :
    ∀ e ∈ oj.after, Region.binds md e = true → e.on ≠ i := fun e he hb heq => by
  have h1 := hall e he hb
  have h0 := (mem_ready.1 hr).1
  rw [heq] at h1
  rcases Nat.lt_or_ge i listed.size with h' | h'
  · simp [h'] at h0 h1; rw [h0] at h1; cases h1
  · simp [Array.getElem?_eq_none h'] at h1

theorem YieldsIf.putBack {oi oj : Oper} {v : Value} {a : Act} {u : Value} (hap : oi.apart ops oj = true) (hsj : ∀ cs b, oj.op ≠ .select cs b) (h : YieldsIf P ops S oj u (a.put oi.dst v)) : YieldsIf P ops S oj u a := by
  obtain ⟨h1, _, _⟩ := Oper.apart_spec hap
  unfold YieldsIf at *
  rw [execOp_put oj hsj a oi.dst v h1, wanted_put oj a oi.dst v h1] at h
  exact h
theorem YieldsIf.putOn {oi oj : Oper} {v : Value} {a : Act} {u : Value} (hap : oi.apart ops oj = true) (hsi : ∀ cs b, oi.op ≠ .select cs b) (h : YieldsIf P ops S oi v a) : YieldsIf P ops S oi v (a.put oj.dst u) := by
  obtain ⟨_, _, h3⟩ := Oper.apart_spec hap
  exact YieldsIf.of_same h (execOp_put oi hsi a oj.dst u h3) (wanted_put oi a oj.dst u h3)

/-- Q on the frame with oi's value put: oj is carried out before it. -/
theorem wpOp_before {j : Nat} {oi oj : Oper} {v : Value} (hj : ops[j]? = some oj) (hap : oi.apart ops oj = true)
    (hsi : ∀ cs b, oi.op ≠ .select cs b) (hsj : ∀ cs b, oj.op ≠ .select cs b) {K : Act → World → Prop} {a : Act} {w : World}
    (hy : YieldsIf P ops S oi v a) (h : wpOp P ops (Qn Q) j K (a.put oi.dst v) w) :
    wpOp P ops (Qn Q) j (fun a' w' => YieldsIf P ops S oi v a' ∧ K (a'.put oi.dst v) w') a w :=  by
  obtain ⟨h1, h2, h3⟩ := Oper.apart_spec hap
  have keep : ∀ (a : Act), YieldsIf P ops S oi v a → ∀ u, YieldsIf P ops S oi v (a.put oj.dst u) := fun a hy u => YieldsIf.putOn hap hsi hy
  have keepD : ∀ d, YieldsIf P ops S oi v { a with defers := d :: a.defers } := fun d => hy.of_same rfl rfl
  unfold wpOp at *
  simp only [hj] at *
  rw [wanted_put oj a oi.dst v h1] at h
  split
  · rename_i hw
    simp only [hw, if_true] at h
    rcases h with h | ⟨_, _, _, h, _⟩
    case inr => cases h
    refine .inl ?_
    unfold Oper.wp at *
    rw [execOp_put oj hsj a oi.dst v h1] at h
    generalize (execOp a.eval oj).run P w = r at *
    cases r with
    | ok n w' =>
      cases n <;> simp only [Oper.upon] at h ⊢
      case value u => exact ⟨keep a hy u, by rw [← Act.put_comm a v u h2]; exact h⟩
      case skip => exact ⟨keep a hy _, by rw [← Act.put_comm a v undef h2]; exact h⟩
      case defer d =>
        refine ⟨keep _ (keepD d) _, ?_⟩
        rw [← Act.put_comm _ v undef h2, ← Act.put_defers]
        exact h
      case enter f args =>
        refine Calls.mono h fun e w'' he => ?_
        cases e with
        | returned u => exact ⟨keep a hy u, by rw [← Act.put_comm a v u h2]; exact he⟩
        | panicked c => cases he.1
        | outgrown => exact he
      case row row args => exact Rows.mono h fun u w'' he => ⟨keep a hy u, by rw [← Act.put_comm a v u h2]; exact he⟩
    | halt x w' =>
      cases x <;> simp only [Oper.upon] at h ⊢
      case panic u => cases h.1
  · rename_i hw
    simp only [hw] at h
    exact ⟨keep a hy _, by rw [← Act.put_comm a v undef h2]; exact h⟩

/-- A quiet operation may be taken first. -/
theorem mix_first_quiet {i : Nat} {oi : Oper} {v : Value} (hi : ops[i]? = some oi) (hsel : ∀ (j : Nat) (o : Oper) cs b, ops[j]? = some o → o.op ≠ .select cs b) (_hl : LastIs md ops lst) (hqi : qf i = true) :
    ∀ (fuel : Nat) (listed : Array Bool) (a : Act) (w : World), listed.size = ops.size →
      (∀ j oj, ops[j]? = some oj → j ≠ i → listed.getD j true = false → (∀ e ∈ oj.after, Region.binds md e = true → e.on ≠ i) → oi.apart ops oj = true) →
      i ∈ Region.ready md ops listed → YieldsIf P ops S oi v a →
      wpMix P md ops Q S qf lst fuel (listed.setIfInBounds i true) (a.put oi.dst v) w → wpMix P md ops Q S qf lst (fuel + 1) listed a w := by
  intro fuel
  induction fuel with
  | zero =>
    intro listed a w _ _ hr hy H
    refine ⟨fun h => (by rw [h] at hr; cases hr), fun j hj o ho => ?_⟩
    by_cases hji : j = i
    · subst hji
      obtain rfl : oi = o := by rw [hi] at ho; exact Option.some.inj ho
      rw [if_pos hqi]; exact ⟨v, hy, H⟩
    · have := ready_mono hj hji
      rw [H.1] at this
      cases this
  | succ fuel ih =>
    intro listed a w hsz hfree hr hy H
    refine ⟨fun h => (by rw [h] at hr; cases hr), fun j hj oj hoj => ?_⟩
    by_cases hji : j = i
    · subst hji
      obtain rfl : oi = oj := by rw [hi] at hoj; exact Option.some.inj hoj
      rw [if_pos hqi]; exact ⟨v, hy, H⟩
    · have h1 := H.2 j (ready_mono hj hji) oj hoj
      obtain ⟨hjun, oj', hoj', hall⟩ := mem_ready.1 hj
      obtain rfl : oj = oj' := by rw [hoj] at hoj'; exact Option.some.inj hoj'
      have hap := hfree j oj hoj hji hjun (not_wait hr hall)
      have hsi := fun cs b => hsel i oi cs b hi
      have hsj := fun cs b => hsel j oj cs b hoj
      have hfree' : ∀ k ok, ops[k]? = some ok → k ≠ i → (listed.setIfInBounds j true).getD k true = false →
          (∀ e ∈ ok.after, Region.binds md e = true → e.on ≠ i) → oi.apart ops ok = true := fun k ok hk hki hun hno => by
        refine hfree k ok hk hki ?_ hno
        by_cases hjk : j = k
        · subst hjk; exact hjun
        · rw [getD_set_ne true hjk] at hun; exact hun
      split at h1
      · rename_i hqj
        rw [if_pos hqj]
        obtain ⟨u, hyj, hm⟩ := h1
        refine ⟨u, YieldsIf.putBack hap hsj hyj, ih (listed.setIfInBounds j true) (a.put oj.dst u) w (by rw [Array.size_setIfInBounds, hsz]) hfree' (ready_mono hr (Ne.symm hji)) (YieldsIf.putOn hap hsi hy) ?_⟩
        rw [Array.setIfInBounds_comm _ _ hji, ← Act.put_comm a v u (Oper.apart_spec hap).2.1]
        exact hm
      · rename_i hqj
        rw [if_neg hqj]
        have h2 := wpOp_before hoj hap hsi hsj hy h1
        refine wpOp_mono (fun a' w' h3 => ⟨h3.2.1, ih (listed.setIfInBounds j true) a' w' (by rw [Array.size_setIfInBounds, hsz]) hfree' (ready_mono hr (Ne.symm hji)) h3.1 ?_⟩) h2
        rw [Array.setIfInBounds_comm _ _ hji]
        exact h3.2.2

/-- What an effect leaves, somewhere. -/
theorem wpOp_some {i : Nat} {oi : Oper} {K : Act → World → Prop} {a : Act} {w : World} (hi : ops[i]? = some oi) (h : wpOp P ops (Qn Q) i K a w) :
    ∃ v d w', K ({ a with defers := d }.put oi.dst v) w' := by
  unfold wpOp at h
  simp only [hi] at h
  split at h
  · rcases h with h | ⟨_, _, _, h, _⟩
    case inr => cases h
    unfold Oper.wp at h
    generalize (execOp a.eval oi).run P w = r at h
    cases r with
    | ok n w' =>
      cases n <;> simp only [Oper.upon] at h
      case value u => exact ⟨u, a.defers, w', h⟩
      case skip => exact ⟨undef, a.defers, w', h⟩
      case defer d => exact ⟨undef, d :: a.defers, w', h⟩
      case enter f args =>
        obtain ⟨e, w'', fr, hR, _⟩ := h []
        cases e with
        | returned u => exact ⟨u, a.defers, w'', hR⟩
        | panicked c => cases hR.1
        | outgrown => obtain ⟨_, _, hR, _⟩ := hR; cases hR
      case row row args =>
        obtain ⟨u, w'', hR, _⟩ := h (Frame.ofRow P row args .normal) []
        exact ⟨u, a.defers, w'', hR⟩
    | halt x w' =>
      cases x <;> simp only [Oper.upon] at h
      cases h.1
  · exact ⟨undef, a.defers, w, h⟩

/-- An effect, carried out behind a quiet operation. -/
theorem wpOp_behind {i : Nat} {oi oj : Oper} {u : Value} (hi : ops[i]? = some oi) (hap : oi.apart ops oj = true) (hsi : ∀ cs b, oi.op ≠ .select cs b)
    {K K2 : Act → World → Prop} {a : Act} {w : World} (h : wpOp P ops (Qn Q) i K a w) (hK : ∀ v d w', K ({ a with defers := d }.put oi.dst v) w' → K2 (({ a with defers := d }.put oi.dst v).put oj.dst u) w') :
    wpOp P ops (Qn Q) i K2 (a.put oj.dst u) w := by
  obtain ⟨_, h2, h3⟩ := Oper.apart_spec hap
  have comm : ∀ (d : List Deferred) (v : Value), Act.put (Act.put { a with defers := d } oi.dst v) oj.dst u = Act.put { a.put oj.dst u with defers := d } oi.dst v := by
    intro d v
    rw [Act.put_comm _ v u h2]
    cases oj.dst <;> rfl
  unfold wpOp at *
  simp only [hi] at *
  rw [wanted_put oi a oj.dst u h3]
  split
  · rename_i hw
    simp only [hw, if_true] at h
    rcases h with h | ⟨_, _, _, h, _⟩
    case inr => cases h
    refine .inl ?_
    unfold Oper.wp at *
    rw [execOp_put oi hsi a oj.dst u h3]
    generalize (execOp a.eval oi).run P w = r at *
    cases r with
    | ok n w' =>
      cases n <;> simp only [Oper.upon] at h ⊢
      case value x => have := hK x a.defers w' h; rw [comm] at this; cases hd : oj.dst <;> (simp only [hd] at this ⊢; exact this)
      case skip => have := hK undef a.defers w' h; rw [comm] at this; cases hd : oj.dst <;> (simp only [hd] at this ⊢; exact this)
      case defer d => have := hK undef (d :: a.defers) w' h; rw [comm] at this; cases hd : oj.dst <;> (simp only [hd] at this ⊢; exact this)
      case enter f args =>
        refine Calls.mono h fun e w'' he => ?_
        cases e with
        | returned x => have := hK x a.defers w'' he; rw [comm] at this; cases hd : oj.dst <;> (simp only [hd] at this ⊢; exact this)
        | panicked c => cases he.1
        | outgrown => exact he
      case row row args => exact Rows.mono h fun x w'' he => by have := hK x a.defers w'' he; rw [comm] at this; cases hd : oj.dst <;> (simp only [hd] at this ⊢; exact this)
    | halt x w' =>
      cases x <;> simp only [Oper.upon] at h ⊢
      case panic x => cases h.1
  · rename_i hw
    simp only [hw] at h
    have := hK undef a.defers w h
    rw [comm] at this
    cases hd : oj.dst <;> (simp only [hd] at this ⊢; exact this)

/-- All that stands before number j of the text's order has come up; each effect waits for the effect before it. -/
def Chain (md : Region.Mode) (ops : Array Oper) (qf : Nat → Bool) : Prop :=
  ∀ j oj, qf j = false → ops[j]? = some oj → ∀ i, i < j → qf i = false → (∀ k, i < k → k < j → qf k = true) →
    ∀ listed : Array Bool, Closed md ops listed → (∀ e ∈ oj.after, Region.binds md e = true → listed.getD e.on false = true) → listed.getD i false = true
/-- Where all that an effect waits for has come up, so have all effects before it. -/
theorem chain_before (hc : Chain md ops qf) {listed : Array Bool} (hcl : Closed md ops listed) : ∀ (n j : Nat) (oj : Oper), j ≤ n → qf j = false → ops[j]? = some oj → (∀ e ∈ oj.after, Region.binds md e = true → listed.getD e.on false = true) →
    ∀ i, i < j → qf i = false → listed.getD i false = true := by
  intro n
  induction n with
  | zero => intro j oj hj _ _ _ i hi; omega
  | succ n ih =>
    intro j oj hjn hqj hj hall i hij hqi
    -- the last effect before j
    have hex : ∃ p, i ≤ p ∧ p < j ∧ qf p = false ∧ ∀ k, p < k → k < j → qf k = true := by
      clear hall ih hj hjn
      induction j with
      | zero => omega
      | succ j ihj =>
        cases hq : qf j with
        | false => exact ⟨j, by omega, by omega, hq, fun k h1 h2 => by omega⟩
        | true =>
          by_cases h : i = j
          · subst h; rw [hq] at hqi; cases hqi
          · have : ∃ p, i ≤ p ∧ p < j ∧ qf p = false ∧ ∀ k, p < k → k < j → qf k = true := by
              clear ihj
              have hlt : i < j := by omega
              clear h hij hqj
              induction j with
              | zero => omega
              | succ j ih2 =>
                cases hq2 : qf j with
                | false => exact ⟨j, by omega, by omega, hq2, fun k h1 h2 => by omega⟩
                | true =>
                  by_cases h : i = j
                  · subst h; rw [hq2] at hqi; cases hqi
                  · obtain ⟨p, h1, h2, h3, h4⟩ := ih2 hq2 (by omega)
                    exact ⟨p, h1, by omega, h3, fun k h5 h6 => by
                      by_cases e : k = j
                      · subst e; exact hq2
                      · exact h4 k h5 (by omega)⟩
            obtain ⟨p, h1, h2, h3, h4⟩ := this
            exact ⟨p, h1, by omega, h3, fun k h5 h6 => by
              by_cases e : k = j
              · subst e; exact hq
              · exact h4 k h5 (by omega)⟩
    obtain ⟨p, hip, hpj, hqp, hbt⟩ := hex
    have hlp : listed.getD p false = true := hc j oj hqj hj p hpj hqp hbt listed hcl hall
    by_cases hpe : i = p
    · subst hpe; exact hlp
    · have hlt : p < listed.size := by
        rcases Nat.lt_or_ge p listed.size with h' | h'
        · exact h'
        · simp [Array.getElem?_eq_none h'] at hlp
      have hpo : p < ops.size := Nat.lt_trans hpj (Array.getElem?_eq_some_iff.1 hj).1
      exact ih p ops[p] (by omega) hqp (Array.getElem?_eq_getElem hpo) (hcl p ops[p] (Array.getElem?_eq_getElem hpo) hlp) i (by omega) hqi

/-- An effect may be taken first, if all that stands before it in the text has come up. -/
theorem mix_first_effect {i : Nat} {oi : Oper} (hi : ops[i]? = some oi) (hsel : ∀ (j : Nat) (o : Oper) cs b, ops[j]? = some o → o.op ≠ .select cs b) (_hl : LastIs md ops lst) (hc : Chain md ops qf) (hqi : qf i = false) :
    ∀ (fuel : Nat) (listed : Array Bool) (a : Act) (w : World), listed.size = ops.size → Closed md ops listed → (∀ m, m < i → listed.getD m true = true) →
      (∀ j oj, ops[j]? = some oj → j ≠ i → qf j = true → listed.getD j true = false → (∀ e ∈ oj.after, Region.binds md e = true → e.on ≠ i) → oi.apart ops oj = true) →
      i ∈ Region.ready md ops listed → S w →
      wpOp P ops (Qn Q) i (fun a' w' => (lst i = false → S w') ∧ wpMix P md ops Q S qf lst fuel (listed.setIfInBounds i true) a' w') a w → wpMix P md ops Q S qf lst (fuel + 1) listed a w := by
  intro fuel
  induction fuel with
  | zero =>
    intro listed a w _ _ _ _ hr _ H
    refine ⟨fun h => (by rw [h] at hr; cases hr), fun j hj o ho => ?_⟩
    by_cases hji : j = i
    · subst hji
      rw [if_neg (by rw [hqi]; simp)]; exact H
    · obtain ⟨v, d, w', _, H'⟩ := wpOp_some hi H
      have := ready_mono hj hji
      rw [H'.1] at this
      cases this
  | succ fuel ih =>
    intro listed a w hsz hcl hbef hfree hr hS H
    refine ⟨fun h => (by rw [h] at hr; cases hr), fun j hj oj hoj => ?_⟩
    by_cases hji : j = i
    · subst hji
      rw [if_neg (by rw [hqi]; simp)]; exact H
    · obtain ⟨hjun, oj', hoj', hall⟩ := mem_ready.1 hj
      obtain rfl : oj = oj' := by rw [hoj] at hoj'; exact Option.some.inj hoj'
      have hun : listed.getD i true = false := (mem_ready.1 hr).1
      cases hqj : qf j with
      | false =>
        exfalso
        rcases Nat.lt_or_ge j i with hlt | hge
        · rw [hbef j hlt] at hjun; cases hjun
        · have h1 := chain_before hc hcl j j oj (Nat.le_refl _) hqj hoj hall i (by omega) hqi
          have hlt : i < listed.size := by rw [hsz]; exact (Array.getElem?_eq_some_iff.1 hi).1
          simp [hlt] at h1 hun
          rw [h1] at hun; cases hun
      | true =>
        rw [if_pos rfl]
        have hap := hfree j oj hoj hji hqj hjun (not_wait hr hall)
        have hsi := fun cs b => hsel i oi cs b hi
        have hsj := fun cs b => hsel j oj cs b hoj
        have hjr' := ready_mono hj hji
        have back : ∀ (d : List Deferred) (v u : Value), YieldsIf P ops S oj u (Act.put { a with defers := d } oi.dst v) → YieldsIf P ops S oj u a := fun d v u hy =>
          YieldsIf.of_same (YieldsIf.putBack hap hsj hy) rfl rfl
        have uniq : ∀ (u u' : Value) (w : World), S w → YieldsIf P ops S oj u a → YieldsIf P ops S oj u' a → u = u' := fun u u' w hw h1 h2 => by
          rcases h1 with ⟨g1, h1⟩ | ⟨g1, h1⟩ <;> rcases h2 with ⟨g2, h2⟩ | ⟨g2, h2⟩
          · have := (h1 w hw).symm.trans (h2 w hw)
            simpa using this
          · rw [g1] at g2; cases g2
          · rw [g1] at g2; cases g2
          · rw [h1, h2]
        obtain ⟨v0, d0, w0, _, H0⟩ := wpOp_some hi H
        have h0 := H0.2 j hjr' oj hoj
        rw [if_pos hqj] at h0
        obtain ⟨u, hyu, _⟩ := h0
        have hya := back d0 v0 u hyu
        refine ⟨u, hya, ih (listed.setIfInBounds j true) (a.put oj.dst u) w (by rw [Array.size_setIfInBounds, hsz]) (hcl.add hj) ?_ ?_ (ready_mono hr (Ne.symm hji)) hS ?_⟩
        · intro m hm
          by_cases hjm : j = m
          · subst hjm; rw [hbef j hm] at hjun; cases hjun
          · rw [getD_set_ne true hjm]; exact hbef m hm
        · intro k ok hk hki hqk hunk hno
          refine hfree k ok hk hki hqk ?_ hno
          by_cases hjk : j = k
          · subst hjk; exact hjun
          · rw [getD_set_ne true hjk] at hunk; exact hunk
        · refine wpOp_behind hi hap hsi H fun v d w' ⟨hS', hm⟩ => ⟨hS', ?_⟩
          have h1 := hm.2 j hjr' oj hoj
          rw [if_pos hqj] at h1
          obtain ⟨u', hy', hm'⟩ := h1
          obtain rfl : u = u' := uniq u u' w hS hya (back d v u' hy')
          rw [Array.setIfInBounds_comm _ _ hji]
          exact hm'

/-! ### The walk in the order of the text -/

/-- The operations from number k on, in the order of the text. -/
def wpLex (P : Program) (ops : Array Oper) (Q : Exit → Act → World → Prop) (S : World → Prop) (qf lst : Nat → Bool) : List Oper → Nat → Act → World → Prop
  | [], _, a, w => Q .normal a w
  | o :: rest, k, a, w =>
    if qf k = true then ∃ v, YieldsIf P ops S o v a ∧ wpLex P ops Q S qf lst rest (k + 1) (a.put o.dst v) w
    else if Region.wanted o (yielded ops a.tmps) then o.wp P a w (fun a' w' => (lst k = false → S w') ∧ wpLex P ops Q S qf lst rest (k + 1) a' w') (Qn Q)
    else wpLex P ops Q S qf lst rest (k + 1) (a.put o.dst undef) w

/-- The flags out of two lists of numbers: the effects; those that wait for all others. -/
def qfOf (es : List Nat) (k : Nat) : Bool := !es.contains k
def waitsB (md : Region.Mode) (oj : Oper) (i : Nat) : Bool := oj.after.any fun e => Region.binds md e && e.on == i
theorem waitsB_spec {oj : Oper} {i : Nat} (h : waitsB md oj i = true) : ∃ e ∈ oj.after, Region.binds md e = true ∧ e.on = i := by
  obtain ⟨e, he, hb⟩ := Array.any_eq_true'.1 h
  simp only [Bool.and_eq_true, beq_iff_eq] at hb
  exact ⟨e, he, hb⟩
def addEdges (md : Region.Mode) (o : Oper) (F : Array Bool) : Array Bool := o.after.toList.foldl (fun F e => if Region.binds md e then F.setIfInBounds e.on true else F) F
def forced (md : Region.Mode) (ops : Array Oper) : List Nat → Array Bool → Array Bool
  | [], F => F
  | i :: is, F => forced md ops is (if F.getD i false then (match ops[i]? with | some o => addEdges md o F | none => F) else F)
def lastB (md : Region.Mode) (ops : Array Oper) (j : Nat) : Bool :=
  match ops[j]? with
  | none => false
  | some oj => (List.range ops.size).all fun i => i == j || (forced md ops (List.range ops.size).reverse (addEdges md oj (Array.replicate ops.size false))).getD i false
theorem addEdges_sub {listed : Array Bool} (es : List Edge) : ∀ (F : Array Bool), (∀ i, F.getD i false = true → listed.getD i false = true) → (∀ e ∈ es, Region.binds md e = true → listed.getD e.on false = true) →
    ∀ i, (es.foldl (fun F e => if Region.binds md e then F.setIfInBounds e.on true else F) F).getD i false = true → listed.getD i false = true := by
  induction es with
  | nil => intro F h _ i hi; exact h i hi
  | cons e es ih =>
    intro F h hall i hi
    refine ih _ ?_ (fun e' he' => hall e' (List.mem_cons_of_mem _ he')) i hi
    intro k hk
    simp only at hk
    split at hk
    · rename_i hb
      by_cases hke : e.on = k
      · subst hke; exact hall e (by simp) hb
      · rw [getD_set_ne false hke] at hk; exact h k hk
    · exact h k hk
theorem forced_sub {listed : Array Bool} (hcl : Closed md ops listed) : ∀ (is : List Nat) (F : Array Bool), (∀ i, F.getD i false = true → listed.getD i false = true) → ∀ i, (forced md ops is F).getD i false = true → listed.getD i false = true
  | [], _, h, i, hi => h i hi
  | j :: is, F, h, i, hi => by
    unfold forced at hi
    refine forced_sub hcl is _ ?_ i hi
    intro k hk
    split at hk
    · rename_i hj
      split at hk
      · rename_i o ho
        exact addEdges_sub o.after.toList F h (fun e he hb => hcl j o ho (h j hj) e (by simpa using he) hb) k hk
      · exact h k hk
    · exact h k hk
theorem lastB_spec : LastIs md ops (lastB md ops) := by
  intro j oj hl hj listed hcl hall i hi hne
  simp only [lastB, hj, List.all_eq_true, List.mem_range, Bool.or_eq_true, beq_iff_eq] at hl
  have h1 := (hl i hi).resolve_left hne
  exact forced_sub hcl _ _ (fun k hk => addEdges_sub oj.after.toList _ (fun m hm => by simp [Array.getElem?_replicate] at hm; split at hm <;> simp at hm) (fun e he hb => hall e (by simpa using he) hb) k hk) i h1

/-- The flags of those that wait for all others, out of their list. -/
def lsOf (ls : List Nat) (k : Nat) : Bool := ls.contains k
theorem lsOf_spec {ls : List Nat} (h : ls.all (lastB md ops) = true) : LastIs md ops (lsOf ls) := fun j oj hl => by
  have hm : j ∈ ls := by simpa [lsOf] using hl
  exact lastB_spec j oj (List.all_eq_true.1 h j hm)

theorem ls_absurd {ls : List Nat} {k : Nat} {p : Prop} (h : lsOf ls k = false) (hk : lsOf ls k = true) : p := by rw [h] at hk; cases hk

/-- oj waits for number i, at once or by way of others. -/
def waitsF (md : Region.Mode) (ops : Array Oper) (oj : Oper) (i : Nat) : Bool := waitsB md oj i || (forced md ops (List.range ops.size).reverse (addEdges md oj (Array.replicate ops.size false))).getD i false
theorem waitsF_spec {oj : Oper} {i : Nat} (h : waitsF md ops oj i = true) (listed : Array Bool) (hcl : Closed md ops listed) (hall : ∀ e ∈ oj.after, Region.binds md e = true → listed.getD e.on false = true) : listed.getD i false = true := by
  unfold waitsF at h
  rw [Bool.or_eq_true] at h
  rcases h with h | h
  · obtain ⟨e, he, hb, heq⟩ := waitsB_spec h
    rw [← heq]; exact hall e he hb
  · exact forced_sub hcl _ _ (fun k hk => addEdges_sub oj.after.toList _ (fun m hm => by simp [Array.getElem?_replicate] at hm; split at hm <;> simp at hm) (fun e he hb => hall e (by simpa using he) hb) k hk) i h

def chainB (md : Region.Mode) (ops : Array Oper) : List Nat → Bool
  | i :: j :: rest => decide (i < j) && (match ops[j]? with | some oj => waitsF md ops oj i | none => false) && chainB md ops (j :: rest)
  | _ => true
theorem chainB_sorted : ∀ (es : List Nat) (i : Nat), chainB md ops (i :: es) = true → ∀ j ∈ es, i < j
  | [], _, _, _, hj => by cases hj
  | k :: es, i, h, j, hj => by
    simp only [chainB, Bool.and_eq_true, decide_eq_true_eq] at h
    rcases List.mem_cons.1 hj with rfl | hj
    · exact h.1.1
    · exact Nat.lt_trans h.1.1 (chainB_sorted es k h.2 j hj)
theorem chainB_next : ∀ (es : List Nat), chainB md ops es = true → ∀ j oj, ops[j]? = some oj → j ∈ es → ∀ i, i ∈ es → i < j → (∀ k, i < k → k < j → k ∉ es) →
    ∀ listed : Array Bool, Closed md ops listed → (∀ e ∈ oj.after, Region.binds md e = true → listed.getD e.on false = true) → listed.getD i false = true
  | [], _, _, _, _, hj, _, _, _, _ => by cases hj
  | [x], _, j, _, _, hj, i, hi, hij, _ => by
    have h1 : j = x := by simpa using hj
    have h2 : i = x := by simpa using hi
    omega
  | x :: y :: es, h, j, oj, hoj, hj, i, hi, hij, hbt => by
    have hs := chainB_sorted _ _ h
    simp only [chainB, Bool.and_eq_true, decide_eq_true_eq] at h
    have hs2 := chainB_sorted _ _ h.2
    by_cases hx : i = x
    · subst hx
      have hy : y = j := by
        rcases List.mem_cons.1 hj with rfl | hj'
        · omega
        · rcases List.mem_cons.1 hj' with rfl | hj''
          · rfl
          · exact absurd (by simp) (hbt y h.1.1 (hs2 j hj''))
      subst hy
      have := h.1.2
      rw [hoj] at this
      exact waitsF_spec this
    · have hi' : i ∈ y :: es := (List.mem_cons.1 hi).resolve_left hx
      have hj' : j ∈ y :: es := (List.mem_cons.1 hj).resolve_left (fun e => by have := hs i hi'; omega)
      exact chainB_next (y :: es) h.2 j oj hoj hj' i hi' hij (fun k h1 h2 hm => hbt k h1 h2 (List.mem_cons_of_mem _ hm))
theorem chainB_spec {es : List Nat} (h : chainB md ops es = true) : Chain md ops (qfOf es) := by
  intro j oj hqj hj i hij hqi hbt
  have mem : ∀ k, qfOf es k = false ↔ k ∈ es := fun k => by simp [qfOf]
  refine chainB_next es h j oj hj ((mem j).1 hqj) i ((mem i).1 hqi) hij (fun k h1 h2 hm => ?_)
  have := hbt k h1 h2
  rw [(mem k).2 hm] at this
  cases this

/-- Number i, next in the text: whatever has not come up either waits for it or is apart from it; behind an effect that is asked of quiet ones alone. -/
def freeE (md : Region.Mode) (ops : Array Oper) (qf : Nat → Bool) (listed : Array Bool) (i : Nat) : Bool :=
  match ops[i]? with
  | none => false
  | some oi => (List.range ops.size).all fun j => j == i || listed.getD j true || (!qf i && !qf j) || match ops[j]? with
      | some oj => waitsB md oj i || oi.apart ops oj
      | none => true
theorem freeE_spec {i : Nat} {oi : Oper} {listed : Array Bool} (hi : ops[i]? = some oi) (h : freeE md ops qf listed i = true) (j : Nat) (oj : Oper)
    (hj : ops[j]? = some oj) (hne : j ≠ i) (hq : qf i = true ∨ qf j = true) (hun : listed.getD j true = false) (hno : ∀ e ∈ oj.after, Region.binds md e = true → e.on ≠ i) :
    oi.apart ops oj = true := by
  simp only [freeE, hi, List.all_eq_true, List.mem_range] at h
  have h1 := h j (Array.getElem?_eq_some_iff.1 hj).1
  have hqq : (!qf i && !qf j) = false := by rcases hq with h | h <;> simp [h]
  simp only [hj, Bool.or_eq_true, beq_iff_eq, hne, false_or, hun, Bool.false_eq_true, hqq] at h1
  rcases h1 with h1 | h1
  · obtain ⟨e, he, hb, heq⟩ := waitsB_spec h1
    exact absurd heq (hno e he hb)
  · exact h1
def lexFromE (md : Region.Mode) (ops : Array Oper) (qf : Nat → Bool) : Nat → Nat → Array Bool → Bool
  | 0, _, listed => (Region.ready md ops listed).isEmpty
  | fuel + 1, k, listed => (Region.ready md ops listed).contains k && freeE md ops qf listed k && lexFromE md ops qf fuel (k + 1) (listed.setIfInBounds k true)
def lexE (ops : Array Oper) (es ls : List Nat) : Bool := Region.noSelect ops && (ls.all (lastB .any ops) && chainB .any ops es) && lexFromE .any ops (qfOf es) ops.size 0 (Array.replicate ops.size false)

theorem mix_lex (hs : Region.noSelect ops = true) (hl : LastIs md ops lst) (hc : Chain md ops qf) : ∀ (l : List Oper) (k : Nat) (listed : Array Bool) (a : Act) (w : World), (∀ j, l[j]? = ops[k + j]?) →
    lexFromE md ops qf l.length k listed = true → listed.size = ops.size → Closed md ops listed → (∀ m, m < k → listed.getD m true = true) → (S w ∨ l = []) →
    wpLex P ops Q S qf lst l k a w → wpMix P md ops Q S qf lst l.length listed a w
  | [], _, _, _, _, _, hB, _, _, _, _, h => ⟨by simpa [lexFromE] using hB, h⟩
  | o :: l, k, listed, a, w, hops, hB, hsz, hcl, hbef, hS, h => by
    have h0 : ops[k]? = some o := by simpa using (hops 0).symm
    simp only [List.length_cons, lexFromE, Bool.and_eq_true] at hB
    obtain ⟨⟨hr, hf⟩, hB'⟩ := hB
    have hr' : k ∈ Region.ready md ops listed := by simpa using hr
    have hops' : ∀ j, l[j]? = ops[k + 1 + j]? := fun j => by have := hops (j + 1); simpa [Nat.add_assoc, Nat.add_comm 1 j] using this
    have hsz' : (listed.setIfInBounds k true).size = ops.size := by rw [Array.size_setIfInBounds, hsz]
    have hkl : k < listed.size := by rw [hsz]; exact (Array.getElem?_eq_some_iff.1 h0).1
    have hbef' : ∀ m, m < k + 1 → (listed.setIfInBounds k true).getD m true = true := fun m hm => by
      by_cases hkm : k = m
      · subst hkm; simp [hkl]
      · rw [getD_set_ne true hkm]; exact hbef m (by omega)
    have hSw : S w := hS.resolve_right (by simp)
    unfold wpLex at h
    cases hq : qf k with
    | true =>
      rw [if_pos hq] at h
      obtain ⟨v, hy, hK⟩ := h
      exact mix_first_quiet h0 (Region.noSelect_spec hs) hl hq l.length listed a w hsz (fun j oj hj hne hun hno => freeE_spec h0 hf j oj hj hne (.inl hq) hun hno) hr' hy
        (mix_lex hs hl hc l (k + 1) _ _ w hops' hB' hsz' (hcl.add hr') hbef' (.inl hSw) hK)
    | false =>
      rw [if_neg (by rw [hq]; simp)] at h
      refine mix_first_effect h0 (Region.noSelect_spec hs) hl hc hq l.length listed a w hsz hcl hbef (fun j oj hj hne hqj hun hno => freeE_spec h0 hf j oj hj hne (.inr hqj) hun hno) hr' hSw ?_
      have step : ∀ a' w', ((lst k = false → S w') ∧ wpLex P ops Q S qf lst l (k + 1) a' w') → ((lst k = false → S w') ∧ wpMix P md ops Q S qf lst l.length (listed.setIfInBounds k true) a' w') := fun a' w' ⟨h1, h2⟩ =>
        ⟨h1, mix_lex hs hl hc l (k + 1) _ _ w' hops' hB' hsz' (hcl.add hr') hbef' (by
          cases hlk : lst k with
          | false => exact .inl (h1 hlk)
          | true =>
            right
            refine List.eq_nil_iff_forall_not_mem.2 fun x hx => ?_
            obtain ⟨j, hj, hjx⟩ := List.getElem_of_mem hx
            have hoj : ops[k + 1 + j]? = some x := by rw [← hops' j, List.getElem?_eq_getElem hj, hjx]
            obtain ⟨_, o', ho', hall⟩ := mem_ready.1 hr'
            obtain rfl : o = o' := by rw [h0] at ho'; exact Option.some.inj ho'
            have h3 := hl k o hlk h0 listed hcl hall (k + 1 + j) (Array.getElem?_eq_some_iff.1 hoj).1 (by omega)
            -- an operation behind k in the text has not come up yet: it is waited for by nobody that has
            exact absurd h3 (by
              intro h3
              have hlt : k + 1 + j < listed.size := by rw [hsz]; exact (Array.getElem?_eq_some_iff.1 hoj).1
              have hB2 := hB'
              clear hB'
              exact lex_unlisted (listed := listed.setIfInBounds k true) l.length (k + 1) hB2 j hj (by rw [getD_set_true h3]))) h2⟩
      unfold wpOp
      simp only [h0]
      split
      · rename_i hw
        rw [if_pos hw] at h
        exact .inl (Oper.wp_mono step h)
      · rename_i hw
        rw [if_neg hw] at h
        refine step _ _ ⟨fun _ => hSw, h⟩
where
  lex_unlisted {md : Region.Mode} {ops : Array Oper} {qf : Nat → Bool} : ∀ {listed : Array Bool} (n k : Nat), lexFromE md ops qf n k listed = true → ∀ j, j < n → listed.getD (k + j) false = true → False
    | listed, 0, _, _, j, hj, _ => by omega
    | listed, n + 1, k, h, j, hj, hl => by
      simp only [lexFromE, Bool.and_eq_true] at h
      obtain ⟨⟨hr, _⟩, hB⟩ := h
      rcases j with _ | j
      · have h0 := (mem_ready.1 (show k ∈ Region.ready md ops listed by simpa using hr)).1
        rcases Nat.lt_or_ge k listed.size with h' | h'
        · simp [h'] at h0 hl; rw [h0] at hl; cases hl
        · simp [Array.getElem?_eq_none h'] at hl
      · exact lex_unlisted n (k + 1) hB j (by omega) (by rw [show k + 1 + j = k + (j + 1) from by omega]; exact getD_set_true hl)

/-- **A region that draws, walked once.** es: the effects, by their numbers. -/
theorem wp_region_lex {id : Nat} {a : Act} {w : World} {l : List Oper} (es ls : List Nat) (S : World → Prop) (hm : P.follows .mixedOrders = true) (hB : lexE l.toArray es ls = true) (hS : S w.drew)
    (h : wpLex P l.toArray Q S (qfOf es) (lsOf ls) l 0 a w.drew) : (Code.region id l.toArray true).wp P Q a w := by
  simp only [lexE, Bool.and_eq_true] at hB
  obtain ⟨⟨h1, h4, h2⟩, h3⟩ := hB
  have hm' := mix_lex (md := .any) h1 (lsOf_spec h4) (chainB_spec h2) l 0 (Array.replicate l.toArray.size false) a w.drew (by simp) (by simpa using h3) (by simp)
    (fun j oj hj hl => by simp [Array.getElem?_replicate] at hl; split at hl <;> simp at hl) (fun m hm => by omega) (.inl hS) h
  exact wp_region_any hm (any_of_mix (lsOf_spec h4) _ _ _ _ (by simp) (fun j oj hj hl => by simp [Array.getElem?_replicate] at hl; split at hl <;> simp at hl) (.inl hS) (by simpa using hm'))

/-! ### The steps -/
variable {rest : List Oper} {o : Oper} {k : Nat} {a : Act} {w : World}
theorem lex_nil (h : Q .normal a w) : wpLex P ops Q S qf lst [] k a w := h
/-- A quiet operation that is wanted. -/
theorem lex_q (v : Value) (hq : qf k = true) (hw : Region.wanted o (yielded ops a.tmps) = true) (h : ∀ W, S W → (execOp a.eval o).run P W = .ok (.value v) W)
    (hk : wpLex P ops Q S qf lst rest (k + 1) (a.put o.dst v) w) : wpLex P ops Q S qf lst (o :: rest) k a w := by
  unfold wpLex
  rw [if_pos hq]
  exact ⟨v, .inl ⟨hw, h⟩, hk⟩
/-- An effect. -/
theorem lex_e (hq : qf k = false) (hw : Region.wanted o (yielded ops a.tmps) = true) (h : ∀ K : Act → World → Prop, (∀ a' w', (lst k = false → S w') ∧ wpLex P ops Q S qf lst rest (k + 1) a' w' → K a' w') → o.wp P a w K (Qn Q)) :
    wpLex P ops Q S qf lst (o :: rest) k a w := by
  unfold wpLex
  rw [if_neg (by rw [hq]; simp), if_pos hw]
  exact h _ fun _ _ h1 => h1
/-- The operations that yield a value whatever they do. -/
def plainOp : Op → Bool
  | .store .. | .ready _ | .mapUpdate .. | .insert .. | .entryStore .. | .go _ | .defer _ | .send .. | .recv .. | .select .. => false
  | .call { callee := .builtin .len, .. } => true
  | .call { callee := .builtin .cap, .. } => true
  | .call _ => false
  | _ => true
theorem run_vg {α : Type} {s : Sem α} {g : α → Value} {n : Next} {w w' : World} (h : (s >>= fun x => pure (Next.value (g x))).run P w = .ok n w') : ∃ x, n = .value x := by
  rw [Sem.run_bind] at h
  cases hs : s.run P w with
  | ok x w1 => rw [hs] at h; simp only [Result.andThen_ok, Sem.run_pure] at h; cases h; exact ⟨_, rfl⟩
  | halt x w1 => rw [hs] at h; cases h
theorem andThen_v {r : Result Value} {n : Next} {w' : World} (h : (r.andThen fun a w' => Result.ok (Next.value a) w') = .ok n w') : ∃ x, n = .value x := by
  cases r with
  | ok x w1 => simp only [Result.andThen_ok] at h; cases h; exact ⟨x, rfl⟩
  | halt x w1 => cases h
theorem run_pv {x : Value} {n : Next} {w w' : World} (h : (pure (Next.value x) : Sem Next).run P w = .ok n w') : ∃ x, n = .value x := by
  simp only [Sem.run_pure] at h; cases h; exact ⟨_, rfl⟩
theorem run_plain {o : Oper} {ρ : Operand → Value} {n : Next} {w w' : World} (hp : plainOp o.op = true) (h : (execOp ρ o).run P w = .ok n w') : ∃ x, n = .value x := by
  obtain ⟨dst, op, type, pos, after, guard⟩ := o
  simp only at hp
  unfold execOp at h
  cases op <;> first | (cases hp; done) | (exact run_vg (g := id) h) | (exact run_vg h) | (exact run_pv h) | skip
  case nilCheck x =>
    simp only at h
    split at h
    case h_1 => simp [runtimePanic] at h
    case h_2 => simp [runtimePanic] at h
    case h_3 => simp [runtimePanic] at h
    case h_4 =>
      split at h
      · simp [runtimePanic] at h
      · simp only [Sem.run_bind] at h
        cases hp1 : (program).run P w with
        | halt x w1 => rw [hp1] at h; cases h
        | ok p1 w1 =>
          rw [hp1] at h
          simp only [Result.andThen_ok] at h
          rename_i t v' _
          cases hp2 : (nilAhead (p1.types.size + Made.depth) t v' _).run P w1 with
          | halt x w2 => rw [hp2] at h; cases h
          | ok b w2 =>
            rw [hp2] at h
            simp only [Result.andThen_ok] at h
            split at h
            · simp [unsupported] at h
            · exact run_pv h
      · exact run_pv h
    case h_5 => exact run_pv h
  case call c =>
    obtain ⟨callee, args, argTypes⟩ := c
    cases callee with
    | value f => cases hp
    | invoke r m => cases hp
    | builtin b =>
      cases b <;> first | (cases hp; done) | skip
      all_goals
        simp only [resolve, Sem.run_bind, Sem.run_pure, Result.andThen_ok, invoke, builtin] at h
        exact andThen_v h

/-- 'wp_region_lex', with the worlds of S as 'f u', u of some type: for the quiet steps of the library ('go_big_quiet_op'). -/
theorem wp_region_lexf {id : Nat} {a : Act} {w : World} {l : List Oper} (es ls : List Nat) (S : World → Prop) (hm : P.follows .mixedOrders = true) (hB : lexE l.toArray es ls = true) (hS : S w.drew)
    (h : ∀ (σ : Type) (_ : Nonempty σ) (f : σ → World) (_ : ∀ u, S (f u)) (_ : ∀ W, S W → ∃ u, W = f u), wpLex P l.toArray Q S (qfOf es) (lsOf ls) l 0 a w.drew) : (Code.region id l.toArray true).wp P Q a w :=
  wp_region_lex es ls S hm hB hS (h { W : World // S W } ⟨⟨_, hS⟩⟩ (fun u => u.1) (fun u => u.2) (fun W hW => ⟨⟨W, hW⟩, rfl⟩))

/-- A quiet operation, by the library's own quiet step. -/
theorem lex_qq {σ : Type} {f : σ → World} (hf : ∀ W, S W → ∃ u, W = f u) (hq : qf k = true) (hp : plainOp o.op = true) (hw : Region.wanted o (yielded ops a.tmps) = true)
    (h : ∀ K : Act → Prop, (∀ a', wpLex P ops Q S qf lst rest (k + 1) a' w → K a') → o.quiet P a (fun W => ∃ u, W = f u) K) : wpLex P ops Q S qf lst (o :: rest) k a w := by
  obtain ⟨v, hv, hK⟩ := h _ fun _ h => h
  have run : ∀ W, S W → (execOp a.eval o).run P W = .ok (.value v) W := fun W hW => by
    have h1 := hv W (hf W hW)
    unfold Oper.quietAt at h1
    cases hr : (execOp a.eval o).run P W with
    | halt x w1 => rw [hr] at h1; simp [Oper.quietUpon] at h1
    | ok n w1 =>
      obtain ⟨x, rfl⟩ := run_plain hp hr
      rw [hr] at h1
      simp only [Oper.quietUpon] at h1
      rw [h1.1, h1.2]
  exact lex_q v hq hw run hK
end
end
/- Arrays and structs read and written whole. -/
section
open Go.RowKit

section
variable {P : Program}

/-- The type is an array or a struct. -/
def aggB : TypeDesc → Bool
  | .struct _ => true
  | .array _ _ => true
  | _ => false
theorem run_isAgg {w : World} {ty : TypeId} {d : TypeDesc} (hu : P.underlying ty = some d) (hd : aggB d = true) : (isAgg ty).run P w = .ok true w := by
  unfold isAgg
  rw [Sem.run_bind, run_underlying hu w]
  cases d <;> simp_all [aggB]
theorem run_loadAt_agg (w : World) (ad : Addr) (ty : TypeId) (xs : List Value) (d : TypeDesc) (hc : ∀ j u, xs[j]? = some u → w.cell? (ad.add j) = some u)
    (hu : P.underlying ty = some d) (hd : aggB d = true) (hi : (P.info? ty).map (·.size) = some xs.length) :
    (Instr.loadAt ty (.pointer (some ad))).run P w = .ok (.agg xs.toArray) w := by
  have hl : (loadCells ad xs.length).run P w = .ok xs.toArray w := run_loadCells_list (P := P) w ad xs hc
  cases hq : P.info? ty with
  | none => simp [hq] at hi
  | some i =>
    have hs : i.size = xs.length := by simpa [hq] using hi
    simp [Instr.loadAt, Instr.sureAddr, loadVar, Sem.run_bind, run_isAgg hu hd, sizeOf, typeInfo, hq, hs, hl]
theorem exec_load {w : World} {ρ : Operand → Value} {o : Oper} {ty : TypeId} {x : Operand} {p v : Value} (ho : o.op = .load ty x) (hx : ρ x = p) (h : (Instr.loadAt ty p).run P w = .ok v w) :
    (execOp ρ o).run P w = .ok (.value v) w := by
  unfold execOp
  simp only [ho, hx, Sem.run_bind, h, Result.andThen_ok, Sem.run_pure]
theorem wpList_load_agg {ops : Array Oper} {rest : List Oper} {o : Oper} {a : Act} {w : World} {Q : Exit → Act → World → Prop} (hgd : o.guard = none) (ty : TypeId) (x : Operand) (ho : o.op = .load ty x) (ad : Addr) (hx : a.eval x = .pointer (some ad))
    (xs : List Value) (d : TypeDesc) (hc : ∀ j u, xs[j]? = some u → w.cell? (ad.add j) = some u) (hu : P.underlying ty = some d) (hd : aggB d = true) (hi : (P.info? ty).map (·.size) = some xs.length)
    (h : wpList P ops Q rest (a.put o.dst (.agg xs.toArray)) w) : wpList P ops Q (o :: rest) a w :=
  wpList_plain hgd fun K hK => by
    unfold Oper.wp
    rw [exec_load ho hx (run_loadAt_agg w ad ty xs d hc hu hd hi)]
    exact hK _ _ h

theorem run_storeAt_agg (w : World) (g off : Nat) (t ty : TypeId) (xs : Array Value) (cur : Array Value) (hb : Blk w g t cur) (hi : (P.info? ty).map (·.size) = some xs.size) (hfit : off + xs.size ≤ cur.size) (h1 : ∀ u, u ∈ xs.toList → u.oneCell' = true) :
    (Instr.storeAt ty (.pointer (some ⟨g, off, none⟩)) (.agg xs)).run P w = .ok () (w.setRow g (cur.toList.take off ++ xs.toList ++ cur.toList.drop (off + xs.size)).toArray) := by
  cases hq : P.info? ty with
  | none => simp [hq] at hi
  | some i =>
    have hs : i.size = xs.size := by simpa [hq] using hi
    have hst := run_storeCells_at P g off t xs.toList 0 cur w hb (by simpa using hfit) h1
    simp only [Nat.add_zero, Array.length_toList] at hst
    simp [Instr.storeAt, Instr.sureAddr, storeVar, Sem.run_bind, sizeOf, typeInfo, hq, hs, Value.cells, hst]
theorem exec_store {w w' : World} {ρ : Operand → Value} {o : Oper} {ty : TypeId} {x y : Operand} {p v : Value} (ho : o.op = .store ty x y) (hx : ρ x = p) (hy : ρ y = v) (h : (Instr.storeAt ty p v).run P w = .ok () w') :
    (execOp ρ o).run P w = .ok .skip w' := by
  unfold execOp
  simp only [ho, hx, hy, Sem.run_bind, h, Result.andThen_ok, Sem.run_pure]
theorem setRow_blk {w : World} {g : Nat} {t : TypeId} {cur cs : Array Value} (h : Blk w g t cur) : Blk (w.setRow g cs) g t cs ∧ Kp [g] w (w.setRow g cs) :=
  ⟨setRow_heap w g cur cs t (0, 0) h, ⟨rfl, rfl, rfl, by simp, fun k _ hk => setRow_other w g k cs (by simpa using hk)⟩⟩
theorem wpList_store_agg {ops : Array Oper} {rest : List Oper} {o : Oper} {a : Act} {w : World} {Q : Exit → Act → World → Prop} (hgd : o.guard = none) (ty : TypeId) (x y : Operand) (ho : o.op = .store ty x y) (g off : Nat) (hx : a.eval x = .pointer (some ⟨g, off, none⟩))
    (xs : Array Value) (hy : a.eval y = .agg xs) (t : TypeId) (cur : Array Value) (hb : Blk w g t cur) (hi : (P.info? ty).map (·.size) = some xs.size) (hfit : off + xs.size ≤ cur.size) (h1 : ∀ u, u ∈ xs.toList → u.oneCell' = true)
    (h : ∀ w', Blk w' g t (cur.toList.take off ++ xs.toList ++ cur.toList.drop (off + xs.size)).toArray → Kp [g] w w' → wpList P ops Q rest (a.put o.dst undef) w') : wpList P ops Q (o :: rest) a w :=
  wpList_plain hgd fun K hK => by
    unfold Oper.wp
    rw [exec_store ho hx hy (run_storeAt_agg w g off t ty xs cur hb hi hfit h1)]
    exact hK _ _ (h _ (setRow_blk hb).1 (setRow_blk hb).2)
/-- An append, as an effect of a region that draws its order. -/
theorem lex_app {Q : Exit → Act → World → Prop} {S : World → Prop} {qf lst : Nat → Bool} {k : Nat} {ops : Array Oper} {rest : List Oper} {o : Oper} {a : Act} {w : World} (hq : qf k = false) (hgd : Region.wanted o (yielded ops a.tmps) = true) (s x : Operand) (t : TypeId)
    (ho : o.op = .call { callee := .builtin .append, args := #[s, x], argTypes := #[t, t] })
    (e : TypeId) (i : TypeInfo) (z : Value) (size bytes : Nat) (ht : P.underlying t = some (.slice e)) (hi : P.info? e = some i) (hz : i.zero = some z)
    (hsize : i.size = size) (hby : i.bytes = bytes) (hzs : z.cells.size = size) (hsz : 0 < size)
    (v : Value) (n : Nat) (xs : List Value) (hs : a.eval s = v) (hown : Ow w e size v n xs)
    (y : Value) (m : Nat) (news : List Value) (hx : a.eval x = y) (hr : Rd w size y m news) (h1 : ∀ u ∈ news, u.oneCell' = true)
    (h63 : n + m ≤ maxLen) (hbytes : (n + m) * bytes ≤ 140737488355328)
    (h : ∀ v' w', Ow w' e size v' (n + m) (xs ++ news) → w.grownBy w' v.ownBlock → (v'.ownBlock = v.ownBlock ∨ v'.ownBlock = some w.heap.size) → (lst k = false → S w') ∧ wpLex P ops Q S qf lst rest (k + 1) (a.put o.dst v') w') : wpLex P ops Q S qf lst (o :: rest) k a w :=
  lex_e hq hgd fun K hK => by
    obtain ⟨v', w', hrun, h2, h3, h4⟩ := run_app (P := P) w t o.type e i z size bytes ht hi hz hsize hby hzs hsz v n xs hown y m news hr h1 h63 hbytes
    unfold Oper.wp execOp
    simp only [ho, resolve, invoke, builtin, Sem.run_bind, Sem.run_pure, Result.andThen_ok, List.map_toArray, List.map_cons, List.map_nil, hs, hx, hrun]
    exact hK _ _ (h v' w' h2 h3 h4)
end
end
/- Arrays of bytes, whole; results that lie in memory; arrays of bytes held against one another. -/
section
open Go.RowKit

theorem Blk.agg {w : World} {g : Nat} {t : TypeId} {cs : Array Value} (h : Blk w g t cs) : ∀ j u, cs.toList[j]? = some u → w.cell? ((⟨g, 0, none⟩ : Addr).add j) = some u := by
  intro j u hu
  have := h.cell j
  rw [Array.getElem?_toList] at hu
  rw [hu] at this
  by_cases hj : j = 0
  · subst hj; simpa [Addr.add] using this
  · simpa [Addr.add, hj] using this
theorem set_all (cur cs : Array Value) (h : cur.size = cs.size) : (cur.toList.take 0 ++ cs.toList ++ cur.toList.drop (0 + cs.size)).toArray = cs := by
  rw [List.drop_eq_nil_of_le (by rw [Array.length_toList]; omega)]
  simp

/-- A load, by what it comes to. -/
theorem wpList_load_run {P : Program} {ops : Array Oper} {rest : List Oper} {o : Oper} {a : Act} {w : World} {Q : Exit → Act → World → Prop} (hgd : Region.wanted o (yielded ops a.tmps) = true) (ty : TypeId) (x : Operand) (ho : o.op = .load ty x) (p : Value) (hx : a.eval x = p)
    (v : Value) (hrun : (Instr.loadAt ty p).run P w = .ok v w) (h : wpList P ops Q rest (a.put o.dst v) w) : wpList P ops Q (o :: rest) a w := by
  refine wpList_step fun K hK => ?_
  rw [if_pos hgd]
  unfold Oper.wp
  rw [exec_load ho hx hrun]
  exact hK _ _ h
section
variable {P : Program} (w : World)
end
end
/- What many texts need: slices of bytes that read, rows, small numbers. -/
section
open Go.RowKit

theorem ow_new (w : World) (e : TypeId) (s n : Nat) (cs : Array Value) (h : cs.size = n * s) (hn : n ≤ maxLen) : Ow (w.alloc (.cells cs e)) e s (.slice (some ⟨w.heap.size, 0, none⟩) n n) n cs.toList :=
  ⟨by simpa using h, .inr ⟨w.heap.size, n, cs, rfl, Nat.zero_le _, heap_alloc_new w _, Nat.le_refl _, hn, h, by rw [← h, ← Array.length_toList, List.take_length]⟩⟩
theorem eq_nil_bytes (w : World) (a : Option Addr) (n c : Nat) : (binOp .eql 22 (.slice a n c) (.slice none 0 0)).run Try.prog w = .ok (.bool a.isNone) w :=
  Lib.run_eql_slice_nil (P := Try.prog) w 22 5 a n c 0 0 Try.underlying22
attribute [go_sem] eq_nil_bytes
theorem Try.infoU8 : (Try.prog.info? 5).map (fun i => (i.zero, i.size, i.bytes)) = some (some (.int .u8 0), 1, 1) := by kernel_rfl
/-- A short row, written out. -/
theorem rd_lit (w : World) (e : TypeId) (cs : Array Value) (l : List UInt8) (h : cs.toList = bv l) (hn : l.length ≤ 4096) : Rd (w.alloc (.cells cs e)) 1 (.slice (some ⟨w.heap.size, 0, none⟩) l.length l.length) l.length (bv l) := by
  have := ow_new w e 1 l.length cs (by rw [← Array.length_toList, h, bv_length]; simp) (by unfold maxLen; omega)
  rw [h] at this
  exact Rd.of_own this
theorem strB {w : World} {x : Value} {bs : List UInt8} {n : Nat} (h : Rd w 1 x n (bv bs)) : (convert 22 9 x).run Try.prog w = .ok (.string ⟨bs.toArray⟩) w :=
  run_str 22 9 5 Try.underlying22 Try.underlying5 Try.underlying9 h
theorem rd_form {w : World} {s : Nat} {x : Value} {n : Nat} {xs : List Value} (h : Rd w s x n xs) : ∃ A c, x = .slice A n c := by
  obtain ⟨_, A, c, rfl, _⟩ := h; exact ⟨A, c, rfl⟩
/-- A slice reads as it did; an empty one in any case. -/
theorem Rd.kpl {S : List Nat} {w w' : World} {s n : Nat} {v : Value} {xs : List Value} (h : Rd w s v n xs) (hk : Kp S w w') (hn : ∀ g, v.ownBlock = some g → xs ≠ [] → g ∉ S) : Rd w' s v n xs := by
  by_cases hx : xs = []
  · subst hx
    obtain ⟨h1, A, c, h2, h3, h4, h5, _⟩ := h
    exact ⟨h1, A, c, h2, h3, h4, h5, fun _ _ j u hu => by simp at hu⟩
  · exact h.kp hk (fun g hg => hn g hg hx)
theorem bv_ne {b : List UInt8} (h : bv b ≠ []) : b ≠ [] := fun e => h (by rw [e]; rfl)
theorem ow_some {w : World} {e : TypeId} {s n : Nat} {v : Value} {xs : List Value} (h : Ow w e s v n xs) (hn : 0 < n) : ∃ g c, v = .slice (some ⟨g, 0, none⟩) n c ∧ n ≤ c ∧ c ≤ maxLen := by
  rcases h.2 with ⟨_, h0⟩ | ⟨g, cap, cur, rfl, _, _, hnc, hcm, _⟩
  · omega
  · exact ⟨g, cap, rfl, hnc, hcm⟩
theorem rd_old {w w' : World} {s n : Nat} {v : Value} {xs : List Value} (h : Rd w s v n xs) (hk : Kp [] w w') : Rd w' s v n xs := h.kp hk (by simp)
/-- A row of the list is grown. -/
theorem Held.grow {w0 w w' : World} {l1 l2 : List Res} {e : TypeId} {s n n' : Nat} {v v' : Value} {xs xs' : List Value} (h : Held w0 w (l1 ++ rowR e s v n xs :: l2)) (ho : Ow w' e s v' n' xs') (hg : w.grownBy w' v.ownBlock) (hv : v'.ownBlock = v.ownBlock ∨ v'.ownBlock = some w.heap.size) :
    Held w0 w' (l1 ++ rowR e s v' n' xs' :: l2) :=
  h.turnAt (rowR e s v' n' xs') (Kp.of_grown hg) ho (fun b hb => by
    rcases hv with e | e
    · exact .inl (by simpa [rowR, e] using hb)
    · simp only [rowR, e, Option.toList_some, List.mem_singleton] at hb; exact .inr (by omega))
/-- A cell of a block of the list is set. -/
theorem Held.set {w0 w : World} {l1 l2 : List Res} {g : Nat} {t : TypeId} {cs : Array Value} (h : Held w0 w (l1 ++ blkR g t cs :: l2)) (i : Nat) (u : Value) : Held w0 (w.setCell ⟨g, i, none⟩ u) (l1 ++ blkR g t (cs.setIfInBounds i u) :: l2) :=
  h.turnAt (blkR g t (cs.setIfInBounds i u)) ((Kp.refl [g] w).setCell (.inl (by simp)) u) (h.at_.set_ i u) (fun _ hb => .inl hb)
theorem Held.rowset {w0 w w' : World} {l1 l2 : List Res} {e : TypeId} {s n : Nat} {v : Value} {xs xs' : List Value} (h : Held w0 w (l1 ++ rowR e s v n xs :: l2)) (ho : Ow w' e s v n xs') (hk : Kp v.ownBlock.toList w w') : Held w0 w' (l1 ++ rowR e s v n xs' :: l2) :=
  h.turnAt (rowR e s v n xs') hk ho (fun _ hb => .inl hb)
theorem Held.rownew {w0 w w' : World} {L : List Res} {e : TypeId} {s n : Nat} {v : Value} {xs : List Value} (h : Held w0 w L) (ho : Ow w' e s v n xs) (hk : Kp [] w w') (hf : ∀ g, v.ownBlock = some g → w.heap.size ≤ g) : Held w0 w' (rowR e s v n xs :: L) :=
  h.new _ hk ho (fun b hb => hf b (by simpa [rowR] using hb))
/-- What reads as cells lies in a block that is there. -/
theorem rd_lt {w : World} {s n g : Nat} {v : Value} {xs : List Value} (h : Rd w s v n xs) (hg : v.ownBlock = some g) (hne : xs ≠ []) : g < w.heap.size := by
  obtain ⟨_, A, c, rfl, _, _, _, h4⟩ := h
  cases A with
  | none => simp [Value.ownBlock] at hg
  | some ad =>
    simp [Value.ownBlock] at hg
    obtain ⟨x, xs', rfl⟩ := List.exists_cons_of_ne_nil hne
    have := cell_lt (h4 ad rfl 0 x rfl)
    rw [block_of_add, hg] at this
    exact this
theorem i64_lit {z : Int} (h : (Lit.int .i64 z).wf = true) : -9223372036854775808 ≤ z ∧ z ≤ 9223372036854775807 := by simpa [Lit.wf, IntKind.min, IntKind.max, IntKind.signed, IntKind.bits] using h
theorem at_of_cut {cs : List Value} {i : Nat} {v : Value} (h : (cs.drop i).take 1 = [v]) : cs[i]? = some v := by
  have h0 : ((cs.drop i).take 1)[0]? = some v := by rw [h]; rfl
  rw [List.getElem?_take] at h0
  simpa using h0
theorem Try.cellsU8 : Try.prog.cellsOf 5 = 1 := by kernel_rfl
end
/- Walks of package crc: moves; bytes gone through; sums. -/
section
open Go.RowKit

/-- The cells of moves. -/
def movA (L : List Nat) : Array Value := (L.map fun n : Nat => Value.int .u32 (n : Int)).toArray
theorem movA_size (L : List Nat) : (movA L).size = L.length := by simp [movA]
theorem movA_get (L : List Nat) (i : Nat) (h : i < L.length) : (movA L)[i]? = some (.int .u32 (L[i] : Int)) := by simp [movA, h]
/-- Moves: 32 numbers of 32 bits. -/
def Mov (L : List Nat) : Prop := L.length = 32 ∧ ∀ i, (h : i < L.length) → L[i] < 4294967296
theorem matOf_length (f : Nat → Nat) : (matOf f).length = 32 := by simp [matOf]
theorem matOf_mov {f : Nat → Nat} (hf : ∀ x, x < 4294967296 → f x < 4294967296) : Mov (matOf f) := ⟨matOf_length f, fun i h => by
  rw [matOf_length] at h
  simp only [matOf, List.getElem_map, List.getElem_range]
  exact hf _ (Nat.pow_lt_pow_right (by omega) h)⟩
theorem ofL_zero (L : List Nat) : ofL L 0 = 0 := by
  induction L with
  | nil => rfl
  | cons m ms ih => rw [ofL, ih]; simp
theorem ofL_drop (L : List Nat) (k x : Nat) (h : k < L.length) : ofL (L.drop k) x = (x % 2 * L[k]) ^^^ ofL (L.drop (k + 1)) (x / 2) := by
  rw [List.drop_eq_getElem_cons h]; rfl
/-- One bit. -/
theorem of_step {L : List Nat} {x y t k : Nat} (hk : k < L.length) (h : y ^^^ ofL (L.drop k) (x / 2 ^ k) = t) : (y ^^^ (x / 2 ^ k % 2 * L[k])) ^^^ ofL (L.drop (k + 1)) (x / 2 ^ (k + 1)) = t := by
  rw [ofL_drop L k _ hk, ← Nat.xor_assoc] at h
  rw [← h, Nat.pow_succ, Nat.div_div_eq_div_mul]
theorem div_pow_lt {x k : Nat} (h : x < 4294967296) (h0 : x / 2 ^ k ≠ 0) : k < 32 := by
  rcases Nat.lt_or_ge k 32 with hk | hk
  · exact hk
  · exfalso
    apply h0
    apply Nat.div_eq_of_lt
    exact Nat.lt_of_lt_of_le h (Nat.pow_le_pow_right (n := 2) (by omega) hk)
set_option maxHeartbeats 800000 in
theorem of_any (g : Nat) (L : List Nat) (hL : Mov L) (x : Nat) (hx : x < 4294967296) (w : World) (hb : Blk w g 71 (movA L)) :
    Calls Try.prog 44 #[.pointer (some ⟨g, 0, none⟩), .int .u32 x] w fun e w' => e = .returned (.int .u32 (ofL L x)) ∧ w = w' := by
  have Hc := Lib.hid hb.cell
  have HL := Lib.hid hL
  clear hb hL
  go_enter Try.func44, Try.ntmps44
  go_wp2
  go_loop [1, 5, 6] (fun u v i => ∃ k y : Nat, k ≤ 32 ∧ i = .int .i64 k ∧ u = .int .u32 ((x / 2 ^ k : Nat) : Int) ∧ v = .int .u32 (y : Int) ∧ y < 4294967296 ∧ y ^^^ ofL (L.drop k) (x / 2 ^ k) = ofL L x) (fun _ _ i => 32 - (intOf i).toNat)
  case atStart => exact ⟨0, 0, by omega, rfl, by simp, rfl, by omega, by simp⟩
  case round =>
    obtain ⟨k, y, hk, rfl, rfl, rfl, hy, hrest⟩ := hrel
    have Hrest := Lib.hid hrest
    clear hrest
    by_cases h0 : x / 2 ^ k = 0
    · rw [h0]
      go_wp2
      go_ret
      have := Hrest.out
      rw [h0, ofL_zero, Nat.xor_zero] at this
      subst this
      exact ⟨rfl, rfl⟩
    · have hk32 := div_pow_lt hx h0
      have hkl : k < L.length := by rw [HL.out.1]; exact hk32
      have hc := Hc.out k
      rw [movA_get L k hkl] at hc
      have hmb := HL.out.2 k hkl
      have hst := of_step hkl Hrest.out
      have hlt : x / 2 ^ k < 4294967296 := Nat.lt_of_le_of_lt (Nat.div_le_self _ _) hx
      have hnx : x / 2 ^ (k + 1) = x / 2 ^ k / 2 := by rw [Nat.pow_succ, Nat.div_div_eq_div_mul]
      rw [hnx] at hst
      have Hnx := Lib.hid hnx
      clear hnx
      generalize L[k] = m at *
      generalize x / 2 ^ k = X at *
      have Hst := Lib.hid hst
      have Hx := Lib.hid (u32_xor_nat y m hy hmb)
      clear hst
      go_wp2
      · have c := and1 hlt _ (by assumption)
        have h1 : X % 2 = 1 := by have : (X : Int) % 2 = 1 := by simpa using c
                                  omega
        go_round
        case rel =>
          have h2 := Hst.out
          rw [h1, Nat.one_mul] at h2
          exact ⟨k + 1, y ^^^ m, by omega, by go_num, by rw [Hnx.out]; rfl, by rw [Hx.out], Nat.xor_lt_two_pow (n := 32) hy hmb, by rw [Hnx.out]; exact h2⟩
        case measure => simp [intOf]; omega
      · have c := and1 hlt _ (by assumption)
        have h1 : X % 2 = 0 := by have : ¬ (X : Int) % 2 = 1 := by simpa using c
                                  omega
        go_round
        case rel =>
          have h2 := Hst.out
          rw [h1, Nat.zero_mul, Nat.xor_zero] at h2
          exact ⟨k + 1, y, by omega, by go_num, by rw [Hnx.out]; rfl, rfl, hy, by rw [Hnx.out]; exact h2⟩
        case measure => simp [intOf]; omega

/-! ### Bytes -/
theorem xor_u8_lt {x : Nat} (b : UInt8) (h : x < 4294967296) : x ^^^ b.toNat < 4294967296 := Nat.xor_lt_two_pow (n := 32) h (u8_lt32 b)
theorem thru_take {x : Nat} {bs : List UInt8} {k : Nat} (h : k < bs.length) : thru x (bs.take (k + 1)) = eight (thru x (bs.take k) ^^^ bs[k].toNat) := by
  rw [List.take_succ_eq_append_getElem h, thru_snoc]
theorem rd_get {w : World} {v : Value} {n : Nat} {bs : List UInt8} (h : Rd w 1 v n (bv bs)) : ∃ A c, v = .slice A n c ∧ n = bs.length ∧ n ≤ maxLen ∧ (A = none → n = 0) ∧ ∀ ad, A = some ad → ∀ j (hj : j < bs.length), w.cell? (ad.add j) = some (.int .u8 (bs[j].toNat : Int)) := by
  obtain ⟨hl, A, c, rfl, h1, h2, h3, h4⟩ := h
  rw [bv_length] at hl
  exact ⟨A, c, rfl, by omega, by omega, fun h => (h3 h).1, fun ad had j hj => h4 ad had j _ (by rw [bv_get, List.getElem?_eq_getElem hj]; rfl)⟩
set_option maxHeartbeats 800000 in
theorem through_any (x : Nat) (hx : x < 4294967296) (v : Value) (n : Nat) (bs : List UInt8) (w : World) (hv : Rd w 1 v n (bv bs)) :
    Calls Try.prog 41 #[.int .u32 x, v] w fun e w' => e = .returned (.int .u32 (thru x bs)) ∧ w = w' := by
  obtain ⟨A, c, rfl, rfl, hn, hA, hc⟩ := rd_get hv
  have Hc := Lib.hid hc
  have HA := Lib.hid hA
  clear hc hA hv
  unfold maxLen at hn
  go_enter Try.func41, Try.ntmps41
  go_wp2
  go_loop [0, 6, 9] (fun u _ i => ∃ k : Nat, k ≤ bs.length ∧ i = .int .i64 k ∧ u = .int .u32 ((thru x (bs.take k) : Nat) : Int)) (fun _ _ i => bs.length - (intOf i).toNat)
  case atStart => exact ⟨0, by omega, rfl, by simp [thru]⟩
  case round =>
    obtain ⟨k, hk, rfl, rfl⟩ := hrel
    by_cases hlt : k < bs.length
    · obtain ⟨ad, rfl⟩ : ∃ ad, A = some ad := by
        cases A with
        | none => have := HA.out rfl; omega
        | some ad => exact ⟨ad, rfl⟩
      have hcell := Hc.out ad rfl k hlt
      have Ht := Lib.hid (thru_take (x := x) hlt)
      have hT : thru x (bs.take k) < 4294967296 := thru_lt _ hx
      have hY := xor_u8_lt bs[k] hT
      have hq := bs[k].toNat_lt
      generalize thru x (bs.take k) = T at *
      generalize bs[k].toNat = q at *
      have Hx := Lib.hid (u32_xor_nat T q hT (by omega))
      go_wp2
      rw [Hx.out]
      go_loop [0, 17] (fun u i => ∃ j : Nat, j ≤ 8 ∧ i = .int .i64 j ∧ u = .int .u32 ((itn stp j (T ^^^ q) : Nat) : Int)) (fun _ i => 8 - (intOf i).toNat)
      case atStart => exact ⟨0, by omega, rfl, rfl⟩
      case round =>
        obtain ⟨j, hj, rfl, rfl⟩ := hrel
        have hb : itn stp j (T ^^^ q) < 4294967296 := itn_stp_lt j hY
        by_cases hl8 : j < 8
        · go_wp2_with (go_at_call 50; refine (step_any _ hb _).mono ?_; rintro e w' ⟨rfl, rfl⟩)
          go_round
          case rel => exact ⟨j + 1, by omega, by go_num, by rw [itn_succ]⟩
          case measure => simp [intOf]; omega
        · obtain rfl : j = 8 := by omega
          go_wp2
          go_round
          case rel => exact ⟨k + 1, by omega, by go_num, by rw [Ht.out]; rfl⟩
          case measure => simp [intOf]; omega
    · obtain rfl : k = bs.length := by omega
      go_wp2
      go_ret
      exact ⟨rfl, rfl⟩
end
/- Walks of package crc, and of the reference: sums of texts. -/
section
open Go.RowKit

theorem u32_not (x : Nat) (h : x < 4294967296) : bits .xor .u32 IntKind.u32.max (x : Int) = (not32 x : Int) := by
  have h1 := u32_xor_nat 4294967295 x (by decide) h
  rw [Nat.xor_comm, ← not32_xor h] at h1
  exact h1
set_option maxHeartbeats 400000 in
theorem more_any (x : Nat) (hx : x < 4294967296) (v : Value) (n : Nat) (bs : List UInt8) (w : World) (hv : Rd w 1 v n (bv bs)) :
    Calls Try.prog 16 #[.int .u32 x, v] w fun e w' => e = .returned (.int .u32 (more x bs)) ∧ w = w' := by
  have e1 := u32_not x hx
  have hm : more x bs = not32 (thru (not32 x) bs) := rfl
  rw [hm]
  clear hm
  have hz := not32_lt x
  generalize not32 x = z at *
  have e2 := u32_not (thru z bs) (thru_lt bs hz)
  have H := Lib.hid (through_any z hz v n bs w hv)
  clear hv
  generalize thru z bs = t at *
  go_enter Try.func16, Try.ntmps16
  go_wp2_with (go_at_call 41; ((with_reducible refine H.out.mono ?_); rintro e w' ⟨rfl, rfl⟩))
  go_ret
  exact ⟨rfl, rfl⟩
set_option maxHeartbeats 800000 in
theorem rmore_any (x : Nat) (hx : x < 4294967296) (v : Value) (n : Nat) (bs : List UInt8) (w : World) (hv : Rd w 1 v n (bv bs)) :
    Calls Try.prog 17 #[.int .u32 x, v] w fun e w' => e = .returned (.int .u32 (more x bs)) ∧ w = w' := by
  obtain ⟨A, c, rfl, rfl, hn, hA, hc⟩ := rd_get hv
  have Hc := Lib.hid hc
  have HA := Lib.hid hA
  clear hc hA hv
  unfold maxLen at hn
  have e1 := u32_not x hx
  have hz := not32_lt x
  have e2 := Lib.hid (u32_not (thru (not32 x) bs) (thru_lt bs (not32_lt x)))
  have hm : more x bs = not32 (thru (not32 x) bs) := rfl
  rw [hm]
  clear hm
  generalize not32 x = z at *
  go_enter Try.func17, Try.ntmps17
  go_wp2
  clear e1
  go_loop [5, 6] (fun u i => ∃ k : Nat, k ≤ bs.length ∧ i = .int .i64 k ∧ u = .int .u32 ((thru z (bs.take k) : Nat) : Int)) (fun _ i => bs.length - (intOf i).toNat)
  case atStart => exact ⟨0, by omega, rfl, by simp [thru]⟩
  case round =>
    obtain ⟨k, hk, rfl, rfl⟩ := hrel
    by_cases hlt : k < bs.length
    · obtain ⟨ad, rfl⟩ : ∃ ad, A = some ad := by
        cases A with
        | none => have := HA.out rfl; omega
        | some ad => exact ⟨ad, rfl⟩
      have hcell := Hc.out ad rfl k hlt
      have Ht := Lib.hid (thru_take (x := z) hlt)
      have hT : thru z (bs.take k) < 4294967296 := thru_lt _ hz
      have hY := xor_u8_lt bs[k] hT
      have hq := bs[k].toNat_lt
      generalize thru z (bs.take k) = T at *
      generalize bs[k].toNat = q at *
      have Hx := u32_xor_nat T q hT (by omega)
      go_wp2_with (go_at_call 42; refine (Eight_any _ hY _).mono ?_; rintro e w' ⟨rfl, rfl⟩)
      go_round
      case rel => exact ⟨k + 1, by omega, by go_num, by rw [Ht.out]⟩
      case measure => simp [intOf]; omega
    · obtain rfl : k = bs.length := by omega
      have e3 := e2.out
      go_wp2
      go_ret
      exact ⟨rfl, rfl⟩
set_option maxHeartbeats 400000 in
theorem rsum_any (v : Value) (n : Nat) (bs : List UInt8) (w : World) (hv : Rd w 1 v n (bv bs)) :
    Calls Try.prog 15 #[v] w fun e w' => e = .returned (.int .u32 (crc bs)) ∧ w = w' := by
  have H := Lib.hid (rmore_any 0 (by decide) v n bs w hv)
  clear hv
  go_enter Try.func15, Try.ntmps15
  go_wp2_with (go_at_call 17; refine H.out.mono ?_; rintro e w' ⟨rfl, rfl⟩)
  go_ret
  exact ⟨rfl, rfl⟩
end
/- The reference for layer 2: products, and numbers carried. -/
section
open Go.RowKit

theorem div_pow_succ (N k : Nat) : N / 2 ^ (k + 1) = N / 2 ^ k / 2 := by rw [Nat.pow_succ, Nat.div_div_eq_div_mul]
end
/- Walks of package crc: moves made. -/
section
open Go.RowKit

theorem Try.infoMoves : (Try.prog.info? 71).map (·.size) = some 32 := by kernel_rfl
theorem results_cell1 {P : Program} {fn : Func} {w : World} {tmps : Array Value} {a t g : Nat} {t' : TypeId} {cs : Array Value} {d : TypeDesc} (h : fn.results = #[.cell a t]) (ha : tmps.getD a undef = .pointer (some ⟨g, 0, none⟩)) (hb : Blk w g t' cs)
    (hu : P.underlying t = some d) (hd : aggB d = true) (hi : (P.info? t).map (·.size) = some cs.size) : (results fn tmps).run P w = .ok (.agg cs) w := by
  have hl : (loadCells ⟨g, 0, none⟩ cs.size).run P w = .ok cs w := by
    have := run_loadCells_list (P := P) w ⟨g, 0, none⟩ cs.toList hb.agg
    simpa using this
  cases hq : P.info? t with
  | none => simp [hq] at hi
  | some i =>
    have hs : i.size = cs.size := by simpa [hq] using hi
    simp only [Array.getD_eq_getD_getElem?] at ha
    simp [results, h, ha, loadVar, asAddr, Sem.run_bind, run_isAgg hu hd, sizeOf, typeInfo, hq, hs, hl]
theorem movA_one (L : List Nat) : ∀ u ∈ (movA L).toList, u.oneCell' = true := by
  intro u hu
  simp only [movA, List.mem_map] at hu
  obtain ⟨_, _, rfl⟩ := hu
  rfl
/-- The first i of f's moves, x, and noughts. -/
def mpart (f : Nat → Nat) (i x : Nat) : Array Value := movA ((List.range i).map f ++ x :: List.replicate (31 - i) 0)
def mzero (f : Nat → Nat) (i : Nat) : Array Value := movA ((List.range i).map f ++ List.replicate (32 - i) 0)
theorem mzero_part (f : Nat → Nat) {i : Nat} (h : i < 32) : mzero f i = mpart f i 0 := by
  unfold mzero mpart
  rw [show 32 - i = (31 - i) + 1 from by omega, List.replicate_succ]
theorem mpart_next (f : Nat → Nat) (i : Nat) : mpart f i (f i) = mzero f (i + 1) := by
  unfold mzero mpart
  rw [List.range_succ, List.map_append, show 32 - (i + 1) = 31 - i from by omega, List.append_assoc]
  rfl
theorem mzero_all (f : Nat → Nat) : mzero f 32 = movA ((List.range 32).map f) := by unfold mzero; simp
theorem mzero_zero (f : Nat → Nat) : mzero f 0 = movA (List.replicate 32 0) := by unfold mzero; simp
theorem mpart_set (f : Nat → Nat) (i x y : Nat) : (mpart f i x).setIfInBounds i (.int .u32 (y : Int)) = mpart f i y := by
  unfold mpart movA
  apply Array.toList_inj.1
  rw [Array.toList_setIfInBounds]
  simp only [List.map_append, List.map_cons]
  rw [List.set_append_right _ _ (by simp)]
  simp
theorem mpart_get (f : Nat → Nat) (i x : Nat) : (mpart f i x)[i]? = some (.int .u32 (x : Int)) := by
  unfold mpart
  rw [movA_get _ i (by simp)]
  simp
/-- Two new blocks of noughts. -/
def movW (w : World) : World := (w.alloc (.cells (movA (List.replicate 32 0)) 71)).alloc (.cells (movA (List.replicate 32 0)) 71)
theorem movW_kp (w : World) : Kp [] w (movW w) := ((Kp.refl [] w).alloc _).alloc _
theorem movW_blks (w : World) : Blk (movW w) w.heap.size 71 (movA (List.replicate 32 0)) ∧ Blk (movW w) (w.heap.size + 1) 71 (movA (List.replicate 32 0)) := by
  refine ⟨(Blk.new _ _ _).alloc _, ?_⟩
  have := Blk.new (w.alloc (.cells (movA (List.replicate 32 0)) 71)) 71 (movA (List.replicate 32 0))
  simpa [movW] using this
/-- What stands while moves are made: the result's block, the moves' own. -/
structure Mk (w wr : World) (cs : Array Value) : Prop where
  k : Kp [] w wr
  b0 : Blk wr w.heap.size 71 (movA (List.replicate 32 0))
  b1 : Blk wr (w.heap.size + 1) 71 cs
theorem Mk.set {w wr : World} {f : Nat → Nat} {i x : Nat} (h : Mk w wr (mpart f i x)) (y : Nat) : Mk w (wr.setCell ⟨w.heap.size + 1, i, none⟩ (.int .u32 (y : Int))) (mpart f i y) := by
  refine ⟨h.k.setCell (.inr (by simp)) _, h.b0.far (by simp) _, ?_⟩
  have := h.b1.set_ i (.int .u32 (y : Int))
  rw [mpart_set f] at this
  exact this
theorem Mk.start (w : World) (f : Nat → Nat) : Mk w (movW w) (mzero f 0) := by rw [mzero_zero]; exact ⟨movW_kp w, (movW_blks w).1, (movW_blks w).2⟩
theorem range_map_mat (f : Nat → Nat) : (List.range 32).map (fun i => f (2 ^ i)) = matOf f := rfl
theorem pow_lt_32 {i : Nat} (h : i < 32) : 2 ^ i < 4294967296 := Nat.pow_lt_pow_right (n := 32) (by omega) h
theorem shl_one {i : Nat} (h : i < 32) : IntKind.u32.wrap ((2 : Int) ^ i) = ((2 ^ i : Nat) : Int) := by
  rw [IntKind.wrap_u32']
  have := pow_lt_32 h
  rw [show (2 : Int) ^ i = ((2 ^ i : Nat) : Int) from by rw [Int.natCast_pow]; rfl]
  generalize 2 ^ i = B at *
  omega

set_option maxRecDepth 100000 in
set_option maxHeartbeats 1000000 in
theorem byByte_any (w : World) :
    Calls Try.prog 43 #[] w fun e w' => e = .returned (.agg (movA (matOf eight))) ∧ Kp [] w w' := by
  go_enter Try.func43, Try.ntmps43
  go_wp2
  have M0 := Mk.start w (fun i => eight (2 ^ i))
  go_loopw [2, 3] (fun _ t wr => ∃ i : Nat, i ≤ 32 ∧ t = .int .i64 i ∧ Mk w wr (mzero (fun i => eight (2 ^ i)) i)) (fun _ t _ => 32 - (intOf t).toNat)
  case atStart => exact ⟨0, by omega, rfl, M0⟩
  case round =>
    obtain ⟨i, hi, rfl, M⟩ := hrel
    by_cases hlt : i < 32
    · rw [mzero_part _ hlt] at M
      have hc := M.b1.cell i
      rw [mpart_get] at hc
      have hf := M.b1.frozen i
      have hz := M.b1.lt
      have hp := shl_one hlt
      have hd : decide ((i : Int) < 32) = true := by simpa using (by omega : (i : Int) < 32)
      go_wp2
      go_loopw [10] (fun t wr => ∃ j : Nat, j ≤ 8 ∧ t = .int .i64 j ∧ Mk w wr (mpart (fun i => eight (2 ^ i)) i (itn stp j (2 ^ i)))) (fun t _ => 8 - (intOf t).toNat)
      case atStart =>
        refine ⟨0, by omega, rfl, ?_⟩
        have := M.set (2 ^ i)
        exact this
      case round =>
        obtain ⟨j, hj, rfl, M2⟩ := hrel
        clear hc hf hz hp M M0
        have hc := M2.b1.cell i
        rw [mpart_get] at hc
        have hf := M2.b1.frozen i
        have hz := M2.b1.lt
        have hb : itn stp j (2 ^ i) < 4294967296 := itn_stp_lt j (pow_lt_32 hlt)
        by_cases hl8 : j < 8
        · go_wp2_with (go_at_call 50; refine (step_any _ hb _).mono ?_; rintro e w' ⟨rfl, rfl⟩)
          go_roundw
          case rel =>
            have := M2.set (itn stp (j + 1) (2 ^ i))
            rw [itn_succ] at this
            exact ⟨j + 1, by omega, by go_num, by rw [itn_succ]; exact this⟩
          case measure => simp [intOf]; omega
        · obtain rfl : j = 8 := by omega
          go_wp2
          go_roundw
          case rel =>
            have : Mk w wr (mpart (fun i => eight (2 ^ i)) i (eight (2 ^ i))) := M2
            rw [mpart_next] at this
            exact ⟨i + 1, by omega, by go_num, this⟩
          case measure => simp [intOf]; omega
    · obtain rfl : i = 32 := by omega
      clear M0
      rw [mzero_all, range_map_mat] at M
      have h1c : ∀ u ∈ (movA (matOf eight)).toList, u.oneCell' = true := movA_one _
      have hsz : (movA (matOf eight)).size = 32 := by rw [movA_size, matOf_length]
      generalize hcs : movA (matOf eight) = cs at *
      have Hcs := Lib.hid hcs
      clear hcs
      have Hsz := Lib.hid hsz
      have M' := Lib.hid M
      clear hsz M
      go_wp2_with (first
        | (refine wpList_load_agg rfl 71 (.tmp 1) rfl ⟨w.heap.size + 1, 0, none⟩ rfl cs.toList _ M'.out.b1.agg Try.underlying71 rfl (by rw [Try.infoMoves, Array.length_toList, Hsz.out]) ?_)
        | (refine wpList_store_agg rfl 71 (.tmp 0) (.tmp 20) rfl w.heap.size 0 rfl cs rfl 71 _ M'.out.b0 (by rw [Try.infoMoves, Hsz.out]) (by rw [movA_size, Hsz.out]; decide) h1c ?_; intro w2 c2 k2))
      rw [set_all _ _ (by rw [movA_size, Hsz.out]; decide)] at c2
      exact bodyPost_ret (results_cell1 (by rfl) rfl c2 Try.underlying71 rfl (by rw [Try.infoMoves, Hsz.out])) rfl ⟨by rw [Hcs.out], M'.out.k.trans k2 (by simp)⟩

set_option maxRecDepth 100000 in
set_option maxHeartbeats 1000000 in
theorem twice_any (g : Nat) (L : List Nat) (hL : Mov L) (w : World) (hb : Blk w g 71 (movA L)) :
    Calls Try.prog 45 #[.pointer (some ⟨g, 0, none⟩)] w fun e w' => e = .returned (.agg (movA (sqM L))) ∧ Kp [] w w' := by
  have hgl := hb.lt
  have Hb0 := Lib.hid hb
  clear hb
  have hsq : (List.range 32).map (fun i => ofL L (L.getD i 0)) = sqM L := by
    unfold sqM
    apply List.ext_getElem
    · simp [hL.1]
    · intro i h1 h2
      simp at h1
      have : i < L.length := by rw [hL.1]; exact h1
      simp [this]
  have Hsq := Lib.hid hsq
  clear hsq
  go_enter Try.func45, Try.ntmps45
  go_wp2
  have M0 := Mk.start w (fun i => ofL L (L.getD i 0))
  go_loopw [4, 5] (fun _ t wr => ∃ i : Nat, i ≤ 32 ∧ t = .int .i64 i ∧ Mk w wr (mzero (fun i => ofL L (L.getD i 0)) i)) (fun _ t _ => 32 - (intOf t).toNat)
  case atStart => exact ⟨0, by omega, rfl, M0⟩
  case round =>
    clear M0
    obtain ⟨i, hi, rfl, M⟩ := hrel
    by_cases hlt : i < 32
    · rw [mzero_part _ hlt] at M
      have hb1 := Hb0.out.kp M.k (by simp)
      have hli : i < L.length := by rw [hL.1]; exact hlt
      have hg := hb1.cell i
      rw [movA_get L i hli] at hg
      have hc := M.b1.cell i
      rw [mpart_get] at hc
      have hf := M.b1.frozen i
      have hz := M.b1.lt
      have hm := hL.2 i hli
      have Hgd := Lib.hid (show L.getD i 0 = L[i] by simp [hli])
      generalize L[i] = m at *
      go_wp2_with (go_at_call 44; refine (of_any g L hL m hm _ hb1).mono ?_; rintro e w' ⟨rfl, rfl⟩)
      go_roundw
      case rel =>
        have := M.set (ofL L m)
        have h2 : mpart (fun i => ofL L (L.getD i 0)) i (ofL L m) = mzero (fun i => ofL L (L.getD i 0)) (i + 1) := by
          rw [← Hgd.out]; exact mpart_next _ i
        rw [h2] at this
        exact ⟨i + 1, by omega, by go_num, this⟩
      case measure => simp [intOf]; omega
    · obtain rfl : i = 32 := by omega
      rw [mzero_all, Hsq.out] at M
      have h1c : ∀ u ∈ (movA (sqM L)).toList, u.oneCell' = true := movA_one _
      have hsz : (movA (sqM L)).size = 32 := by rw [movA_size, sqM, List.length_map, hL.1]
      generalize hcs : movA (sqM L) = cs at *
      have Hcs := Lib.hid hcs
      clear hcs
      have Hsz := Lib.hid hsz
      have M' := Lib.hid M
      clear hsz M
      go_wp2_with (first
        | (refine wpList_load_agg rfl 71 (.tmp 3) rfl ⟨w.heap.size + 1, 0, none⟩ rfl cs.toList _ M'.out.b1.agg Try.underlying71 rfl (by rw [Try.infoMoves, Array.length_toList, Hsz.out]) ?_)
        | (refine wpList_store_agg rfl 71 (.tmp 2) (.tmp 18) rfl w.heap.size 0 rfl cs rfl 71 _ M'.out.b0 (by rw [Try.infoMoves, Hsz.out]) (by rw [movA_size, Hsz.out]; decide) h1c ?_; intro w2 c2 k2))
      rw [set_all _ _ (by rw [movA_size, Hsz.out]; decide)] at c2
      exact bodyPost_ret (results_cell1 (by rfl) rfl c2 Try.underlying71 rfl (by rw [Try.infoMoves, Hsz.out])) rfl ⟨by rw [Hcs.out], M'.out.k.trans k2 (by simp)⟩

/-! ### Moves held against one another -/
section
variable {P : Program} (w : World)
theorem run_eqItems_u32 (d : Nat) (e : TypeId) (he : P.underlying e = some (.int .u32)) (L M : List Nat) : ∀ is : List Nat, (∀ i ∈ is, i < L.length ∧ i < M.length) →
    (Op.eqItems (d + 1) e 1 (movA L) (movA M) is).run P w = .ok (is.all fun i => L[i]? == M[i]?) w
  | [], _ => by simp [Op.eqItems]
  | i :: is, h => by
    have h1 := h i (by simp)
    have ih := run_eqItems_u32 d e he L M is (fun j hj => h j (by simp [hj]))
    have hp : ∀ l : List Nat, (hi : i < l.length) → (part e (movA l) i).run P w = .ok (.int .u32 (l[i] : Int)) w := fun l hi => by
      have hag : (isAgg e).run P w = .ok false w := by
        unfold isAgg
        rw [Sem.run_bind, run_underlying he w]
        rfl
      simp [part, Sem.run_bind, hag, movA_get l i hi]
    simp only [Op.eqItems, Nat.mul_one, Sem.run_bind, hp L h1.1, hp M h1.2, Result.andThen_ok, run_equalIn_int (w := w) d e .u32 .u32 _ _ he]
    by_cases e1 : L[i] = M[i]
    · simp [e1, ih, h1.1, h1.2]
    · have : ((L[i] : Int) == (M[i] : Int)) = false := by
        rw [beq_eq_false_iff_ne]
        intro hh
        exact e1 (by omega)
      simp [this, e1, h1.1, h1.2]
/-- Moves are the same as themselves. -/
theorem run_eq_mov (d : Nat) (t e : TypeId) (i : TypeInfo) (hu : P.underlying t = some (.array 32 e)) (hi : P.info? e = some i) (hs : P.cellsOf e = 1) (he : P.underlying e = some (.int .u32)) (L : List Nat) (ha : L.length = 32) :
    (Op.equalIn (d + 2) t (.agg (movA L)) (.agg (movA L))).run P w = .ok true w := by
  rw [run_equalIn_array w (d + 1) _ _ hu hi, hs, run_eqItems_u32 w d e he L L _ (fun i hi => by simp at hi; omega)]
  congr 1
  rw [List.all_eq_true]
  simp
end
theorem Try.infoU32 : ∃ i, Try.prog.info? 23 = some i := by
  cases h : Try.prog.info? 23 with
  | none => exact absurd h (by intro h; have : (Try.prog.info? 23).isSome = true := by kernel_rfl
                               rw [h] at this; cases this)
  | some i => exact ⟨i, rfl⟩
theorem Try.cellsU32 : Try.prog.cellsOf 23 = 1 := by kernel_rfl
theorem eq_mov (w : World) (L : List Nat) (h : L.length = 32) : (Op.equalIn 10000 71 (.agg (movA L)) (.agg (movA L))).run Try.prog w = .ok true w := by
  obtain ⟨i, hi⟩ := Try.infoU32
  exact run_eq_mov (P := Try.prog) w 9998 71 23 i Try.underlying71 hi Try.cellsU32 Try.underlying23 L h
end
/- Walks of package crc: numbers carried. -/
section
open Go.RowKit

theorem i64_and1 (n : Int) : bits .and .i64 n 1 = n % 2 := by
  have h1 : (BitVec.ofInt 64 1).toNat = 2 ^ 1 - 1 := by decide
  have key : (BitVec.ofInt 64 n &&& BitVec.ofInt 64 1).toNat = (n % ((2 ^ 64 : Nat) : Int)).toNat % 2 ^ 1 := by
    rw [BitVec.toNat_and, BitVec.toNat_ofInt, h1, Nat.and_two_pow_sub_one_eq_mod]
  show IntKind.i64.wrap ((BitVec.ofInt 64 n &&& BitVec.ofInt 64 1).toNat : Nat) = n % 2
  rw [key, IntKind.wrap_i64]
  omega
theorem mat62 : matOf (far 62) = matOf eight := by
  rw [← far_mat, show (62 : Nat) = 31 + 31 from rfl, itn_add, far_mat, mat31, far_mat, mat31]
theorem mat_turn {k : Nat} (hk : k ≤ 63) (h0 : 0 < k) (h : k % 31 = 0) : matOf (far k) = matOf eight := by
  rcases (show k = 31 ∨ k = 62 by omega) with rfl | rfl
  · exact mat31
  · exact mat62
theorem far_mov (k : Nat) : Mov (matOf (far k)) := matOf_mov fun _ h => far_lt k h
theorem sq_far (k : Nat) : sqM (matOf (far k)) = matOf (far (k + 1)) := by
  rw [sqM_mat (far_lin k) (fun x hx => far_lt k hx)]
  congr 1
  funext x
  exact (far_succ k x).symm
theorem lt63 {N k : Nat} (hN : N ≤ 9223372036854775807) (h : N / 2 ^ k ≠ 0) : k < 63 := by
  rcases Nat.lt_or_ge k 63 with hk | hk
  · exact hk
  · exfalso
    apply h
    apply Nat.div_eq_of_lt
    have : 2 ^ 63 ≤ 2 ^ k := Nat.pow_le_pow_right (by omega) hk
    omega
/-- What stands in the loop. -/
structure Cy (w wr : World) (g5 g6 k : Nat) : Prop where
  kp : Kp [] w wr
  b5 : Blk wr g5 71 (movA (matOf eight))
  b6 : Blk wr g6 71 (movA (matOf (far k)))
  l5 : w.heap.size ≤ g5
  l6 : g5 < g6

theorem cy_next {w wr : World} {g5 g6 k : Nat} (h : Cy w wr g5 g6 k) (w4 w5 : World) (k4 : Kp [] wr w4) (k5 : Kp [g6] w4 w5)
    (c5 : Blk w5 g6 71 ((movA (matOf (far k))).toList.take 0 ++ (movA (matOf (far (k + 1)))).toList ++ (movA (matOf (far k))).toList.drop (0 + (movA (matOf (far (k + 1)))).size)).toArray) : Cy w w5 g5 g6 (k + 1) := by
  have l6 := h.l6
  have l5 := h.l5
  refine ⟨(h.kp.trans k4 (by simp)).trans k5 (fun g hg => .inr (by simp at hg; omega)), (h.b5.kp k4 (by simp)).kp k5 (by simp; omega), ?_, l5, l6⟩
  rw [set_all _ _ (by rw [movA_size, movA_size, matOf_length, matOf_length])] at c5
  exact c5
set_option maxRecDepth 100000 in
set_option maxHeartbeats 2000000 in
theorem carry_any (x : Nat) (hx : x < 4294967296) (n : Int) (hn : n ≤ 9223372036854775807) (w : World) :
    Calls Try.prog 19 #[.int .u32 x, .int .i64 n] w fun e w' => e = .returned (.int .u32 (carry x n.toNat)) ∧ Kp [] w w' := by
  have Hone := Lib.hid (movA_one (matOf eight))
  have Hsz : Hid ((movA (matOf eight)).size = 32) := Lib.hid (by rw [movA_size, matOf_length])
  have Hby := Lib.hid (byByte_any w)
  have Hdef := Lib.hid (show movA (matOf eight) = movA (matOf eight) from rfl)
  go_enter Try.func19, Try.ntmps19
  generalize hcs : movA (matOf eight) = cs at Hone Hsz Hby
  have Hcs := Lib.hid hcs
  clear hcs
  go_wp2_with (first
    | (go_at_call 43; refine Hby.out.mono ?_; rintro e w1 ⟨rfl, k1⟩)
    | (refine wpList_store_agg rfl 71 (.tmp 5) (.tmp 8) rfl w1.heap.size 0 rfl cs rfl 71 _ (Blk.new _ _ _) (by rw [Try.infoMoves, Hsz.out]) (by rw [Hsz.out]; decide) Hone.out ?_; intro w2 c2 k2)
    | (refine wpList_load_agg rfl 71 (.tmp 5) rfl ⟨w1.heap.size, 0, none⟩ rfl cs.toList _ (Blk.agg (by rw [set_all _ _ (by rw [Hsz.out]; decide)] at c2; exact c2)) Try.underlying71 rfl (by rw [Try.infoMoves, Array.length_toList, Hsz.out]) ?_)
    | (refine wpList_store_agg rfl 71 (.tmp 6) (.tmp 9) rfl w2.heap.size 0 rfl cs rfl 71 _ (Blk.new _ _ _) (by rw [Try.infoMoves, Hsz.out]) (by rw [Hsz.out]; decide) Hone.out ?_; intro w3 c3 k3))
  have e5 : Blk w2 w1.heap.size 71 cs := by rw [set_all _ _ (by rw [Hsz.out]; decide)] at c2; exact c2
  have e6 : Blk w3 w2.heap.size 71 cs := by rw [set_all _ _ (by rw [Hsz.out]; decide)] at c3; exact c3
  have kk2 : Kp [] w w2 := (k1.alloc _).trans k2 (fun g hg => .inr (by simp at hg; subst hg; exact k1.size))
  have kk3 : Kp [] w2 w3 := ((Kp.refl [] w2).alloc _).trans k3 (fun g hg => .inr (by simp at hg; omega))
  have C0 : Cy w w3 w1.heap.size w2.heap.size 0 := ⟨kk2.trans kk3 (by simp), by rw [Hcs.out]; exact e5.kp kk3 (by simp), by
    have h : matOf (far 0) = matOf eight := (far_mat 0).symm
    rw [h, Hcs.out]; exact e6, k1.size, e5.lt⟩
  clear c2 c3 k1 k2 k3 kk2 kk3 e5 e6 Hone Hby
  generalize w1.heap.size = g5 at *
  generalize w2.heap.size = g6 at *
  go_loopw [0, 1, 7] (fun u v t wr => ∃ (k : Nat) (m : Int), m ≤ 9223372036854775807 ∧ m.toNat = n.toNat / 2 ^ k ∧ v = .int .i64 m ∧ u = .int .u32 ((carry x (n.toNat % 2 ^ k) : Nat) : Int) ∧ t = .int .i64 k ∧ k ≤ 63 ∧ Cy w wr g5 g6 k) (fun _ v _ _ => (intOf v).toNat)
  case atStart => exact ⟨0, n, hn, by simp, rfl, by rw [Nat.pow_zero, Nat.mod_one]; rfl, rfl, by omega, C0⟩
  case round =>
    clear C0
    obtain ⟨k, m, hm, hmt, rfl, rfl, rfl, hk, C⟩ := hrel
    have hX := carry_lt (n.toNat % 2 ^ k) hx
    have Hz : Hid (n.toNat / 2 ^ k = 0 → carry x n.toNat = carry x (n.toNat % 2 ^ k)) := Lib.hid (fun h => by
      rw [Nat.mod_eq_of_lt]
      exact (Nat.div_eq_zero_iff_lt (Nat.pow_pos (by omega))).1 h)
    have Hbit := Lib.hid (carry_bit x n.toNat k)
    generalize carry x (n.toNat % 2 ^ k) = X at *
    by_cases hm0 : m ≤ 0
    · have Hz2 := Lib.hid (Hz.out (by omega))
      have C' := Lib.hid C
      clear Hz hmt C
      go_wp2
      go_ret
      exact ⟨by rw [Hz2.out]; rfl, C'.out.kp⟩
    · obtain ⟨M, rfl⟩ := Int.eq_ofNat_of_zero_le (show 0 ≤ m by omega)
      rw [Int.toNat_natCast] at hmt
      have hk63 := lt63 (N := n.toNat) (k := k) (by omega) (by omega)
      have Hmt : Hid (M / 2 = n.toNat / 2 ^ (k + 1)) := Lib.hid (by rw [div_pow_succ, ← hmt])
      have hb := Hbit.out
      rw [← hmt] at hb
      have hand := i64_and1 (M : Int)
      have Hnx := Lib.hid (cy_next C)
      have Ho := Lib.hid (of_any g6 (matOf (far k)) (far_mov k) X hX wr C.b6)
      have Hof := Lib.hid (show ofL (matOf (far k)) X = far k X from ofL_mat (far_lin k) hX)
      have Ht := twice_any g6 (matOf (far k)) (far_mov k) wr C.b6
      rw [sq_far] at Ht
      have Htw := Lib.hid Ht
      have Hone2 := Lib.hid (movA_one (matOf (far (k + 1))))
      have Hsz2 : Hid ((movA (matOf (far (k + 1)))).size = 32) := Lib.hid (by rw [movA_size, matOf_length])
      have Hsz0 : Hid ((movA (matOf (far k))).size = 32) := Lib.hid (by rw [movA_size, matOf_length])
      have Htn := Lib.hid (fun h => mat_turn (k := k + 1) (by omega) (by omega) h)
      have Heq := fun W => eq_mov W (matOf eight) (matOf_length _)
      clear Ht Hz
      have hpos : (0 : Int) < (M : Int) := by omega
      have Hmt0 := Lib.hid hmt
      have hod0 := bit_cases M
      rw [show (n.toNat / 2 ^ k) = M from hmt.symm] at Hbit
      clear hb hm0 hmt
      rcases hod0 with hod | hod
      · have hod' : ((M : Int) % 2 == 1) = false := by simp; omega
        rw [if_neg (by omega)] at Hbit
        have C' := Lib.hid C
        clear hod C
        by_cases ht : (k + 1) % 31 = 0
        · have ht' : (((k : Int) + 1) % 31 == 0) = true := by simp; omega
          go_wp2_with (first
            | (go_at_call 44; refine Ho.out.mono ?_; rintro e w' ⟨rfl, rfl⟩)
            | (go_at_call 45; refine Htw.out.mono ?_; rintro e w4 ⟨rfl, k4⟩)
            | (refine wpList_store_agg rfl 71 (.tmp 6) (.tmp 19) rfl g6 0 rfl (movA (matOf (far (k + 1)))) rfl 71 _ (C'.out.b6.kp k4 (by simp)) (by rw [Try.infoMoves, Hsz2.out]) (by rw [Hsz2.out, Hsz0.out]; decide) Hone2.out ?_; intro w5 c5 k5; have C5 := Lib.hid (Hnx.out w4 w5 k4 k5 c5); clear c5 k5)
            | (refine wpList_load_run rfl 71 (.tmp 6) rfl (.pointer (some ⟨g6, 0, none⟩)) rfl (.agg (movA (matOf eight))) (run_loadAt_agg w5 _ 71 (movA (matOf eight)).toList _ (Blk.agg (by have := C5.out.b6; rw [Htn.out ht] at this; exact this)) Try.underlying71 rfl (by rw [Try.infoMoves, Array.length_toList, Hcs.out, Hsz.out])) ?_)
            | (refine wpList_load_run rfl 71 (.tmp 5) rfl (.pointer (some ⟨g5, 0, none⟩)) rfl (.agg (movA (matOf eight))) (run_loadAt_agg w5 _ 71 (movA (matOf eight)).toList _ C5.out.b5.agg Try.underlying71 rfl (by rw [Try.infoMoves, Array.length_toList, Hcs.out, Hsz.out])) ?_))
          go_roundw
          case rel => exact ⟨k + 1, ((M / 2 : Nat) : Int), by omega, by rw [Int.toNat_natCast, Hmt.out], rfl, by rw [Hbit.out], by go_num, by omega, C5.out⟩
          case measure => simp [intOf]; omega
        · have ht' : (((k : Int) + 1) % 31 == 0) = false := by simp; omega
          go_wp2_with (first
            | (go_at_call 44; refine Ho.out.mono ?_; rintro e w' ⟨rfl, rfl⟩)
            | (go_at_call 45; refine Htw.out.mono ?_; rintro e w4 ⟨rfl, k4⟩)
            | (refine wpList_store_agg rfl 71 (.tmp 6) (.tmp 19) rfl g6 0 rfl (movA (matOf (far (k + 1)))) rfl 71 _ (C'.out.b6.kp k4 (by simp)) (by rw [Try.infoMoves, Hsz2.out]) (by rw [Hsz2.out, Hsz0.out]; decide) Hone2.out ?_; intro w5 c5 k5; have C5 := Lib.hid (Hnx.out w4 w5 k4 k5 c5); clear c5 k5))
          go_roundw
          case rel => exact ⟨k + 1, ((M / 2 : Nat) : Int), by omega, by rw [Int.toNat_natCast, Hmt.out], rfl, by rw [Hbit.out], by go_num, by omega, C5.out⟩
          case measure => simp [intOf]; omega
      · have hod' : ((M : Int) % 2 == 1) = true := by simp; omega
        rw [if_pos hod] at Hbit
        have C' := Lib.hid C
        clear hod C
        by_cases ht : (k + 1) % 31 = 0
        · have ht' : (((k : Int) + 1) % 31 == 0) = true := by simp; omega
          go_wp2_with (first
            | (go_at_call 44; refine Ho.out.mono ?_; rintro e w' ⟨rfl, rfl⟩)
            | (go_at_call 45; refine Htw.out.mono ?_; rintro e w4 ⟨rfl, k4⟩)
            | (refine wpList_store_agg rfl 71 (.tmp 6) (.tmp 19) rfl g6 0 rfl (movA (matOf (far (k + 1)))) rfl 71 _ (C'.out.b6.kp k4 (by simp)) (by rw [Try.infoMoves, Hsz2.out]) (by rw [Hsz2.out, Hsz0.out]; decide) Hone2.out ?_; intro w5 c5 k5; have C5 := Lib.hid (Hnx.out w4 w5 k4 k5 c5); clear c5 k5)
            | (refine wpList_load_run rfl 71 (.tmp 6) rfl (.pointer (some ⟨g6, 0, none⟩)) rfl (.agg (movA (matOf eight))) (run_loadAt_agg w5 _ 71 (movA (matOf eight)).toList _ (Blk.agg (by have := C5.out.b6; rw [Htn.out ht] at this; exact this)) Try.underlying71 rfl (by rw [Try.infoMoves, Array.length_toList, Hcs.out, Hsz.out])) ?_)
            | (refine wpList_load_run rfl 71 (.tmp 5) rfl (.pointer (some ⟨g5, 0, none⟩)) rfl (.agg (movA (matOf eight))) (run_loadAt_agg w5 _ 71 (movA (matOf eight)).toList _ C5.out.b5.agg Try.underlying71 rfl (by rw [Try.infoMoves, Array.length_toList, Hcs.out, Hsz.out])) ?_))
          go_roundw
          case rel => exact ⟨k + 1, ((M / 2 : Nat) : Int), by omega, by rw [Int.toNat_natCast, Hmt.out], rfl, by rw [Hbit.out, ← Hof.out], by go_num, by omega, C5.out⟩
          case measure => simp [intOf]; omega
        · have ht' : (((k : Int) + 1) % 31 == 0) = false := by simp; omega
          go_wp2_with (first
            | (go_at_call 44; refine Ho.out.mono ?_; rintro e w' ⟨rfl, rfl⟩)
            | (go_at_call 45; refine Htw.out.mono ?_; rintro e w4 ⟨rfl, k4⟩)
            | (refine wpList_store_agg rfl 71 (.tmp 6) (.tmp 19) rfl g6 0 rfl (movA (matOf (far (k + 1)))) rfl 71 _ (C'.out.b6.kp k4 (by simp)) (by rw [Try.infoMoves, Hsz2.out]) (by rw [Hsz2.out, Hsz0.out]; decide) Hone2.out ?_; intro w5 c5 k5; have C5 := Lib.hid (Hnx.out w4 w5 k4 k5 c5); clear c5 k5))
          go_roundw
          case rel => exact ⟨k + 1, ((M / 2 : Nat) : Int), by omega, by rw [Int.toNat_natCast, Hmt.out], rfl, by rw [Hbit.out, ← Hof.out], by go_num, by omega, C5.out⟩
          case measure => simp [intOf]; omega
end
/- Walks: joined, parted, patched; and the reference's. -/
section
open Go.RowKit

def join (a b n : Nat) : Nat := carry a n ^^^ b
theorem hid_carry {x : Nat} (n : Int) (hx : x < 4294967296) : carry x n.toNat < 4294967296 := carry_lt _ hx
set_option maxHeartbeats 400000 in
theorem join_any (a b : Nat) (ha : a < 4294967296) (hb : b < 4294967296) (n : Int) (hn : n ≤ 9223372036854775807) (w : World) :
    Calls Try.prog 21 #[.int .u32 a, .int .u32 b, .int .i64 n] w fun e w' => e = .returned (.int .u32 (join a b n.toNat)) ∧ Kp [] w w' := by
  have H := Lib.hid (carry_any a ha n hn w)
  have hj : join a b n.toNat = carry a n.toNat ^^^ b := rfl
  rw [hj]
  have e := u32_xor_nat (carry a n.toNat) b (hid_carry n ha) hb
  generalize carry a n.toNat = c at *
  clear hj
  go_enter Try.func21, Try.ntmps21
  go_wp2_with (go_at_call 19; ((with_reducible refine H.out.mono ?_); rintro e w1 ⟨rfl, k1⟩))
  go_ret
  exact ⟨rfl, k1⟩
set_option maxHeartbeats 400000 in
theorem part_any (a b : Nat) (ha : a < 4294967296) (hb : b < 4294967296) (n : Int) (hn : n ≤ 9223372036854775807) (w : World) :
    Calls Try.prog 23 #[.int .u32 a, .int .u32 b, .int .i64 n] w fun e w' => e = .returned (.int .u32 (join b a n.toNat)) ∧ Kp [] w w' := by
  have H := Lib.hid (join_any b a hb ha n hn w)
  generalize join b a n.toNat = c at *
  go_enter Try.func23, Try.ntmps23
  go_wp2_with (go_at_call 21; ((with_reducible refine H.out.mono ?_); rintro e w1 ⟨rfl, k1⟩))
  go_ret
  exact ⟨rfl, k1⟩
end
/- Walks of package crc: Sums. -/
section
open Go.RowKit

/-- The sums of a text's beginnings. -/
def smv (bs : List UInt8) : List Value := (List.range bs.length).map fun i => Value.int .u32 ((crc (bs.take (i + 1)) : Nat) : Int)
theorem smv_get (bs : List UInt8) (i : Nat) (h : i < bs.length) : (smv bs)[i]? = some (.int .u32 ((crc (bs.take (i + 1)) : Nat) : Int)) := by simp [smv, h]
theorem smv_one (bs : List UInt8) : ∀ u ∈ smv bs, u.oneCell' = true := by
  intro u hu
  simp only [smv, List.mem_map] at hu
  obtain ⟨_, _, rfl⟩ := hu
  rfl
theorem smv_snoc (bs : List UInt8) (b : UInt8) : smv (bs ++ [b]) = smv bs ++ [.int .u32 ((more (crc bs) [b] : Nat) : Int)] := by
  unfold smv
  rw [List.length_append, List.length_singleton, List.range_succ, List.map_append, List.map_singleton]
  congr 1
  · apply List.map_congr_left
    intro i hi
    have := List.mem_range.1 hi
    rw [List.take_append_of_le_length (by omega)]
  · rw [List.take_of_length_le (by simp), crc_append]
/-- A Sums: its block p, the row v, the text. -/
def Sm (w : World) (p : Nat) (v : Value) (bs : List UInt8) : Prop := Blk w p 66 #[.int .i64 bs.length, v] ∧ Ow w 23 1 v bs.length (smv bs)
theorem Sm.ne {w : World} {p : Nat} {v : Value} {bs : List UInt8} (h : Sm w p v bs) : v.ownBlock ≠ some p := ow_blk_ne h.2 h.1 (by decide)
theorem Sm.kp {w w' : World} {S : List Nat} {p : Nat} {v : Value} {bs : List UInt8} (h : Sm w p v bs) (hk : Kp S w w') (hp : p ∉ S) (hv : ∀ g, v.ownBlock = some g → g ∉ S) : Sm w' p v bs := ⟨h.1.kp hk hp, ow_kp h.2 hk hv⟩
theorem Sm.kp0 {w w' : World} {p : Nat} {v : Value} {bs : List UInt8} (h : Sm w p v bs) (hk : Kp [] w w') : Sm w' p v bs := h.kp hk (by simp) (by simp)
theorem crc_lt (l : List UInt8) : crc l < 4294967296 := more_lt 0 l

set_option maxHeartbeats 400000 in
theorem sum_any (p : Nat) (v : Value) (bs : List UInt8) (n : Nat) (hn : n ≤ bs.length) (hb : bs.length ≤ 1073741824) (w : World) (h : Sm w p v bs) :
    Calls Try.prog 49 #[.pointer (some ⟨p, 0, none⟩), .int .i64 n] w fun e w' => e = .returned (.int .u32 ((crc (bs.take n) : Nat) : Int)) ∧ w = w' := by
  have hc := h.1.cell 1
  simp at hc
  rcases n with _ | m
  · rw [List.take_zero, crc_nil]
    go_enter Try.func49, Try.ntmps49
    go_wp2
    go_ret
    exact ⟨rfl, rfl⟩
  · obtain ⟨g, c, rfl, hgc, hcm⟩ := ow_some h.2 (by omega)
    have hcell := h.2.cellAt m (by omega)
    rw [smv_get bs m (by omega)] at hcell
    generalize crc (bs.take (m + 1)) = t at *
    have Hh := Lib.hid h
    clear h
    go_enter Try.func49, Try.ntmps49
    go_wp2
    go_ret
    exact ⟨rfl, rfl⟩
set_option maxHeartbeats 400000 in
theorem s_len (p : Nat) (v : Value) (bs : List UInt8) (w : World) (h : Sm w p v bs) :
    Calls Try.prog 39 #[.pointer (some ⟨p, 0, none⟩)] w fun e w' => e = .returned (.int .i64 bs.length) ∧ w = w' := by
  have hc := h.1.cell 0
  simp at hc
  go_enter Try.func39, Try.ntmps39
  go_wp2
  go_ret
  exact ⟨rfl, rfl⟩
/-! ### A part's sum -/
theorem xor_cancel (a b : Nat) : a ^^^ (a ^^^ b) = b := by rw [← Nat.xor_assoc, Nat.xor_self, Nat.zero_xor]
theorem crc_join (a b : List UInt8) : crc (a ++ b) = join (crc a) (crc b) b.length := by
  have h0 : crc a = not32 0 ^^^ thru (not32 0) a := by
    show not32 (thru (not32 0) a) = _
    rw [not32_xor (thru_lt a (not32_lt 0)), Nat.xor_comm]
    rfl
  have h1 : thru (not32 0) (a ++ b) = thru (not32 0) b ^^^ carry (crc a) b.length := by
    rw [thru_append]
    have e : thru (not32 0) a = not32 0 ^^^ crc a := by rw [h0, xor_cancel]
    conv => lhs; rw [e]
    rw [thru_xor]; rfl
  show not32 (thru (not32 0) (a ++ b)) = carry (crc a) b.length ^^^ not32 (thru (not32 0) b)
  rw [not32_xor (thru_lt _ (not32_lt 0)), not32_xor (thru_lt _ (not32_lt 0)), h1, Nat.xor_comm (thru (not32 0) b), Nat.xor_assoc]
theorem crc_part (a b : List UInt8) : join (crc a) (crc (a ++ b)) b.length = crc b := by
  rw [crc_join]; unfold join; rw [xor_cancel]
theorem crc_range (bs : List UInt8) (i j : Nat) (h : i ≤ j) (hj : j ≤ bs.length) : join (crc (bs.take i)) (crc (bs.take j)) (j - i) = crc ((bs.drop i).take (j - i)) := by
  have e : bs.take j = bs.take i ++ (bs.drop i).take (j - i) := by
    conv => lhs; rw [show j = i + (j - i) from by omega, List.take_add]
  have hl : ((bs.drop i).take (j - i)).length = j - i := by rw [List.length_take, List.length_drop]; omega
  have h1 := crc_part (bs.take i) ((bs.drop i).take (j - i))
  rw [hl] at h1
  rw [e]
  exact h1
set_option maxHeartbeats 400000 in
theorem s_range_no (p : Nat) (v : Value) (bs : List UInt8) (i j : Int) (hij : i < 0 ∨ j < i ∨ (bs.length : Int) < j) (w : World) (h : Sm w p v bs) :
    Calls Try.prog 36 #[.pointer (some ⟨p, 0, none⟩), .int .i64 i, .int .i64 j] w fun e w' => e = .returned (.tuple #[.int .u32 0, .bool false]) ∧ w = w' := by
  have hc := h.1.cell 0
  simp at hc
  by_cases h1 : i < 0
  · go_enter Try.func36, Try.ntmps36
    go_wp2
    go_ret2
    exact ⟨rfl, rfl⟩
  · by_cases h2 : j < i
    · go_enter Try.func36, Try.ntmps36
      go_wp2
      go_ret2
      exact ⟨rfl, rfl⟩
    · have h3 : (bs.length : Int) < j := by omega
      clear hij
      go_enter Try.func36, Try.ntmps36
      go_wp2
      go_ret2
      exact ⟨rfl, rfl⟩
set_option maxHeartbeats 800000 in
theorem s_range (p : Nat) (v : Value) (bs : List UInt8) (i j : Nat) (hij : i ≤ j) (hj : j ≤ bs.length) (hb : bs.length ≤ 1073741824) (w : World) (h : Sm w p v bs) :
    Calls Try.prog 36 #[.pointer (some ⟨p, 0, none⟩), .int .i64 i, .int .i64 j] w fun e w' => e = .returned (.tuple #[.int .u32 ((crc ((bs.drop i).take (j - i)) : Nat) : Int), .bool true]) ∧ Kp [] w w' := by
  have hc := h.1.cell 0
  simp at hc
  have H1 := Lib.hid (sum_any p v bs i (by omega) hb w h)
  have H2 := Lib.hid (sum_any p v bs j hj hb w h)
  have H3 := part_any (crc (bs.take j)) (crc (bs.take i)) (crc_lt _) (crc_lt _) ((j : Int) - (i : Int)) (by omega) w
  rw [show ((j : Int) - (i : Int)).toNat = j - i from by omega, crc_range bs i j hij hj] at H3
  have H3' := Lib.hid H3
  clear H3 h
  generalize crc (bs.take i) = a at *
  generalize crc (bs.take j) = b at *
  generalize crc ((bs.drop i).take (j - i)) = c at *
  go_enter Try.func36, Try.ntmps36
  go_wp2_with (first
    | (go_at_call 49; ((with_reducible refine H2.out.mono ?_); rintro e w1 ⟨rfl, rfl⟩))
    | (go_at_call 49; ((with_reducible refine H1.out.mono ?_); rintro e w1 ⟨rfl, rfl⟩))
    | (go_at_call 23; ((with_reducible refine H3'.out.mono ?_); rintro e w1 ⟨rfl, k1⟩)))
  go_ret2
  exact ⟨rfl, k1⟩
end
/- Lists of texts in memory: a slice of slices of bytes. -/
section
open Go.RowKit

/-- The slice v holds the texts L, wherever it and they lie. -/
def Txs (w : World) (v : Value) (L : List (List UInt8)) : Prop :=
  ∃ vs, Rd w 1 v L.length vs ∧ ∀ i (h : i < L.length), ∃ u, vs[i]? = some u ∧ Rd w 1 u L[i].length (bv L[i])
/-- Where it lies. -/
def TxsIn (w : World) (v : Value) (L : List (List UInt8)) (S : List Nat) : Prop :=
  ∃ vs, Rd w 1 v L.length vs ∧ (∀ i (h : i < L.length), ∃ u, vs[i]? = some u ∧ Rd w 1 u L[i].length (bv L[i]) ∧ ∀ g, u.ownBlock = some g → L[i] ≠ [] → g ∈ S) ∧ ∀ g, v.ownBlock = some g → L ≠ [] → g ∈ S
section
variable {w w' : World} {v : Value} {L : List (List UInt8)} {S T : List Nat}
theorem TxsIn.txs (h : TxsIn w v L S) : Txs w v L := by
  obtain ⟨vs, h1, h2, _⟩ := h
  exact ⟨vs, h1, fun i hi => by obtain ⟨u, a, b, _⟩ := h2 i hi; exact ⟨u, a, b⟩⟩
theorem TxsIn.kp (h : TxsIn w v L S) (hk : Kp T w w') (hn : ∀ g, g ∈ S → g ∉ T) : TxsIn w' v L S := by
  obtain ⟨vs, h1, h2, h3⟩ := h
  refine ⟨vs, h1.kpl hk (fun g hg hne => hn g (h3 g hg (fun e => ?_))), fun i hi => ?_, h3⟩
  · subst e
    exact hne (List.eq_nil_of_length_eq_zero (by simpa using h1.1))
  · obtain ⟨u, a, b, c⟩ := h2 i hi
    exact ⟨u, a, b.kpl hk (fun g hg hne => hn g (c g hg (bv_ne hne))), c⟩
theorem Txs.open_ (h : Txs w v L) : ∃ A c, v = .slice A L.length c ∧ (0 < L.length → ∃ ad, A = some ad) ∧ ∀ ad, A = some ad → ∀ i (h : i < L.length), ∃ u, w.cell? (ad.add i) = some u ∧ Rd w 1 u L[i].length (bv L[i]) := by
  obtain ⟨vs, ⟨hl, A, c, rfl, _, _, hA, hc⟩, h2⟩ := h
  refine ⟨A, c, rfl, fun h0 => ?_, fun ad had i hi => ?_⟩
  · cases A with
    | none => have := (hA rfl).1; omega
    | some ad => exact ⟨ad, rfl⟩
  · obtain ⟨u, a, b⟩ := h2 i hi
    exact ⟨u, hc ad had i u a, b⟩
end
/-- The block of a text that is not empty. -/
def fpB (u : Value) (bs : List UInt8) : List Nat := if bs = [] then [] else u.ownBlock.toList
theorem fpB_mem {u : Value} {bs : List UInt8} {g : Nat} (h : u.ownBlock = some g) (hne : bs ≠ []) : g ∈ fpB u bs := by simp [fpB, hne, h]
theorem fpB_lt {w : World} {u : Value} {bs : List UInt8} {n g : Nat} (h : Rd w 1 u n (bv bs)) (hg : g ∈ fpB u bs) : g < w.heap.size := by
  unfold fpB at hg
  split at hg
  · cases hg
  · rename_i hne
    exact rd_lt h (by simpa using hg) (fun e => hne (bv_inj e))
theorem txsIn1 {w : World} {u : Value} {bs : List UInt8} {n : Nat} (t : TypeId) (h : Rd w 1 u n (bv bs)) :
    TxsIn (w.alloc (.cells #[u] t)) (.slice (some ⟨w.heap.size, 0, none⟩) 1 1) [bs] (w.heap.size :: fpB u bs) := by
  have hn : n = bs.length := by have := h.1; rw [bv_length] at this; omega
  subst hn
  refine ⟨[u], rd_new w t u, fun i hi => ?_, fun g hg _ => by simp [Value.ownBlock] at hg; simp [hg]⟩
  obtain rfl : i = 0 := by simpa using hi
  exact ⟨u, rfl, h.alloc _, fun g hg hne => List.mem_cons_of_mem _ (fpB_mem hg hne)⟩
theorem txsIn2 {w : World} {u1 u2 : Value} {b1 b2 : List UInt8} {n1 n2 : Nat} (t : TypeId) (h1 : Rd w 1 u1 n1 (bv b1)) (h2 : Rd w 1 u2 n2 (bv b2)) :
    TxsIn (w.alloc (.cells #[u1, u2] t)) (.slice (some ⟨w.heap.size, 0, none⟩) 2 2) [b1, b2] (w.heap.size :: (fpB u1 b1 ++ fpB u2 b2)) := by
  have hn1 : n1 = b1.length := by have := h1.1; rw [bv_length] at this; omega
  have hn2 : n2 = b2.length := by have := h2.1; rw [bv_length] at this; omega
  subst hn1 hn2
  refine ⟨[u1, u2], Rd.of_own (ow_new w t 1 2 #[u1, u2] rfl (by decide)), fun i hi => ?_, fun g hg _ => by simp [Value.ownBlock] at hg; simp [hg]⟩
  have : i = 0 ∨ i = 1 := by simp at hi; omega
  rcases this with rfl | rfl
  · exact ⟨u1, rfl, h1.alloc _, fun g hg hne => List.mem_cons_of_mem _ (List.mem_append_left _ (fpB_mem hg hne))⟩
  · exact ⟨u2, rfl, h2.alloc _, fun g hg hne => List.mem_cons_of_mem _ (List.mem_append_right _ (fpB_mem hg hne))⟩
/-- The same, where the walk spells the block's number. -/
theorem txs1 {w : World} {u : Value} {bs : List UInt8} {n g : Nat} (t : TypeId) (hg : g = w.heap.size) (h : Rd w 1 u n (bv bs)) : Txs (w.alloc (.cells #[u] t)) (.slice (some ⟨g, 0, none⟩) 1 1) [bs] := by
  subst hg; exact (txsIn1 t h).txs
end
/- Walks: lists of texts: their sum, are they long; Append, New. -/
section
open Go.RowKit

theorem crc_flat_succ (L : List (List UInt8)) (j : Nat) (h : j < L.length) : (L.take (j + 1)).flatten = (L.take j).flatten ++ L[j] := by
  rw [List.take_succ_eq_append_getElem h, List.flatten_append]; simp
set_option maxHeartbeats 800000 in
theorem Sum_any (v : Value) (L : List (List UInt8)) (w : World) (h : Txs w v L) (hL : L.length ≤ 1073741824) :
    Calls Try.prog 14 #[v] w fun e w' => e = .returned (.int .u32 ((crc L.flatten : Nat) : Int)) ∧ w = w' := by
  obtain ⟨A, c, rfl, hA, hc⟩ := h.open_
  have HA := Lib.hid hA
  have Hc := Lib.hid hc
  clear hA hc h
  go_enter Try.func14, Try.ntmps14
  go_wp2
  go_loop [3, 5, 8] (fun s _ t => ∃ j : Nat, j ≤ L.length ∧ t = .int .i64 j ∧ s = .int .u32 ((crc (L.take j).flatten : Nat) : Int)) (fun _ _ t => L.length - (intOf t).toNat)
  case atStart => exact ⟨0, by omega, rfl, by simp [crc_nil]⟩
  case round =>
    obtain ⟨j, hj, rfl, rfl⟩ := hrel
    by_cases hlt : j < L.length
    · obtain ⟨ad, rfl⟩ := HA.out (by omega)
      obtain ⟨u, hcell, hu⟩ := Hc.out ad rfl j hlt
      have Hfl := Lib.hid (crc_flat_succ L j hlt)
      have Hm := Lib.hid (more_any (crc (L.take j).flatten) (crc_lt _) u _ L[j] w hu)
      have Hap := Lib.hid (crc_append (L.take j).flatten L[j])
      generalize more (crc (L.take j).flatten) L[j] = m at *
      generalize crc (L.take j).flatten = t at *
      go_wp2_with (go_at_call 16; ((with_reducible refine Hm.out.mono ?_); rintro e w1 ⟨rfl, rfl⟩))
      go_round
      case rel => exact ⟨j + 1, by omega, by go_num, by rw [Hfl.out, Hap.out]⟩
      case measure => simp [intOf]; omega
    · obtain rfl : j = L.length := by omega
      rw [List.take_length]
      go_wp2
      go_ret
      exact ⟨rfl, rfl⟩
end
end Go.Proofs.Ytgldgkdnnimglaa
