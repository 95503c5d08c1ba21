/- Several texts in one: Mem, Num, Held, Lex, Agg, Arr, Base, WireA, WireB, WireC, EntM, Texts, App, Equal, WireD, WireR, WireS, Txt. -/
import Derived.WalkKit
import Derived.WalkSpells
import Derived.WalkLawsBesides
import Derived.Maps.AppendAt
import Derived.Deep.AppendLies
import Derived.Deep.Draws
import Derived.Lib.Hide
import Derived.Deep.RegionWith
import Derived.Deep.QuietTactic
import Derived.BigQuiet
import Derived.BigRegion
import Derived.Deep.RegionHeld3
import Derived.Deep.RegionLaw
import Derived.Deep.DeepCutAuto
import Derived.Deep.DeepFit
import Derived.Outline
import Derived.OrdersHeld
import Derived.ChangeKeysEq
import Derived.Test.YtdmdnphbheomoaaRows
import Derived.Laws.BitsAllLaws
set_option linter.unusedVariables false
set_option linter.unusedSimpArgs false
set_option maxRecDepth 100000
set_option maxHeartbeats 8000000
namespace Go.Proofs.Ytdmdnphbheomoaa
/- Words for memory, over any program: which blocks a call may turn; a slice that reads as a list; a row of the call's own; append onto such a row. -/
section
open Go.RowKit

/-- 'w'' is 'w' with new blocks, and with writes to the blocks of S alone. -/
structure Kp (S : List Nat) (w w' : World) : Prop where
  os : w'.os = w.os
  tape : w'.tape = w.tape
  output : w'.output = w.output
  size : w.heap.size ≤ w'.heap.size
  block : ∀ k, k < w.heap.size → k ∉ S → w'.heap[k]? = w.heap[k]?

theorem Kp.refl (S : List Nat) (w : World) : Kp S w w := ⟨rfl, rfl, rfl, Nat.le_refl _, fun _ _ _ => rfl⟩
theorem Kp.drew {S : List Nat} {a w : World} (h : Kp S a w) : Kp S a w.drew := ⟨h.os, h.tape, h.output, h.size, h.block⟩
theorem Kp.drewN {S : List Nat} {a w : World} (h : Kp S a w) (n : Nat) : Kp S a (w.drewN n) := ⟨h.os, h.tape, h.output, h.size, h.block⟩
/-- Two steps: what the second may turn is among the first's, or new. -/
theorem Kp.trans {S T : List Nat} {a b c : World} (h : Kp S a b) (k : Kp T b c) (hT : ∀ g, g ∈ T → g ∈ S ∨ a.heap.size ≤ g) : Kp S a c :=
  ⟨k.os.trans h.os, k.tape.trans h.tape, k.output.trans h.output, Nat.le_trans h.size k.size, fun i hi hn => (k.block i (Nat.lt_of_lt_of_le hi h.size) (fun hm => by
    rcases hT i hm with h1 | h1
    · exact hn h1
    · omega)).trans (h.block i hi hn)⟩
theorem Kp.more {S T : List Nat} {a b : World} (h : Kp S a b) (hT : ∀ g, g ∈ S → g ∈ T ∨ a.heap.size ≤ g) : Kp T a b := (Kp.refl T a).trans h hT
theorem Kp.alloc {S : List Nat} {a w : World} (h : Kp S a w) (o : Obj) : Kp S a (w.alloc o) :=
  ⟨h.os, h.tape, h.output, Nat.le_trans h.size (by simp), fun i hi hn => (Below.heap_alloc w o i (Nat.lt_of_lt_of_le hi h.size)).trans (h.block i hi hn)⟩
theorem Kp.setCell {S : List Nat} {a w : World} (h : Kp S a w) {p : Addr} (hp : p.block ∈ S ∨ a.heap.size ≤ p.block) (u : Value) : Kp S a (w.setCell p u) :=
  ⟨h.os, h.tape, h.output, by simpa [World.setCell] using h.size, fun i hi hn => (Below.heap_setCell w p u i (by
    rintro rfl
    rcases hp with hp | hp
    · exact hn hp
    · omega)).trans (h.block i hi hn)⟩
theorem Kp.of_grown {w w' : World} {row : Option Nat} (h : w.grownBy w' row) : Kp row.toList w w' :=
  ⟨h.os, h.tape, h.output, h.size, fun k hk hn => h.block k hk (fun e => hn (by rw [← e]; simp))⟩
theorem Kp.grown {S : List Nat} {a w w' : World} {row : Option Nat} (h : Kp S a w) (hg : w.grownBy w' row) (hr : ∀ g, row = some g → g ∈ S ∨ a.heap.size ≤ g) : Kp S a w' :=
  h.trans (Kp.of_grown hg) (fun g hm => hr g (by cases row <;> simp_all))
theorem Kp.below {S : List Nat} {B : Nat} {w w' : World} (h : Kp S w w') (hB : B ≤ w.heap.size) (hS : ∀ g, g ∈ S → B ≤ g) : Below B w w' :=
  ⟨h.os, h.tape, h.output, h.size, fun k hk => h.block k (by omega) (fun hm => by have := hS k hm; omega)⟩
/-- Block g is just the cells cs of element type t, none frozen. -/
def Blk (w : World) (g : Nat) (t : TypeId) (cs : Array Value) : Prop := w.heap[g]? = some (.cells cs t (0, 0))
section
variable {w w' : World} {g : Nat} {t : TypeId} {cs : Array Value}
theorem Blk.lt (h : Blk w g t cs) : g < w.heap.size := (Array.getElem?_eq_some_iff.1 h).1
theorem Blk.cell (h : Blk w g t cs) (i : Nat) : w.cell? ⟨g, i, none⟩ = cs[i]? := cell_of_row w g i cs t (0, 0) h
theorem Blk.frozen (h : Blk w g t cs) (i : Nat) : w.frozen? ⟨g, i, none⟩ = false := by
  unfold Blk at h
  simp [World.frozen?, h]
theorem Blk.new (w : World) (t : TypeId) (cs : Array Value) : Blk (w.alloc (.cells cs t)) w.heap.size t cs := heap_alloc_new w _
theorem Blk.drew (h : Blk w g t cs) : Blk w.drew g t cs := h
theorem Blk.drewN (h : Blk w g t cs) (n : Nat) : Blk (w.drewN n) g t cs := h
theorem Blk.alloc (h : Blk w g t cs) (o : Obj) : Blk (w.alloc o) g t cs := (Below.heap_alloc w o g h.lt).trans h
theorem Blk.set_ (h : Blk w g t cs) (i : Nat) (u : Value) : Blk (w.setCell ⟨g, i, none⟩ u) g t (cs.setIfInBounds i u) := by
  unfold Blk at h ⊢
  simp [World.setCell, Array.getElem?_modify, h]
theorem Blk.kp {S : List Nat} (h : Blk w g t cs) (hk : Kp S w w') (hg : g ∉ S) : Blk w' g t cs := (hk.block g h.lt hg).trans h
theorem Blk.ne_ {g' : Nat} {t' : TypeId} {cs' : Array Value} (h : Blk w g t cs) (h' : Blk w g' t' cs') (hne : t ≠ t') : g ≠ g' := by
  rintro rfl
  unfold Blk at h h'
  rw [h] at h'
  injection h' with h'
  injection h' with _ ht
  exact hne ht
end

theorem block_of_add (a : Addr) (n : Nat) : (a.add n).block = a.block := by unfold Addr.add; split <;> rfl
theorem add_of_add (a : Addr) (i j : Nat) : (a.add i).add j = a.add (i + j) := by
  unfold Addr.add
  by_cases hi : i = 0 <;> by_cases hj : j = 0 <;> simp [hi, hj, Nat.add_assoc]

/-- The slice value v holds the cells xs ('s' cells an element), wherever it lies: nil let in. -/
def Rd (w : World) (s : Nat) (v : Value) (n : Nat) (xs : List Value) : Prop :=
  xs.length = n * s ∧ ∃ A c, v = .slice A n c ∧ n ≤ c ∧ c ≤ maxLen ∧ (A = none → n = 0 ∧ c = 0) ∧ ∀ ad, A = some ad → ∀ j u, xs[j]? = some u → w.cell? (ad.add j) = some u

section
variable {w w' : World} {s n : Nat} {v : Value} {xs : List Value}
theorem cell_lt {w : World} {a : Addr} {u : Value} (h : w.cell? a = some u) : a.block < w.heap.size := by
  unfold World.cell? at h
  rcases Nat.lt_or_ge a.block w.heap.size with hlt | hge
  · exact hlt
  · rw [Array.getElem?_eq_none hge] at h; simp at h
theorem Rd.keep (h : Rd w s v n xs) (hk : ∀ p : Addr, v.ownBlock = some p.block → p.block < w.heap.size → w'.cell? p = w.cell? p) : Rd w' s v n xs := by
  obtain ⟨h1, A, c, rfl, h2, h3, h4, h5⟩ := h
  refine ⟨h1, A, c, rfl, h2, h3, h4, fun ad had j u hu => ?_⟩
  have h6 := h5 ad had j u hu
  subst had
  exact (hk _ (by rw [block_of_add]; rfl) (cell_lt h6)).trans h6
theorem Rd.kp {S : List Nat} (h : Rd w s v n xs) (hk : Kp S w w') (hn : ∀ g, v.ownBlock = some g → g ∉ S) : Rd w' s v n xs :=
  h.keep fun p hp hlt => World.cell?_of_block (hk.block p.block hlt (hn _ hp))
theorem Rd.alloc (h : Rd w s v n xs) (o : Obj) : Rd (w.alloc o) s v n xs := h.kp ((Kp.refl [] w).alloc o) (by simp)
theorem Rd.nil (w : World) (s : Nat) : Rd w s (.slice none 0 0) 0 [] := ⟨by simp, none, 0, rfl, by simp, by simp, fun _ => ⟨rfl, rfl⟩, fun ad h => by cases h⟩
theorem Rd.of_own {base : Nat} {e : TypeId} (h : w.ownsRow base e s v n xs) : Rd w s v n xs := by
  refine ⟨h.1, ?_⟩
  rcases h.2 with ⟨rfl, rfl⟩ | ⟨g, cap, cur, rfl, _, _, hnc, hcm, _⟩
  · exact ⟨none, 0, rfl, by simp, by simp, (fun _ => ⟨rfl, rfl⟩), (fun ad h0 => by cases h0)⟩
  · exact ⟨_, cap, rfl, hnc, hcm, (fun h0 => by cases h0), (fun ad had => by cases had; exact h.cells (g := g) rfl)⟩
end

/-- A row of the call's own (any block): 'ownsRow' from block 0 on. -/
abbrev Ow (w : World) (e : TypeId) (s : Nat) (v : Value) (n : Nat) (xs : List Value) : Prop := w.ownsRow 0 e s v n xs
section
variable {w w' : World} {e : TypeId} {s n : Nat} {v : Value} {xs : List Value}
theorem ow_kp {S : List Nat} (h : Ow w e s v n xs) (hk : Kp S w w') (hn : ∀ g, v.ownBlock = some g → g ∉ S) : Ow w' e s v n xs := by
  refine ⟨h.1, ?_⟩
  rcases h.2 with hv | ⟨g, cap, cur, rfl, hb, hgg, rest⟩
  · exact .inl hv
  · refine .inr ⟨g, cap, cur, rfl, hb, ?_, rest⟩
    rw [hk.block g (Array.getElem?_eq_some_iff.1 hgg).1 (hn g rfl)]
    exact hgg
theorem ow_lt (h : Ow w e s v n xs) {g : Nat} (hg : v.ownBlock = some g) : g < w.heap.size := (h.lt g hg).2
theorem ow_form (h : Ow w e s v n xs) : ∃ A c, v = .slice A n c ∧ n ≤ c ∧ c ≤ maxLen := by
  rcases h.2 with ⟨rfl, rfl⟩ | ⟨g', cap, cur, rfl, _, _, hn, hc, _⟩
  · exact ⟨none, 0, rfl, Nat.le_refl _, by simp⟩
  · exact ⟨_, cap, rfl, hn, hc⟩
theorem ow_blk_ne {t : TypeId} {g : Nat} {cs : Array Value} (h : Ow w e s v n xs) (hg : Blk w g t cs) (hne : e ≠ t) : v.ownBlock ≠ some g := by
  rcases h.2 with ⟨rfl, _⟩ | ⟨g', cap, cur, rfl, _, hh, _⟩
  · simp [Value.ownBlock]
  · intro he
    have : g' = g := by simpa [Value.ownBlock] using he
    subst this
    exact Blk.ne_ (t := e) hh hg hne rfl
end

/-- Bytes as values. -/
def bv (l : List UInt8) : List Value := l.map fun b => Value.int .u8 (b.toNat : Int)
theorem bv_cons (b : UInt8) (l : List UInt8) : bv (b :: l) = Value.int .u8 (b.toNat : Int) :: bv l := rfl
theorem bv_append (a b : List UInt8) : bv (a ++ b) = bv a ++ bv b := List.map_append
theorem bv_length (a : List UInt8) : (bv a).length = a.length := List.length_map ..
theorem bv_one (a : List UInt8) : ∀ u ∈ bv a, u.oneCell' = true := by
  intro u hu
  obtain ⟨_, _, rfl⟩ := List.mem_map.1 hu
  rfl
theorem bv_get (l : List UInt8) (j : Nat) : (bv l)[j]? = l[j]?.map fun b => Value.int .u8 (b.toNat : Int) := List.getElem?_map ..
theorem rd_new (w : World) (t : TypeId) (u : Value) : Rd (w.alloc (.cells #[u] t)) 1 (.slice (some ⟨w.heap.size, 0, none⟩) 1 1) 1 [u] :=
  ⟨rfl, _, 1, rfl, Nat.le_refl _, by simp [maxLen], (fun h => by cases h), (fun ad had j x hx => by
    cases had
    rcases j with _ | j
    · simp at hx; subst hx; exact (Blk.new w t #[u]).cell 0
    · simp at hx)⟩
theorem one_bv (u : Value) (h : u.oneCell' = true) : ∀ x ∈ [u], x.oneCell' = true := by simpa using h
theorem bv_inj {a b : List UInt8} (h : bv a = bv b) : a = b := by
  induction a generalizing b with
  | nil => cases b with
    | nil => rfl
    | cons y b => cases h
  | cons x a ih => cases b with
    | nil => cases h
    | cons y b =>
      simp only [bv_cons, List.cons.injEq, Value.int.injEq, true_and] at h
      rw [ih h.2, UInt8.toNat_inj.1 (by omega : x.toNat = y.toNat)]

section
variable {P : Program} (w : World)
theorem run_append_none (t ty e : TypeId) (i : TypeInfo) (size : Nat) (ht : P.underlying t = some (.slice e)) (hi : P.info? e = some i)
    (v : Value) (n : Nat) (xs : List Value) (hown : Ow w e size v n xs) (c : Nat) : (Builtin.append_ #[t, t] ty #[v, .slice none 0 c]).run P w = .ok v w := by
  rcases hown.2 with ⟨rfl, rfl⟩ | ⟨g, cap, cur, rfl, _, _, hnc, _⟩
  · simp [Builtin.append_, run_underlying ht, sizeOf, typeInfo, hi, Builtin.lenOf, Builtin.firstCells]
  · simp [Builtin.append_, run_underlying ht, sizeOf, typeInfo, hi, Builtin.lenOf, Builtin.firstCells, hnc, storeCells]

/-- append of what reads as 'news' onto a row of the call's own. -/
theorem run_app (t ty e : TypeId) (i : TypeInfo) (z : Value) (size bytes : Nat) (ht : P.underlying t = some (.slice e)) (hi : P.info? e = some i) (hz : i.zero = some z)
    (hsize : i.size = size) (hby : i.bytes = bytes) (hzs : z.cells.size = size) (hsz : 0 < size)
    (v : Value) (n : Nat) (xs : List Value) (hown : Ow w e size v n xs)
    (x : Value) (m : Nat) (news : List Value) (hr : Rd w size x m news) (h1 : ∀ u ∈ news, u.oneCell' = true)
    (h63 : n + m ≤ maxLen) (hbytes : (n + m) * bytes ≤ 140737488355328) :
    ∃ v' w', (Builtin.append_ #[t, t] ty #[v, x]).run P w = .ok v' w' ∧ Ow w' e size v' (n + m) (xs ++ news) ∧ w.grownBy w' v.ownBlock ∧
      (v'.ownBlock = v.ownBlock ∨ v'.ownBlock = some w.heap.size) := by
  obtain ⟨hl, A, c, rfl, hc1, hc2, hA, hcells⟩ := hr
  rcases A with _ | ad
  · obtain ⟨rfl, rfl⟩ := hA rfl
    have hn : news = [] := List.eq_nil_of_length_eq_zero (by simpa using hl)
    subst hn
    exact ⟨v, w, run_append_none w t ty e i size ht hi v n xs hown 0, by simpa using hown, World.grownBy.refl w _, .inl rfl⟩
  · obtain ⟨v', w', hrun, h2, h3, _, h5⟩ := run_append_own_at (P := P) w 0 t ty e i z size bytes ht hi hz hsize hby hzs hsz v n xs hown ad m c news hl (hcells ad rfl) h1 h63 hbytes (Nat.zero_le _)
    exact ⟨v', w', hrun, h2, h3, h5⟩

theorem wpList_app {ops : Array Oper} {rest : List Oper} {o : Oper} {a : Act} {Q : Exit → Act → World → Prop} (hgd : o.guard = none) (s x : Operand) (t : TypeId)
    (ho : o.op = .call { callee := .builtin .append, args := #[s, x], argTypes := #[t, t] })
    (e : TypeId) (i : TypeInfo) (z : Value) (size bytes : Nat) (ht : P.underlying t = some (.slice e)) (hi : P.info? e = some i) (hz : i.zero = some z)
    (hsize : i.size = size) (hby : i.bytes = bytes) (hzs : z.cells.size = size) (hsz : 0 < size)
    (v : Value) (n : Nat) (xs : List Value) (hs : a.eval s = v) (hown : Ow w e size v n xs)
    (y : Value) (m : Nat) (news : List Value) (hx : a.eval x = y) (hr : Rd w size y m news) (h1 : ∀ u ∈ news, u.oneCell' = true)
    (h63 : n + m ≤ maxLen) (hbytes : (n + m) * bytes ≤ 140737488355328)
    (h : ∀ v' w', Ow w' e size v' (n + m) (xs ++ news) → w.grownBy w' v.ownBlock → (v'.ownBlock = v.ownBlock ∨ v'.ownBlock = some w.heap.size) → wpList P ops Q rest (a.put o.dst v') w') : wpList P ops Q (o :: rest) a w :=
  wpList_plain hgd fun K hK => by
    obtain ⟨v', w', hrun, h2, h3, h4⟩ := run_app (P := P) w t o.type e i z size bytes ht hi hz hsize hby hzs hsz v n xs hown y m news hr h1 h63 hbytes
    unfold Oper.wp execOp
    simp only [ho, resolve, invoke, builtin, Sem.run_bind, Sem.run_pure, Result.andThen_ok, List.map_toArray, List.map_cons, List.map_nil, hs, hx, hrun]
    exact hK _ _ (h v' w' h2 h3 h4)
end

/-- 's[a:a+k]', as the walk spells it. -/
theorem Rd.cut {w : World} {A : Option Addr} {n c a k : Nat} {xs : List Value} (h : Rd w 1 (.slice A n c) n xs) (hk : a + k ≤ n) (hca : ¬ c = a) : Rd w 1 (.slice (A.map (fun x => x.add a)) k (c - a)) k ((xs.drop a).take k) := by
  obtain ⟨hl, A', c', hv, h1, h2, h3, h4⟩ := h
  cases hv
  have hl' : xs.length = n := by omega
  refine ⟨by rw [List.length_take, List.length_drop]; omega, _, _, rfl, by omega, by omega, (fun hA => ?_), (fun ad had j u hu => ?_)⟩
  · have : A = none := by cases A <;> simp_all
    have := h3 this
    omega
  · rcases A with _ | ad0
    · cases had
    · cases had
      rw [add_of_add]
      refine h4 ad0 rfl _ u ?_
      rw [List.getElem?_take] at hu
      split at hu
      · rw [List.getElem?_drop] at hu; exact hu
      · cases hu
theorem Rd.cut0 {w : World} {A : Option Addr} {n c a k : Nat} {xs : List Value} (h : Rd w 1 (.slice A n c) n xs) (hk : a + k ≤ n) (hca : c = a) : Rd w 1 (.slice A k (c - a)) k ((xs.drop a).take k) := by
  obtain ⟨hl, A', c', hv, h1, h2, h3, h4⟩ := h
  cases hv
  have hk0 : k = 0 := by omega
  subst hk0
  refine ⟨by simp, _, _, rfl, by omega, by omega, (fun hA => ?_), (fun ad had j u hu => by simp at hu)⟩
  have := h3 hA
  omega
theorem bv_drop (l : List UInt8) (a k : Nat) : ((bv l).drop a).take k = bv ((l.drop a).take k) := by simp [bv, List.map_take, List.map_drop]

/-- A slice of bytes turned into a string. -/
theorem foldl_push (l : List UInt8) : ∀ (s : List UInt8), (l.map fun b : UInt8 => (b.toNat : Int)).foldl (fun (r : ByteArray) n => r.push (UInt8.ofNat n.toNat)) ⟨s.toArray⟩ = ⟨(s ++ l).toArray⟩ := by
  induction l with
  | nil => intro s; simp
  | cons b l ih =>
    intro s
    simp only [List.map_cons, List.foldl_cons, Int.toNat_natCast, UInt8.ofNat_toNat]
    have : (ByteArray.mk s.toArray).push b = ⟨(s ++ [b]).toArray⟩ := by simp [ByteArray.push]
    rw [this, ih (s ++ [b])]
    simp
theorem run_str {P : Program} {w : World} {x : Value} {bs : List UInt8} {n : Nat} (src dst e : TypeId) (hs : P.underlying src = some (.slice e)) (he : P.underlying e = some (.int .u8)) (hd : P.underlying dst = some .string) (h : Rd w 1 x n (bv bs)) :
    (convert src dst x).run P w = .ok (.string ⟨bs.toArray⟩) w := by
  obtain ⟨hl, A, c, rfl, _, _, hA, hc⟩ := h
  rw [run_convert_bytes_string w src dst e A n c hs he hd]
  rcases A with _ | a
  · obtain ⟨rfl, _⟩ := hA rfl
    have : bs = [] := List.eq_nil_of_length_eq_zero (by rw [bv_length] at hl; omega)
    subst this
    simp [Conv.bytesToString]
    rfl
  · have hn : n = bs.length := by rw [bv_length] at hl; omega
    subst hn
    have hbv : bv bs = (bs.map fun b : UInt8 => (b.toNat : Int)).map (Value.int .u8) := by simp [bv]
    have h1 := run_loadCells_list (P := P) (w := w) a (bv bs) (hc a rfl)
    rw [bv_length, hbv] at h1
    rw [run_bytesToString w a bs.length c (bs.map fun b : UInt8 => (b.toNat : Int)) h1]
    have h2 := foldl_push bs []
    simp only [List.nil_append] at h2
    rw [show (ByteArray.empty : ByteArray) = ⟨([] : List UInt8).toArray⟩ from rfl, h2]
end
/- Numbers as bytes: the plain mathematics; nothing of the program. -/
section

/-- The form of a number in so many bytes, the highest first. -/
def be : Nat → Nat → List UInt8
  | 0, _ => []
  | k + 1, x => UInt8.ofNat (x / 256 ^ k) :: be k x
@[simp] theorem be_zero (x : Nat) : be 0 x = [] := rfl
theorem be_succ (k x : Nat) : be (k + 1) x = UInt8.ofNat (x / 256 ^ k) :: be k x := rfl
@[simp] theorem be_length (k x : Nat) : (be k x).length = k := by
  induction k with
  | zero => rfl
  | succ k ih => rw [be_succ, List.length_cons, ih]
/-- The first bytes of the form. -/
theorem be_take_succ (k x j : Nat) (h : j < k) : (be k x).take (k - j) = (be k x).take (k - j - 1) ++ [UInt8.ofNat (x / 256 ^ j)] := by
  induction k with
  | zero => omega
  | succ k ih =>
    rcases Nat.lt_or_ge j k with hj | hj
    · have := ih hj
      rw [be_succ, show k + 1 - j = (k - j) + 1 from by omega, List.take_succ_cons, this, show k - j + 1 - 1 = (k - j - 1) + 1 from by omega, List.take_succ_cons, List.cons_append]
    · obtain rfl : j = k := by omega
      rw [be_succ, show j + 1 - j = 1 from by omega]
      simp
/-- The number that bytes are. -/
def num (l : List UInt8) : Nat := l.foldl (fun a b => 256 * a + b.toNat) 0
theorem num_snoc (l : List UInt8) (b : UInt8) : num (l ++ [b]) = 256 * num l + b.toNat := by simp [num]
@[simp] theorem num_nil : num [] = 0 := rfl
theorem num_take (l : List UInt8) (i : Nat) (h : i < l.length) : num (l.take (i + 1)) = 256 * num (l.take i) + l[i].toNat := by
  rw [List.take_succ_eq_append_getElem h, num_snoc]
theorem num_from (b : List UInt8) : ∀ x : Nat, b.foldl (fun a b => 256 * a + b.toNat) x = x * 256 ^ b.length + num b := by
  induction b with
  | nil => intro x; simp
  | cons y b ih =>
    intro x
    have h1 : num (y :: b) = y.toNat * 256 ^ b.length + num b := by
      show (y :: b).foldl (fun a b => 256 * a + b.toNat) 0 = _
      rw [List.foldl_cons, ih]; simp
    rw [List.foldl_cons, ih, h1, List.length_cons, Nat.pow_succ, Nat.add_mul, Nat.mul_comm 256 x, Nat.mul_assoc, Nat.mul_comm 256, Nat.add_assoc]
theorem num_append (a b : List UInt8) : num (a ++ b) = num a * 256 ^ b.length + num b := by
  unfold num
  rw [List.foldl_append]
  exact num_from b _
theorem num_cons (y : UInt8) (b : List UInt8) : num (y :: b) = y.toNat * 256 ^ b.length + num b := by
  have := num_append [y] b
  simpa [num] using this
theorem num_lt (l : List UInt8) : num l < 256 ^ l.length := by
  induction l with
  | nil => simp
  | cons x b ih =>
    rw [num_cons, List.length_cons, Nat.pow_succ]
    have h1 := x.toNat_lt
    have h2 : x.toNat * 256 ^ b.length ≤ 255 * 256 ^ b.length := Nat.mul_le_mul_right _ (by omega)
    omega
theorem num_be (k x : Nat) : num (be k x) = x % 256 ^ k := by
  induction k with
  | zero => simp [Nat.mod_one]
  | succ k ih =>
    rw [be_succ, ← List.singleton_append, num_append, ih, be_length]
    have : num [UInt8.ofNat (x / 256 ^ k)] = x / 256 ^ k % 256 := by simp [num, UInt8.toNat_ofNat']
    rw [this, Nat.mod_pow_succ, Nat.mul_comm, Nat.add_comm]
theorem num_be_lt {k x : Nat} (h : x < 256 ^ k) : num (be k x) = x := by rw [num_be, Nat.mod_eq_of_lt h]
end
/- What a call holds of its own: a list of things in memory, no two of which share a block; each stays as it is while others are turned. -/
section
open Go.RowKit

/-- A thing in memory: its blocks, and what is said of it. -/
structure Res where
  fp : List Nat
  ok : World → Prop
  keep : ∀ w w' S, ok w → Kp S w w' → (∀ b, b ∈ fp → b ∉ S) → ok w'
  lt : ∀ w, ok w → ∀ b, b ∈ fp → b < w.heap.size

def Apart (r s : Res) : Prop := ∀ b, b ∈ r.fp → b ∉ s.fp
theorem Apart.symm {r s : Res} (h : Apart r s) : Apart s r := fun b hb hr => h b hr hb

/-- The things of L, made since w0. -/
structure Held (w0 w : World) (L : List Res) : Prop where
  k : Kp [] w0 w
  ok : ∀ r, r ∈ L → r.ok w
  base : ∀ r, r ∈ L → ∀ b, b ∈ r.fp → w0.heap.size ≤ b
  apart : L.Pairwise Apart

theorem Held.start (w : World) : Held w w [] := ⟨Kp.refl _ _, by simp, by simp, List.Pairwise.nil⟩
theorem Held.at_ {w0 w : World} {l1 l2 : List Res} {r : Res} (h : Held w0 w (l1 ++ r :: l2)) : r.ok w := h.ok r (by simp)
/-- What touches nothing of ours. -/
theorem Held.kp {w0 w w' : World} {L : List Res} (h : Held w0 w L) (hk : Kp [] w w') : Held w0 w' L :=
  ⟨h.k.trans hk (by simp), fun r hr => r.keep w w' [] (h.ok r hr) hk (by simp), h.base, h.apart⟩
theorem Held.alloc {w0 w : World} {L : List Res} (h : Held w0 w L) (o : Obj) : Held w0 (w.alloc o) L := h.kp ((Kp.refl [] w).alloc o)
/-- A new thing. -/
theorem Held.new {w0 w w' : World} {L : List Res} (h : Held w0 w L) (r : Res) (hk : Kp [] w w') (hr : r.ok w') (hf : ∀ b, b ∈ r.fp → w.heap.size ≤ b) : Held w0 w' (r :: L) := by
  have h' := h.kp hk
  refine ⟨h'.k, fun s hs => ?_, fun s hs => ?_, List.pairwise_cons.2 ⟨fun s hs b hb hs' => ?_, h.apart⟩⟩
  · rcases List.mem_cons.1 hs with rfl | hs
    · exact hr
    · exact h'.ok s hs
  · rcases List.mem_cons.1 hs with rfl | hs
    · exact fun b hb => Nat.le_trans h.k.size (hf b hb)
    · exact h.base s hs
  · have h1 := s.lt w (h.ok s hs) b hs'
    have h2 := hf b hb
    omega
theorem Held.drop {w0 w : World} {L : List Res} {r : Res} (h : Held w0 w (r :: L)) : Held w0 w L :=
  ⟨h.k, fun s hs => h.ok s (List.mem_cons_of_mem _ hs), fun s hs => h.base s (List.mem_cons_of_mem _ hs), (List.pairwise_cons.1 h.apart).2⟩
theorem Held.perm {w0 w : World} {L L' : List Res} (h : Held w0 w L) (hp : L.Perm L') : Held w0 w L' :=
  ⟨h.k, fun r hr => h.ok r (hp.mem_iff.2 hr), fun r hr => h.base r (hp.mem_iff.2 hr), hp.pairwise h.apart (fun hx => hx.symm)⟩
/-- The head is turned. -/
theorem Held.turn {w0 w w' : World} {L : List Res} {r : Res} (h : Held w0 w (r :: L)) (r' : Res) (hk : Kp r.fp w w') (hr : r'.ok w') (hf : ∀ b, b ∈ r'.fp → b ∈ r.fp ∨ w.heap.size ≤ b) : Held w0 w' (r' :: L) := by
  have hap := List.pairwise_cons.1 h.apart
  refine ⟨h.k.trans hk (fun g hg => .inr (h.base r (by simp) g hg)), fun s hs => ?_, fun s hs => ?_, List.pairwise_cons.2 ⟨fun s hs b hb hs' => ?_, hap.2⟩⟩
  · rcases List.mem_cons.1 hs with rfl | hs
    · exact hr
    · exact s.keep w w' r.fp (h.ok s (List.mem_cons_of_mem _ hs)) hk (fun b hb hr => (hap.1 s hs) b hr hb)
  · rcases List.mem_cons.1 hs with rfl | hs
    · intro b hb
      rcases hf b hb with h1 | h1
      · exact h.base r (by simp) b h1
      · exact Nat.le_trans h.k.size h1
    · exact h.base s (List.mem_cons_of_mem _ hs)
  · rcases hf b hb with h1 | h1
    · exact hap.1 s hs b h1 hs'
    · have := s.lt w (h.ok s (List.mem_cons_of_mem _ hs)) b hs'
      omega
theorem perm_mid {l1 l2 : List Res} {r : Res} : (l1 ++ r :: l2).Perm (r :: (l1 ++ l2)) := List.perm_middle
/-- One of the list is turned. -/
theorem Held.turnAt {w0 w w' : World} {l1 l2 : List Res} {r : Res} (h : Held w0 w (l1 ++ r :: l2)) (r' : Res) (hk : Kp r.fp w w') (hr : r'.ok w') (hf : ∀ b, b ∈ r'.fp → b ∈ r.fp ∨ w.heap.size ≤ b) : Held w0 w' (l1 ++ r' :: l2) :=
  ((h.perm perm_mid).turn r' hk hr hf).perm perm_mid.symm
/-- A row of the call's own. -/
def rowR (e : TypeId) (s : Nat) (v : Value) (n : Nat) (xs : List Value) : Res where
  fp := v.ownBlock.toList
  ok := fun w => Ow w e s v n xs
  keep := fun _ _ _ h hk hn => ow_kp h hk (fun g hg => hn g (by simp [hg]))
  lt := fun _ h b hb => ow_lt h (by simpa using hb)
/-- A block, whole. -/
def blkR (g : Nat) (t : TypeId) (cs : Array Value) : Res where
  fp := [g]
  ok := fun w => Blk w g t cs
  keep := fun _ _ _ h hk hn => h.kp hk (hn g (by simp))
  lt := fun _ h b hb => by simp at hb; subst hb; exact h.lt
end
/- A region that draws its order: ONE walk, in the order of the text. An operation is QUIET if it yields one value in every world that meets S (a copy, an address, arithmetic, a load of a cell that S names); all others are EFFECTS: each waits for the one before it. Then every order that the tape may pick comes to what the order of the text comes to; S is shown anew behind each effect but the last. -/
section

section
variable {P : Program} {ops : Array Oper} {Q : Exit → Act → World → Prop} {md : Region.Mode} {S : World → Prop} {qf lst : Nat → Bool}

/-- The post with no way out but the normal one. -/
def Qn (Q : Exit → Act → World → Prop) : Exit → Act → World → Prop := fun e a w => e = .normal ∧ Q .normal a w

/-- Whatever order is picked from here on: a quiet operation yields in every world of S; behind an effect S holds as long as anything is left. -/
def wpMix (P : Program) (md : Region.Mode) (ops : Array Oper) (Q : Exit → Act → World → Prop) (S : World → Prop) (qf lst : Nat → Bool) : Nat → Array Bool → Act → World → Prop
  | 0, listed, a, w => Region.ready md ops listed = [] ∧ Q .normal a w
  | fuel + 1, listed, a, w =>
    (Region.ready md ops listed = [] → Q .normal a w) ∧
    ∀ i ∈ Region.ready md ops listed, ∀ o, ops[i]? = some o →
      if qf i = true then ∃ v, YieldsIf P ops S o v a ∧ wpMix P md ops Q S qf lst fuel (listed.setIfInBounds i true) (a.put o.dst v) w
      else wpOp P ops (Qn Q) i (fun a' w' => (lst i = false → S w') ∧ wpMix P md ops Q S qf lst fuel (listed.setIfInBounds i true) a' w') a w

theorem ready_some {i : Nat} {listed : Array Bool} (h : i ∈ Region.ready md ops listed) : ∃ o, ops[i]? = some o := by
  obtain ⟨_, o, ho, _⟩ := mem_ready.1 h
  exact ⟨o, ho⟩

theorem wpOp_n {i : Nat} {a : Act} {w : World} {K : Act → World → Prop} (h : wpOp P ops (Qn Q) i K a w) : wpOp P ops Q i K a w := by
  unfold wpOp at *
  split
  · rename_i ho; simp only [ho] at h; exact h
  · rename_i o ho
    simp only [ho] at h
    split
    · rename_i hw
      simp only [hw, if_true] at h
      rcases h with h | ⟨_, _, _, h, _⟩
      · left
        unfold Oper.wp at *
        generalize (execOp a.eval o).run P w = r at *
        cases r with
        | ok n w' =>
          cases n <;> simp only [Oper.upon] at h ⊢ <;> try exact h
          case enter f args =>
            refine Calls.mono h fun e w'' he => ?_
            cases e with
            | returned u => exact he
            | panicked c => cases he.1
            | outgrown => obtain ⟨_, _, he, _⟩ := he; cases he
        | halt x w' =>
          cases x <;> simp only [Oper.upon] at h ⊢
          cases h.1
      · cases h
    · rename_i hw; simp only [hw] at h; exact h

def Closed (md : Region.Mode) (ops : Array Oper) (listed : Array Bool) : Prop := ∀ j oj, ops[j]? = some oj → listed.getD j false = true → ∀ e ∈ oj.after, Region.binds md e = true → listed.getD e.on false = true

theorem Closed.add {listed : Array Bool} {j : Nat} (h : Closed md ops listed) (hj : j ∈ Region.ready md ops listed) : Closed md ops (listed.setIfInBounds j true) := by
  intro k ok hk hl e he hb
  by_cases hkj : j = k
  · subst hkj
    obtain ⟨_, o', ho', hall⟩ := mem_ready.1 hj
    obtain rfl : ok = o' := by rw [hk] at ho'; exact Option.some.inj ho'
    exact getD_set_true (hall e he hb)
  · rw [getD_set_ne false hkj] at hl
    exact getD_set_true (h k ok hk hl e he hb)

/-- Number j comes last, whatever the order: what it waits for, and what that waits for, is all the rest. -/
def LastIs (md : Region.Mode) (ops : Array Oper) (lst : Nat → Bool) : Prop :=
  ∀ j oj, lst j = true → ops[j]? = some oj → ∀ listed : Array Bool, Closed md ops listed → (∀ e ∈ oj.after, Region.binds md e = true → listed.getD e.on false = true) → ∀ i, i < ops.size → i ≠ j → listed.getD i false = true

theorem LastIs.none_left {j : Nat} {oj : Oper} {listed : Array Bool} (hl : LastIs md ops lst) (hlj : lst j = true) (hj : ops[j]? = some oj) (hsz : listed.size = ops.size) (hcl : Closed md ops listed)
    (hall : ∀ e ∈ oj.after, Region.binds md e = true → listed.getD e.on false = true) : ∀ i, i ≠ j → i ∉ Region.ready md ops listed := by
  intro i hij hr
  obtain ⟨h0, oi, hoi, _⟩ := mem_ready.1 hr
  have hlo : i < ops.size := (Array.getElem?_eq_some_iff.1 hoi).1
  have h1 := hl j oj hlj hj listed hcl hall i hlo hij
  have hlt : i < listed.size := by rw [hsz]; exact hlo
  simp [hlt] at h0 h1
  rw [h0] at h1; cases h1

theorem any_of_mix (hl : LastIs md ops lst) : ∀ (fuel : Nat) (listed : Array Bool) (a : Act) (w : World), listed.size = ops.size → Closed md ops listed → (S w ∨ Region.ready md ops listed = []) → wpMix P md ops Q S qf lst fuel listed a w → wpAny P md ops Q fuel listed a w
  | 0, _, _, _, _, _, _, h => h
  | fuel + 1, listed, a, w, hsz, hcl, hS, h => ⟨h.1, fun i hi => by
      obtain ⟨o, ho⟩ := ready_some hi
      have h2 := h.2 i hi o ho
      have hSw : S w := hS.resolve_right (fun e => by rw [e] at hi; cases hi)
      have hsz' : (listed.setIfInBounds i true).size = ops.size := by rw [Array.size_setIfInBounds, hsz]
      split at h2
      · obtain ⟨v, hy, hm⟩ := h2
        exact hy.wpOp ho hSw (any_of_mix hl fuel _ _ _ hsz' (hcl.add hi) (.inl hSw) hm)
      · refine wpOp_n (wpOp_mono (fun a' w' ⟨h3, h4⟩ => any_of_mix hl fuel _ a' w' hsz' (hcl.add hi) ?_ h4) h2)
        cases hli : lst i with
        | false => exact .inl (h3 hli)
        | true =>
          right
          obtain ⟨_, o', ho', hall⟩ := mem_ready.1 hi
          obtain rfl : o = o' := by rw [ho] at ho'; exact Option.some.inj ho'
          refine List.eq_nil_iff_forall_not_mem.2 fun k hk => ?_
          by_cases hki : k = i
          · subst hki
            have := (mem_ready.1 hk).1
            have hlt : k < listed.size := by rw [hsz]; exact (Array.getElem?_eq_some_iff.1 ho).1
            simp [hlt] at this
          · exact LastIs.none_left hl hli ho hsz' (hcl.add hi) (fun e he hb => getD_set_true (hall e he hb)) k hki hk⟩

theorem not_wait {i : Nat} {listed : Array Bool} {oj : Oper} (hr : i ∈ Region.ready md ops listed) (hall : ∀ e ∈ oj.after, Region.binds md e = true → listed.getD e.on false = true) :
    ∀ e ∈ oj.after, Region.binds md e = true → e.on ≠ i := fun e he hb heq => by
  have h1 := hall e he hb
  have h0 := (mem_ready.1 hr).1
  rw [heq] at h1
  rcases Nat.lt_or_ge i listed.size with h' | h'
  · simp [h'] at h0 h1; rw [h0] at h1; cases h1
  · simp [Array.getElem?_eq_none h'] at h1

theorem YieldsIf.putBack {oi oj : Oper} {v : Value} {a : Act} {u : Value} (hap : oi.apart ops oj = true) (hsj : ∀ cs b, oj.op ≠ .select cs b) (h : YieldsIf P ops S oj u (a.put oi.dst v)) : YieldsIf P ops S oj u a := by
  obtain ⟨h1, _, _⟩ := Oper.apart_spec hap
  unfold YieldsIf at *
  rw [execOp_put oj hsj a oi.dst v h1, wanted_put oj a oi.dst v h1] at h
  exact h
theorem YieldsIf.putOn {oi oj : Oper} {v : Value} {a : Act} {u : Value} (hap : oi.apart ops oj = true) (hsi : ∀ cs b, oi.op ≠ .select cs b) (h : YieldsIf P ops S oi v a) : YieldsIf P ops S oi v (a.put oj.dst u) := by
  obtain ⟨_, _, h3⟩ := Oper.apart_spec hap
  exact YieldsIf.of_same h (execOp_put oi hsi a oj.dst u h3) (wanted_put oi a oj.dst u h3)

/-- Q on the frame with oi's value put: oj is carried out before it. -/
theorem wpOp_before {j : Nat} {oi oj : Oper} {v : Value} (hj : ops[j]? = some oj) (hap : oi.apart ops oj = true)
    (hsi : ∀ cs b, oi.op ≠ .select cs b) (hsj : ∀ cs b, oj.op ≠ .select cs b) {K : Act → World → Prop} {a : Act} {w : World}
    (hy : YieldsIf P ops S oi v a) (h : wpOp P ops (Qn Q) j K (a.put oi.dst v) w) :
    wpOp P ops (Qn Q) j (fun a' w' => YieldsIf P ops S oi v a' ∧ K (a'.put oi.dst v) w') a w :=  by
  obtain ⟨h1, h2, h3⟩ := Oper.apart_spec hap
  have keep : ∀ (a : Act), YieldsIf P ops S oi v a → ∀ u, YieldsIf P ops S oi v (a.put oj.dst u) := fun a hy u => YieldsIf.putOn hap hsi hy
  have keepD : ∀ d, YieldsIf P ops S oi v { a with defers := d :: a.defers } := fun d => hy.of_same rfl rfl
  unfold wpOp at *
  simp only [hj] at *
  rw [wanted_put oj a oi.dst v h1] at h
  split
  · rename_i hw
    simp only [hw, if_true] at h
    rcases h with h | ⟨_, _, _, h, _⟩
    case inr => cases h
    refine .inl ?_
    unfold Oper.wp at *
    rw [execOp_put oj hsj a oi.dst v h1] at h
    generalize (execOp a.eval oj).run P w = r at *
    cases r with
    | ok n w' =>
      cases n <;> simp only [Oper.upon] at h ⊢
      case value u => exact ⟨keep a hy u, by rw [← Act.put_comm a v u h2]; exact h⟩
      case skip => exact ⟨keep a hy _, by rw [← Act.put_comm a v undef h2]; exact h⟩
      case defer d =>
        refine ⟨keep _ (keepD d) _, ?_⟩
        rw [← Act.put_comm _ v undef h2, ← Act.put_defers]
        exact h
      case enter f args =>
        refine Calls.mono h fun e w'' he => ?_
        cases e with
        | returned u => exact ⟨keep a hy u, by rw [← Act.put_comm a v u h2]; exact he⟩
        | panicked c => cases he.1
        | outgrown => exact he
      case row row args => exact Rows.mono h fun u w'' he => ⟨keep a hy u, by rw [← Act.put_comm a v u h2]; exact he⟩
    | halt x w' =>
      cases x <;> simp only [Oper.upon] at h ⊢
      case panic u => cases h.1
  · rename_i hw
    simp only [hw] at h
    exact ⟨keep a hy _, by rw [← Act.put_comm a v undef h2]; exact h⟩

/-- A quiet operation may be taken first. -/
theorem mix_first_quiet {i : Nat} {oi : Oper} {v : Value} (hi : ops[i]? = some oi) (hsel : ∀ (j : Nat) (o : Oper) cs b, ops[j]? = some o → o.op ≠ .select cs b) (_hl : LastIs md ops lst) (hqi : qf i = true) :
    ∀ (fuel : Nat) (listed : Array Bool) (a : Act) (w : World), listed.size = ops.size →
      (∀ j oj, ops[j]? = some oj → j ≠ i → listed.getD j true = false → (∀ e ∈ oj.after, Region.binds md e = true → e.on ≠ i) → oi.apart ops oj = true) →
      i ∈ Region.ready md ops listed → YieldsIf P ops S oi v a →
      wpMix P md ops Q S qf lst fuel (listed.setIfInBounds i true) (a.put oi.dst v) w → wpMix P md ops Q S qf lst (fuel + 1) listed a w := by
  intro fuel
  induction fuel with
  | zero =>
    intro listed a w _ _ hr hy H
    refine ⟨fun h => (by rw [h] at hr; cases hr), fun j hj o ho => ?_⟩
    by_cases hji : j = i
    · subst hji
      obtain rfl : oi = o := by rw [hi] at ho; exact Option.some.inj ho
      rw [if_pos hqi]; exact ⟨v, hy, H⟩
    · have := ready_mono hj hji
      rw [H.1] at this
      cases this
  | succ fuel ih =>
    intro listed a w hsz hfree hr hy H
    refine ⟨fun h => (by rw [h] at hr; cases hr), fun j hj oj hoj => ?_⟩
    by_cases hji : j = i
    · subst hji
      obtain rfl : oi = oj := by rw [hi] at hoj; exact Option.some.inj hoj
      rw [if_pos hqi]; exact ⟨v, hy, H⟩
    · have h1 := H.2 j (ready_mono hj hji) oj hoj
      obtain ⟨hjun, oj', hoj', hall⟩ := mem_ready.1 hj
      obtain rfl : oj = oj' := by rw [hoj] at hoj'; exact Option.some.inj hoj'
      have hap := hfree j oj hoj hji hjun (not_wait hr hall)
      have hsi := fun cs b => hsel i oi cs b hi
      have hsj := fun cs b => hsel j oj cs b hoj
      have hfree' : ∀ k ok, ops[k]? = some ok → k ≠ i → (listed.setIfInBounds j true).getD k true = false →
          (∀ e ∈ ok.after, Region.binds md e = true → e.on ≠ i) → oi.apart ops ok = true := fun k ok hk hki hun hno => by
        refine hfree k ok hk hki ?_ hno
        by_cases hjk : j = k
        · subst hjk; exact hjun
        · rw [getD_set_ne true hjk] at hun; exact hun
      split at h1
      · rename_i hqj
        rw [if_pos hqj]
        obtain ⟨u, hyj, hm⟩ := h1
        refine ⟨u, YieldsIf.putBack hap hsj hyj, ih (listed.setIfInBounds j true) (a.put oj.dst u) w (by rw [Array.size_setIfInBounds, hsz]) hfree' (ready_mono hr (Ne.symm hji)) (YieldsIf.putOn hap hsi hy) ?_⟩
        rw [Array.setIfInBounds_comm _ _ hji, ← Act.put_comm a v u (Oper.apart_spec hap).2.1]
        exact hm
      · rename_i hqj
        rw [if_neg hqj]
        have h2 := wpOp_before hoj hap hsi hsj hy h1
        refine wpOp_mono (fun a' w' h3 => ⟨h3.2.1, ih (listed.setIfInBounds j true) a' w' (by rw [Array.size_setIfInBounds, hsz]) hfree' (ready_mono hr (Ne.symm hji)) h3.1 ?_⟩) h2
        rw [Array.setIfInBounds_comm _ _ hji]
        exact h3.2.2

/-- What an effect leaves, somewhere. -/
theorem wpOp_some {i : Nat} {oi : Oper} {K : Act → World → Prop} {a : Act} {w : World} (hi : ops[i]? = some oi) (h : wpOp P ops (Qn Q) i K a w) :
    ∃ v d w', K ({ a with defers := d }.put oi.dst v) w' := by
  unfold wpOp at h
  simp only [hi] at h
  split at h
  · rcases h with h | ⟨_, _, _, h, _⟩
    case inr => cases h
    unfold Oper.wp at h
    generalize (execOp a.eval oi).run P w = r at h
    cases r with
    | ok n w' =>
      cases n <;> simp only [Oper.upon] at h
      case value u => exact ⟨u, a.defers, w', h⟩
      case skip => exact ⟨undef, a.defers, w', h⟩
      case defer d => exact ⟨undef, d :: a.defers, w', h⟩
      case enter f args =>
        obtain ⟨e, w'', fr, hR, _⟩ := h []
        cases e with
        | returned u => exact ⟨u, a.defers, w'', hR⟩
        | panicked c => cases hR.1
        | outgrown => obtain ⟨_, _, hR, _⟩ := hR; cases hR
      case row row args =>
        obtain ⟨u, w'', hR, _⟩ := h (Frame.ofRow P row args .normal) []
        exact ⟨u, a.defers, w'', hR⟩
    | halt x w' =>
      cases x <;> simp only [Oper.upon] at h
      cases h.1
  · exact ⟨undef, a.defers, w, h⟩

/-- An effect, carried out behind a quiet operation. -/
theorem wpOp_behind {i : Nat} {oi oj : Oper} {u : Value} (hi : ops[i]? = some oi) (hap : oi.apart ops oj = true) (hsi : ∀ cs b, oi.op ≠ .select cs b)
    {K K2 : Act → World → Prop} {a : Act} {w : World} (h : wpOp P ops (Qn Q) i K a w) (hK : ∀ v d w', K ({ a with defers := d }.put oi.dst v) w' → K2 (({ a with defers := d }.put oi.dst v).put oj.dst u) w') :
    wpOp P ops (Qn Q) i K2 (a.put oj.dst u) w := by
  obtain ⟨_, h2, h3⟩ := Oper.apart_spec hap
  have comm : ∀ (d : List Deferred) (v : Value), Act.put (Act.put { a with defers := d } oi.dst v) oj.dst u = Act.put { a.put oj.dst u with defers := d } oi.dst v := by
    intro d v
    rw [Act.put_comm _ v u h2]
    cases oj.dst <;> rfl
  unfold wpOp at *
  simp only [hi] at *
  rw [wanted_put oi a oj.dst u h3]
  split
  · rename_i hw
    simp only [hw, if_true] at h
    rcases h with h | ⟨_, _, _, h, _⟩
    case inr => cases h
    refine .inl ?_
    unfold Oper.wp at *
    rw [execOp_put oi hsi a oj.dst u h3]
    generalize (execOp a.eval oi).run P w = r at *
    cases r with
    | ok n w' =>
      cases n <;> simp only [Oper.upon] at h ⊢
      case value x => have := hK x a.defers w' h; rw [comm] at this; cases hd : oj.dst <;> (simp only [hd] at this ⊢; exact this)
      case skip => have := hK undef a.defers w' h; rw [comm] at this; cases hd : oj.dst <;> (simp only [hd] at this ⊢; exact this)
      case defer d => have := hK undef (d :: a.defers) w' h; rw [comm] at this; cases hd : oj.dst <;> (simp only [hd] at this ⊢; exact this)
      case enter f args =>
        refine Calls.mono h fun e w'' he => ?_
        cases e with
        | returned x => have := hK x a.defers w'' he; rw [comm] at this; cases hd : oj.dst <;> (simp only [hd] at this ⊢; exact this)
        | panicked c => cases he.1
        | outgrown => exact he
      case row row args => exact Rows.mono h fun x w'' he => by have := hK x a.defers w'' he; rw [comm] at this; cases hd : oj.dst <;> (simp only [hd] at this ⊢; exact this)
    | halt x w' =>
      cases x <;> simp only [Oper.upon] at h ⊢
      case panic x => cases h.1
  · rename_i hw
    simp only [hw] at h
    have := hK undef a.defers w h
    rw [comm] at this
    cases hd : oj.dst <;> (simp only [hd] at this ⊢; exact this)

/-- All that stands before number j of the text's order has come up; each effect waits for the effect before it. -/
def Chain (md : Region.Mode) (ops : Array Oper) (qf : Nat → Bool) : Prop :=
  ∀ j oj, qf j = false → ops[j]? = some oj → ∀ i, i < j → qf i = false → (∀ k, i < k → k < j → qf k = true) →
    ∀ listed : Array Bool, Closed md ops listed → (∀ e ∈ oj.after, Region.binds md e = true → listed.getD e.on false = true) → listed.getD i false = true
/-- Where all that an effect waits for has come up, so have all effects before it. -/
theorem chain_before (hc : Chain md ops qf) {listed : Array Bool} (hcl : Closed md ops listed) : ∀ (n j : Nat) (oj : Oper), j ≤ n → qf j = false → ops[j]? = some oj → (∀ e ∈ oj.after, Region.binds md e = true → listed.getD e.on false = true) →
    ∀ i, i < j → qf i = false → listed.getD i false = true := by
  intro n
  induction n with
  | zero => intro j oj hj _ _ _ i hi; omega
  | succ n ih =>
    intro j oj hjn hqj hj hall i hij hqi
    -- the last effect before j
    have hex : ∃ p, i ≤ p ∧ p < j ∧ qf p = false ∧ ∀ k, p < k → k < j → qf k = true := by
      clear hall ih hj hjn
      induction j with
      | zero => omega
      | succ j ihj =>
        cases hq : qf j with
        | false => exact ⟨j, by omega, by omega, hq, fun k h1 h2 => by omega⟩
        | true =>
          by_cases h : i = j
          · subst h; rw [hq] at hqi; cases hqi
          · have : ∃ p, i ≤ p ∧ p < j ∧ qf p = false ∧ ∀ k, p < k → k < j → qf k = true := by
              clear ihj
              have hlt : i < j := by omega
              clear h hij hqj
              induction j with
              | zero => omega
              | succ j ih2 =>
                cases hq2 : qf j with
                | false => exact ⟨j, by omega, by omega, hq2, fun k h1 h2 => by omega⟩
                | true =>
                  by_cases h : i = j
                  · subst h; rw [hq2] at hqi; cases hqi
                  · obtain ⟨p, h1, h2, h3, h4⟩ := ih2 hq2 (by omega)
                    exact ⟨p, h1, by omega, h3, fun k h5 h6 => by
                      by_cases e : k = j
                      · subst e; exact hq2
                      · exact h4 k h5 (by omega)⟩
            obtain ⟨p, h1, h2, h3, h4⟩ := this
            exact ⟨p, h1, by omega, h3, fun k h5 h6 => by
              by_cases e : k = j
              · subst e; exact hq
              · exact h4 k h5 (by omega)⟩
    obtain ⟨p, hip, hpj, hqp, hbt⟩ := hex
    have hlp : listed.getD p false = true := hc j oj hqj hj p hpj hqp hbt listed hcl hall
    by_cases hpe : i = p
    · subst hpe; exact hlp
    · have hlt : p < listed.size := by
        rcases Nat.lt_or_ge p listed.size with h' | h'
        · exact h'
        · simp [Array.getElem?_eq_none h'] at hlp
      have hpo : p < ops.size := Nat.lt_trans hpj (Array.getElem?_eq_some_iff.1 hj).1
      exact ih p ops[p] (by omega) hqp (Array.getElem?_eq_getElem hpo) (hcl p ops[p] (Array.getElem?_eq_getElem hpo) hlp) i (by omega) hqi

/-- An effect may be taken first, if all that stands before it in the text has come up. -/
theorem mix_first_effect {i : Nat} {oi : Oper} (hi : ops[i]? = some oi) (hsel : ∀ (j : Nat) (o : Oper) cs b, ops[j]? = some o → o.op ≠ .select cs b) (_hl : LastIs md ops lst) (hc : Chain md ops qf) (hqi : qf i = false) :
    ∀ (fuel : Nat) (listed : Array Bool) (a : Act) (w : World), listed.size = ops.size → Closed md ops listed → (∀ m, m < i → listed.getD m true = true) →
      (∀ j oj, ops[j]? = some oj → j ≠ i → qf j = true → listed.getD j true = false → (∀ e ∈ oj.after, Region.binds md e = true → e.on ≠ i) → oi.apart ops oj = true) →
      i ∈ Region.ready md ops listed → S w →
      wpOp P ops (Qn Q) i (fun a' w' => (lst i = false → S w') ∧ wpMix P md ops Q S qf lst fuel (listed.setIfInBounds i true) a' w') a w → wpMix P md ops Q S qf lst (fuel + 1) listed a w := by
  intro fuel
  induction fuel with
  | zero =>
    intro listed a w _ _ _ _ hr _ H
    refine ⟨fun h => (by rw [h] at hr; cases hr), fun j hj o ho => ?_⟩
    by_cases hji : j = i
    · subst hji
      rw [if_neg (by rw [hqi]; simp)]; exact H
    · obtain ⟨v, d, w', _, H'⟩ := wpOp_some hi H
      have := ready_mono hj hji
      rw [H'.1] at this
      cases this
  | succ fuel ih =>
    intro listed a w hsz hcl hbef hfree hr hS H
    refine ⟨fun h => (by rw [h] at hr; cases hr), fun j hj oj hoj => ?_⟩
    by_cases hji : j = i
    · subst hji
      rw [if_neg (by rw [hqi]; simp)]; exact H
    · obtain ⟨hjun, oj', hoj', hall⟩ := mem_ready.1 hj
      obtain rfl : oj = oj' := by rw [hoj] at hoj'; exact Option.some.inj hoj'
      have hun : listed.getD i true = false := (mem_ready.1 hr).1
      cases hqj : qf j with
      | false =>
        exfalso
        rcases Nat.lt_or_ge j i with hlt | hge
        · rw [hbef j hlt] at hjun; cases hjun
        · have h1 := chain_before hc hcl j j oj (Nat.le_refl _) hqj hoj hall i (by omega) hqi
          have hlt : i < listed.size := by rw [hsz]; exact (Array.getElem?_eq_some_iff.1 hi).1
          simp [hlt] at h1 hun
          rw [h1] at hun; cases hun
      | true =>
        rw [if_pos rfl]
        have hap := hfree j oj hoj hji hqj hjun (not_wait hr hall)
        have hsi := fun cs b => hsel i oi cs b hi
        have hsj := fun cs b => hsel j oj cs b hoj
        have hjr' := ready_mono hj hji
        have back : ∀ (d : List Deferred) (v u : Value), YieldsIf P ops S oj u (Act.put { a with defers := d } oi.dst v) → YieldsIf P ops S oj u a := fun d v u hy =>
          YieldsIf.of_same (YieldsIf.putBack hap hsj hy) rfl rfl
        have uniq : ∀ (u u' : Value) (w : World), S w → YieldsIf P ops S oj u a → YieldsIf P ops S oj u' a → u = u' := fun u u' w hw h1 h2 => by
          rcases h1 with ⟨g1, h1⟩ | ⟨g1, h1⟩ <;> rcases h2 with ⟨g2, h2⟩ | ⟨g2, h2⟩
          · have := (h1 w hw).symm.trans (h2 w hw)
            simpa using this
          · rw [g1] at g2; cases g2
          · rw [g1] at g2; cases g2
          · rw [h1, h2]
        obtain ⟨v0, d0, w0, _, H0⟩ := wpOp_some hi H
        have h0 := H0.2 j hjr' oj hoj
        rw [if_pos hqj] at h0
        obtain ⟨u, hyu, _⟩ := h0
        have hya := back d0 v0 u hyu
        refine ⟨u, hya, ih (listed.setIfInBounds j true) (a.put oj.dst u) w (by rw [Array.size_setIfInBounds, hsz]) (hcl.add hj) ?_ ?_ (ready_mono hr (Ne.symm hji)) hS ?_⟩
        · intro m hm
          by_cases hjm : j = m
          · subst hjm; rw [hbef j hm] at hjun; cases hjun
          · rw [getD_set_ne true hjm]; exact hbef m hm
        · intro k ok hk hki hqk hunk hno
          refine hfree k ok hk hki hqk ?_ hno
          by_cases hjk : j = k
          · subst hjk; exact hjun
          · rw [getD_set_ne true hjk] at hunk; exact hunk
        · refine wpOp_behind hi hap hsi H fun v d w' ⟨hS', hm⟩ => ⟨hS', ?_⟩
          have h1 := hm.2 j hjr' oj hoj
          rw [if_pos hqj] at h1
          obtain ⟨u', hy', hm'⟩ := h1
          obtain rfl : u = u' := uniq u u' w hS hya (back d v u' hy')
          rw [Array.setIfInBounds_comm _ _ hji]
          exact hm'

/-! ### The walk in the order of the text -/

/-- The operations from number k on, in the order of the text. -/
def wpLex (P : Program) (ops : Array Oper) (Q : Exit → Act → World → Prop) (S : World → Prop) (qf lst : Nat → Bool) : List Oper → Nat → Act → World → Prop
  | [], _, a, w => Q .normal a w
  | o :: rest, k, a, w =>
    if qf k = true then ∃ v, YieldsIf P ops S o v a ∧ wpLex P ops Q S qf lst rest (k + 1) (a.put o.dst v) w
    else if Region.wanted o (yielded ops a.tmps) then o.wp P a w (fun a' w' => (lst k = false → S w') ∧ wpLex P ops Q S qf lst rest (k + 1) a' w') (Qn Q)
    else wpLex P ops Q S qf lst rest (k + 1) (a.put o.dst undef) w

/-- The flags out of two lists of numbers: the effects; those that wait for all others. -/
def qfOf (es : List Nat) (k : Nat) : Bool := !es.contains k
def waitsB (md : Region.Mode) (oj : Oper) (i : Nat) : Bool := oj.after.any fun e => Region.binds md e && e.on == i
theorem waitsB_spec {oj : Oper} {i : Nat} (h : waitsB md oj i = true) : ∃ e ∈ oj.after, Region.binds md e = true ∧ e.on = i := by
  obtain ⟨e, he, hb⟩ := Array.any_eq_true'.1 h
  simp only [Bool.and_eq_true, beq_iff_eq] at hb
  exact ⟨e, he, hb⟩
def addEdges (md : Region.Mode) (o : Oper) (F : Array Bool) : Array Bool := o.after.toList.foldl (fun F e => if Region.binds md e then F.setIfInBounds e.on true else F) F
def forced (md : Region.Mode) (ops : Array Oper) : List Nat → Array Bool → Array Bool
  | [], F => F
  | i :: is, F => forced md ops is (if F.getD i false then (match ops[i]? with | some o => addEdges md o F | none => F) else F)
def lastB (md : Region.Mode) (ops : Array Oper) (j : Nat) : Bool :=
  match ops[j]? with
  | none => false
  | some oj => (List.range ops.size).all fun i => i == j || (forced md ops (List.range ops.size).reverse (addEdges md oj (Array.replicate ops.size false))).getD i false
theorem addEdges_sub {listed : Array Bool} (es : List Edge) : ∀ (F : Array Bool), (∀ i, F.getD i false = true → listed.getD i false = true) → (∀ e ∈ es, Region.binds md e = true → listed.getD e.on false = true) →
    ∀ i, (es.foldl (fun F e => if Region.binds md e then F.setIfInBounds e.on true else F) F).getD i false = true → listed.getD i false = true := by
  induction es with
  | nil => intro F h _ i hi; exact h i hi
  | cons e es ih =>
    intro F h hall i hi
    refine ih _ ?_ (fun e' he' => hall e' (List.mem_cons_of_mem _ he')) i hi
    intro k hk
    simp only at hk
    split at hk
    · rename_i hb
      by_cases hke : e.on = k
      · subst hke; exact hall e (by simp) hb
      · rw [getD_set_ne false hke] at hk; exact h k hk
    · exact h k hk
theorem forced_sub {listed : Array Bool} (hcl : Closed md ops listed) : ∀ (is : List Nat) (F : Array Bool), (∀ i, F.getD i false = true → listed.getD i false = true) → ∀ i, (forced md ops is F).getD i false = true → listed.getD i false = true
  | [], _, h, i, hi => h i hi
  | j :: is, F, h, i, hi => by
    unfold forced at hi
    refine forced_sub hcl is _ ?_ i hi
    intro k hk
    split at hk
    · rename_i hj
      split at hk
      · rename_i o ho
        exact addEdges_sub o.after.toList F h (fun e he hb => hcl j o ho (h j hj) e (by simpa using he) hb) k hk
      · exact h k hk
    · exact h k hk
theorem lastB_spec : LastIs md ops (lastB md ops) := by
  intro j oj hl hj listed hcl hall i hi hne
  simp only [lastB, hj, List.all_eq_true, List.mem_range, Bool.or_eq_true, beq_iff_eq] at hl
  have h1 := (hl i hi).resolve_left hne
  exact forced_sub hcl _ _ (fun k hk => addEdges_sub oj.after.toList _ (fun m hm => by simp [Array.getElem?_replicate] at hm; split at hm <;> simp at hm) (fun e he hb => hall e (by simpa using he) hb) k hk) i h1

/-- The flags of those that wait for all others, out of their list. -/
def lsOf (ls : List Nat) (k : Nat) : Bool := ls.contains k
theorem lsOf_spec {ls : List Nat} (h : ls.all (lastB md ops) = true) : LastIs md ops (lsOf ls) := fun j oj hl => by
  have hm : j ∈ ls := by simpa [lsOf] using hl
  exact lastB_spec j oj (List.all_eq_true.1 h j hm)

theorem ls_absurd {ls : List Nat} {k : Nat} {p : Prop} (h : lsOf ls k = false) (hk : lsOf ls k = true) : p := by rw [h] at hk; cases hk

/-- oj waits for number i, at once or by way of others. -/
def waitsF (md : Region.Mode) (ops : Array Oper) (oj : Oper) (i : Nat) : Bool := waitsB md oj i || (forced md ops (List.range ops.size).reverse (addEdges md oj (Array.replicate ops.size false))).getD i false
theorem waitsF_spec {oj : Oper} {i : Nat} (h : waitsF md ops oj i = true) (listed : Array Bool) (hcl : Closed md ops listed) (hall : ∀ e ∈ oj.after, Region.binds md e = true → listed.getD e.on false = true) : listed.getD i false = true := by
  unfold waitsF at h
  rw [Bool.or_eq_true] at h
  rcases h with h | h
  · obtain ⟨e, he, hb, heq⟩ := waitsB_spec h
    rw [← heq]; exact hall e he hb
  · exact forced_sub hcl _ _ (fun k hk => addEdges_sub oj.after.toList _ (fun m hm => by simp [Array.getElem?_replicate] at hm; split at hm <;> simp at hm) (fun e he hb => hall e (by simpa using he) hb) k hk) i h

def chainB (md : Region.Mode) (ops : Array Oper) : List Nat → Bool
  | i :: j :: rest => decide (i < j) && (match ops[j]? with | some oj => waitsF md ops oj i | none => false) && chainB md ops (j :: rest)
  | _ => true
theorem chainB_sorted : ∀ (es : List Nat) (i : Nat), chainB md ops (i :: es) = true → ∀ j ∈ es, i < j
  | [], _, _, _, hj => by cases hj
  | k :: es, i, h, j, hj => by
    simp only [chainB, Bool.and_eq_true, decide_eq_true_eq] at h
    rcases List.mem_cons.1 hj with rfl | hj
    · exact h.1.1
    · exact Nat.lt_trans h.1.1 (chainB_sorted es k h.2 j hj)
theorem chainB_next : ∀ (es : List Nat), chainB md ops es = true → ∀ j oj, ops[j]? = some oj → j ∈ es → ∀ i, i ∈ es → i < j → (∀ k, i < k → k < j → k ∉ es) →
    ∀ listed : Array Bool, Closed md ops listed → (∀ e ∈ oj.after, Region.binds md e = true → listed.getD e.on false = true) → listed.getD i false = true
  | [], _, _, _, _, hj, _, _, _, _ => by cases hj
  | [x], _, j, _, _, hj, i, hi, hij, _ => by
    have h1 : j = x := by simpa using hj
    have h2 : i = x := by simpa using hi
    omega
  | x :: y :: es, h, j, oj, hoj, hj, i, hi, hij, hbt => by
    have hs := chainB_sorted _ _ h
    simp only [chainB, Bool.and_eq_true, decide_eq_true_eq] at h
    have hs2 := chainB_sorted _ _ h.2
    by_cases hx : i = x
    · subst hx
      have hy : y = j := by
        rcases List.mem_cons.1 hj with rfl | hj'
        · omega
        · rcases List.mem_cons.1 hj' with rfl | hj''
          · rfl
          · exact absurd (by simp) (hbt y h.1.1 (hs2 j hj''))
      subst hy
      have := h.1.2
      rw [hoj] at this
      exact waitsF_spec this
    · have hi' : i ∈ y :: es := (List.mem_cons.1 hi).resolve_left hx
      have hj' : j ∈ y :: es := (List.mem_cons.1 hj).resolve_left (fun e => by have := hs i hi'; omega)
      exact chainB_next (y :: es) h.2 j oj hoj hj' i hi' hij (fun k h1 h2 hm => hbt k h1 h2 (List.mem_cons_of_mem _ hm))
theorem chainB_spec {es : List Nat} (h : chainB md ops es = true) : Chain md ops (qfOf es) := by
  intro j oj hqj hj i hij hqi hbt
  have mem : ∀ k, qfOf es k = false ↔ k ∈ es := fun k => by simp [qfOf]
  refine chainB_next es h j oj hj ((mem j).1 hqj) i ((mem i).1 hqi) hij (fun k h1 h2 hm => ?_)
  have := hbt k h1 h2
  rw [(mem k).2 hm] at this
  cases this

/-- Number i, next in the text: whatever has not come up either waits for it or is apart from it; behind an effect that is asked of quiet ones alone. -/
def freeE (md : Region.Mode) (ops : Array Oper) (qf : Nat → Bool) (listed : Array Bool) (i : Nat) : Bool :=
  match ops[i]? with
  | none => false
  | some oi => (List.range ops.size).all fun j => j == i || listed.getD j true || (!qf i && !qf j) || match ops[j]? with
      | some oj => waitsB md oj i || oi.apart ops oj
      | none => true
theorem freeE_spec {i : Nat} {oi : Oper} {listed : Array Bool} (hi : ops[i]? = some oi) (h : freeE md ops qf listed i = true) (j : Nat) (oj : Oper)
    (hj : ops[j]? = some oj) (hne : j ≠ i) (hq : qf i = true ∨ qf j = true) (hun : listed.getD j true = false) (hno : ∀ e ∈ oj.after, Region.binds md e = true → e.on ≠ i) :
    oi.apart ops oj = true := by
  simp only [freeE, hi, List.all_eq_true, List.mem_range] at h
  have h1 := h j (Array.getElem?_eq_some_iff.1 hj).1
  have hqq : (!qf i && !qf j) = false := by rcases hq with h | h <;> simp [h]
  simp only [hj, Bool.or_eq_true, beq_iff_eq, hne, false_or, hun, Bool.false_eq_true, hqq] at h1
  rcases h1 with h1 | h1
  · obtain ⟨e, he, hb, heq⟩ := waitsB_spec h1
    exact absurd heq (hno e he hb)
  · exact h1
def lexFromE (md : Region.Mode) (ops : Array Oper) (qf : Nat → Bool) : Nat → Nat → Array Bool → Bool
  | 0, _, listed => (Region.ready md ops listed).isEmpty
  | fuel + 1, k, listed => (Region.ready md ops listed).contains k && freeE md ops qf listed k && lexFromE md ops qf fuel (k + 1) (listed.setIfInBounds k true)
def lexE (ops : Array Oper) (es ls : List Nat) : Bool := Region.noSelect ops && (ls.all (lastB .any ops) && chainB .any ops es) && lexFromE .any ops (qfOf es) ops.size 0 (Array.replicate ops.size false)

theorem mix_lex (hs : Region.noSelect ops = true) (hl : LastIs md ops lst) (hc : Chain md ops qf) : ∀ (l : List Oper) (k : Nat) (listed : Array Bool) (a : Act) (w : World), (∀ j, l[j]? = ops[k + j]?) →
    lexFromE md ops qf l.length k listed = true → listed.size = ops.size → Closed md ops listed → (∀ m, m < k → listed.getD m true = true) → (S w ∨ l = []) →
    wpLex P ops Q S qf lst l k a w → wpMix P md ops Q S qf lst l.length listed a w
  | [], _, _, _, _, _, hB, _, _, _, _, h => ⟨by simpa [lexFromE] using hB, h⟩
  | o :: l, k, listed, a, w, hops, hB, hsz, hcl, hbef, hS, h => by
    have h0 : ops[k]? = some o := by simpa using (hops 0).symm
    simp only [List.length_cons, lexFromE, Bool.and_eq_true] at hB
    obtain ⟨⟨hr, hf⟩, hB'⟩ := hB
    have hr' : k ∈ Region.ready md ops listed := by simpa using hr
    have hops' : ∀ j, l[j]? = ops[k + 1 + j]? := fun j => by have := hops (j + 1); simpa [Nat.add_assoc, Nat.add_comm 1 j] using this
    have hsz' : (listed.setIfInBounds k true).size = ops.size := by rw [Array.size_setIfInBounds, hsz]
    have hkl : k < listed.size := by rw [hsz]; exact (Array.getElem?_eq_some_iff.1 h0).1
    have hbef' : ∀ m, m < k + 1 → (listed.setIfInBounds k true).getD m true = true := fun m hm => by
      by_cases hkm : k = m
      · subst hkm; simp [hkl]
      · rw [getD_set_ne true hkm]; exact hbef m (by omega)
    have hSw : S w := hS.resolve_right (by simp)
    unfold wpLex at h
    cases hq : qf k with
    | true =>
      rw [if_pos hq] at h
      obtain ⟨v, hy, hK⟩ := h
      exact mix_first_quiet h0 (Region.noSelect_spec hs) hl hq l.length listed a w hsz (fun j oj hj hne hun hno => freeE_spec h0 hf j oj hj hne (.inl hq) hun hno) hr' hy
        (mix_lex hs hl hc l (k + 1) _ _ w hops' hB' hsz' (hcl.add hr') hbef' (.inl hSw) hK)
    | false =>
      rw [if_neg (by rw [hq]; simp)] at h
      refine mix_first_effect h0 (Region.noSelect_spec hs) hl hc hq l.length listed a w hsz hcl hbef (fun j oj hj hne hqj hun hno => freeE_spec h0 hf j oj hj hne (.inr hqj) hun hno) hr' hSw ?_
      have step : ∀ a' w', ((lst k = false → S w') ∧ wpLex P ops Q S qf lst l (k + 1) a' w') → ((lst k = false → S w') ∧ wpMix P md ops Q S qf lst l.length (listed.setIfInBounds k true) a' w') := fun a' w' ⟨h1, h2⟩ =>
        ⟨h1, mix_lex hs hl hc l (k + 1) _ _ w' hops' hB' hsz' (hcl.add hr') hbef' (by
          cases hlk : lst k with
          | false => exact .inl (h1 hlk)
          | true =>
            right
            refine List.eq_nil_iff_forall_not_mem.2 fun x hx => ?_
            obtain ⟨j, hj, hjx⟩ := List.getElem_of_mem hx
            have hoj : ops[k + 1 + j]? = some x := by rw [← hops' j, List.getElem?_eq_getElem hj, hjx]
            obtain ⟨_, o', ho', hall⟩ := mem_ready.1 hr'
            obtain rfl : o = o' := by rw [h0] at ho'; exact Option.some.inj ho'
            have h3 := hl k o hlk h0 listed hcl hall (k + 1 + j) (Array.getElem?_eq_some_iff.1 hoj).1 (by omega)
            -- an operation behind k in the text has not come up yet: it is waited for by nobody that has
            exact absurd h3 (by
              intro h3
              have hlt : k + 1 + j < listed.size := by rw [hsz]; exact (Array.getElem?_eq_some_iff.1 hoj).1
              have hB2 := hB'
              clear hB'
              exact lex_unlisted (listed := listed.setIfInBounds k true) l.length (k + 1) hB2 j hj (by rw [getD_set_true h3]))) h2⟩
      unfold wpOp
      simp only [h0]
      split
      · rename_i hw
        rw [if_pos hw] at h
        exact .inl (Oper.wp_mono step h)
      · rename_i hw
        rw [if_neg hw] at h
        refine step _ _ ⟨fun _ => hSw, h⟩
where
  lex_unlisted {md : Region.Mode} {ops : Array Oper} {qf : Nat → Bool} : ∀ {listed : Array Bool} (n k : Nat), lexFromE md ops qf n k listed = true → ∀ j, j < n → listed.getD (k + j) false = true → False
    | listed, 0, _, _, j, hj, _ => by omega
    | listed, n + 1, k, h, j, hj, hl => by
      simp only [lexFromE, Bool.and_eq_true] at h
      obtain ⟨⟨hr, _⟩, hB⟩ := h
      rcases j with _ | j
      · have h0 := (mem_ready.1 (show k ∈ Region.ready md ops listed by simpa using hr)).1
        rcases Nat.lt_or_ge k listed.size with h' | h'
        · simp [h'] at h0 hl; rw [h0] at hl; cases hl
        · simp [Array.getElem?_eq_none h'] at hl
      · exact lex_unlisted n (k + 1) hB j (by omega) (by rw [show k + 1 + j = k + (j + 1) from by omega]; exact getD_set_true hl)

/-- **A region that draws, walked once.** es: the effects, by their numbers. -/
theorem wp_region_lex {id : Nat} {a : Act} {w : World} {l : List Oper} (es ls : List Nat) (S : World → Prop) (hm : P.follows .mixedOrders = true) (hB : lexE l.toArray es ls = true) (hS : S w.drew)
    (h : wpLex P l.toArray Q S (qfOf es) (lsOf ls) l 0 a w.drew) : (Code.region id l.toArray true).wp P Q a w := by
  simp only [lexE, Bool.and_eq_true] at hB
  obtain ⟨⟨h1, h4, h2⟩, h3⟩ := hB
  have hm' := mix_lex (md := .any) h1 (lsOf_spec h4) (chainB_spec h2) l 0 (Array.replicate l.toArray.size false) a w.drew (by simp) (by simpa using h3) (by simp)
    (fun j oj hj hl => by simp [Array.getElem?_replicate] at hl; split at hl <;> simp at hl) (fun m hm => by omega) (.inl hS) h
  exact wp_region_any hm (any_of_mix (lsOf_spec h4) _ _ _ _ (by simp) (fun j oj hj hl => by simp [Array.getElem?_replicate] at hl; split at hl <;> simp at hl) (.inl hS) (by simpa using hm'))

/-! ### The steps -/
variable {rest : List Oper} {o : Oper} {k : Nat} {a : Act} {w : World}
theorem lex_nil (h : Q .normal a w) : wpLex P ops Q S qf lst [] k a w := h
/-- A quiet operation that is wanted. -/
theorem lex_q (v : Value) (hq : qf k = true) (hw : Region.wanted o (yielded ops a.tmps) = true) (h : ∀ W, S W → (execOp a.eval o).run P W = .ok (.value v) W)
    (hk : wpLex P ops Q S qf lst rest (k + 1) (a.put o.dst v) w) : wpLex P ops Q S qf lst (o :: rest) k a w := by
  unfold wpLex
  rw [if_pos hq]
  exact ⟨v, .inl ⟨hw, h⟩, hk⟩
/-- An effect. -/
theorem lex_e (hq : qf k = false) (hw : Region.wanted o (yielded ops a.tmps) = true) (h : ∀ K : Act → World → Prop, (∀ a' w', (lst k = false → S w') ∧ wpLex P ops Q S qf lst rest (k + 1) a' w' → K a' w') → o.wp P a w K (Qn Q)) :
    wpLex P ops Q S qf lst (o :: rest) k a w := by
  unfold wpLex
  rw [if_neg (by rw [hq]; simp), if_pos hw]
  exact h _ fun _ _ h1 => h1
/-- The operations that yield a value whatever they do. -/
def plainOp : Op → Bool
  | .store .. | .ready _ | .mapUpdate .. | .insert .. | .entryStore .. | .go _ | .defer _ | .send .. | .recv .. | .select .. => false
  | .call { callee := .builtin .len, .. } => true
  | .call { callee := .builtin .cap, .. } => true
  | .call _ => false
  | _ => true
theorem run_vg {α : Type} {s : Sem α} {g : α → Value} {n : Next} {w w' : World} (h : (s >>= fun x => pure (Next.value (g x))).run P w = .ok n w') : ∃ x, n = .value x := by
  rw [Sem.run_bind] at h
  cases hs : s.run P w with
  | ok x w1 => rw [hs] at h; simp only [Result.andThen_ok, Sem.run_pure] at h; cases h; exact ⟨_, rfl⟩
  | halt x w1 => rw [hs] at h; cases h
theorem andThen_v {r : Result Value} {n : Next} {w' : World} (h : (r.andThen fun a w' => Result.ok (Next.value a) w') = .ok n w') : ∃ x, n = .value x := by
  cases r with
  | ok x w1 => simp only [Result.andThen_ok] at h; cases h; exact ⟨x, rfl⟩
  | halt x w1 => cases h
theorem run_pv {x : Value} {n : Next} {w w' : World} (h : (pure (Next.value x) : Sem Next).run P w = .ok n w') : ∃ x, n = .value x := by
  simp only [Sem.run_pure] at h; cases h; exact ⟨_, rfl⟩
theorem run_plain {o : Oper} {ρ : Operand → Value} {n : Next} {w w' : World} (hp : plainOp o.op = true) (h : (execOp ρ o).run P w = .ok n w') : ∃ x, n = .value x := by
  obtain ⟨dst, op, type, pos, after, guard⟩ := o
  simp only at hp
  unfold execOp at h
  cases op <;> first | (cases hp; done) | (exact run_vg (g := id) h) | (exact run_vg h) | (exact run_pv h) | skip
  case nilCheck x =>
    simp only at h
    split at h
    case h_1 => simp [runtimePanic] at h
    case h_2 => simp [runtimePanic] at h
    case h_3 => simp [runtimePanic] at h
    case h_4 =>
      split at h
      · simp [runtimePanic] at h
      · simp only [Sem.run_bind] at h
        cases hp1 : (program).run P w with
        | halt x w1 => rw [hp1] at h; cases h
        | ok p1 w1 =>
          rw [hp1] at h
          simp only [Result.andThen_ok] at h
          rename_i t v' _
          cases hp2 : (nilAhead (p1.types.size + Made.depth) t v' _).run P w1 with
          | halt x w2 => rw [hp2] at h; cases h
          | ok b w2 =>
            rw [hp2] at h
            simp only [Result.andThen_ok] at h
            split at h
            · simp [unsupported] at h
            · exact run_pv h
      · exact run_pv h
    case h_5 => exact run_pv h
  case call c =>
    obtain ⟨callee, args, argTypes⟩ := c
    cases callee with
    | value f => cases hp
    | invoke r m => cases hp
    | builtin b =>
      cases b <;> first | (cases hp; done) | skip
      all_goals
        simp only [resolve, Sem.run_bind, Sem.run_pure, Result.andThen_ok, invoke, builtin] at h
        exact andThen_v h

/-- 'wp_region_lex', with the worlds of S as 'f u', u of some type: for the quiet steps of the library ('go_big_quiet_op'). -/
theorem wp_region_lexf {id : Nat} {a : Act} {w : World} {l : List Oper} (es ls : List Nat) (S : World → Prop) (hm : P.follows .mixedOrders = true) (hB : lexE l.toArray es ls = true) (hS : S w.drew)
    (h : ∀ (σ : Type) (_ : Nonempty σ) (f : σ → World) (_ : ∀ u, S (f u)) (_ : ∀ W, S W → ∃ u, W = f u), wpLex P l.toArray Q S (qfOf es) (lsOf ls) l 0 a w.drew) : (Code.region id l.toArray true).wp P Q a w :=
  wp_region_lex es ls S hm hB hS (h { W : World // S W } ⟨⟨_, hS⟩⟩ (fun u => u.1) (fun u => u.2) (fun W hW => ⟨⟨W, hW⟩, rfl⟩))

/-- A quiet operation, by the library's own quiet step. -/
theorem lex_qq {σ : Type} {f : σ → World} (hf : ∀ W, S W → ∃ u, W = f u) (hq : qf k = true) (hp : plainOp o.op = true) (hw : Region.wanted o (yielded ops a.tmps) = true)
    (h : ∀ K : Act → Prop, (∀ a', wpLex P ops Q S qf lst rest (k + 1) a' w → K a') → o.quiet P a (fun W => ∃ u, W = f u) K) : wpLex P ops Q S qf lst (o :: rest) k a w := by
  obtain ⟨v, hv, hK⟩ := h _ fun _ h => h
  have run : ∀ W, S W → (execOp a.eval o).run P W = .ok (.value v) W := fun W hW => by
    have h1 := hv W (hf W hW)
    unfold Oper.quietAt at h1
    cases hr : (execOp a.eval o).run P W with
    | halt x w1 => rw [hr] at h1; simp [Oper.quietUpon] at h1
    | ok n w1 =>
      obtain ⟨x, rfl⟩ := run_plain hp hr
      rw [hr] at h1
      simp only [Oper.quietUpon] at h1
      rw [h1.1, h1.2]
  exact lex_q v hq hw run hK
end
end
/- Arrays and structs read and written whole. -/
section
open Go.RowKit

section
variable {P : Program}

/-- The type is an array or a struct. -/
def aggB : TypeDesc → Bool
  | .struct _ => true
  | .array _ _ => true
  | _ => false
theorem run_isAgg {w : World} {ty : TypeId} {d : TypeDesc} (hu : P.underlying ty = some d) (hd : aggB d = true) : (isAgg ty).run P w = .ok true w := by
  unfold isAgg
  rw [Sem.run_bind, run_underlying hu w]
  cases d <;> simp_all [aggB]
theorem run_loadAt_agg (w : World) (ad : Addr) (ty : TypeId) (xs : List Value) (d : TypeDesc) (hc : ∀ j u, xs[j]? = some u → w.cell? (ad.add j) = some u)
    (hu : P.underlying ty = some d) (hd : aggB d = true) (hi : (P.info? ty).map (·.size) = some xs.length) :
    (Instr.loadAt ty (.pointer (some ad))).run P w = .ok (.agg xs.toArray) w := by
  have hl : (loadCells ad xs.length).run P w = .ok xs.toArray w := run_loadCells_list (P := P) w ad xs hc
  cases hq : P.info? ty with
  | none => simp [hq] at hi
  | some i =>
    have hs : i.size = xs.length := by simpa [hq] using hi
    simp [Instr.loadAt, Instr.sureAddr, loadVar, Sem.run_bind, run_isAgg hu hd, sizeOf, typeInfo, hq, hs, hl]
theorem exec_load {w : World} {ρ : Operand → Value} {o : Oper} {ty : TypeId} {x : Operand} {p v : Value} (ho : o.op = .load ty x) (hx : ρ x = p) (h : (Instr.loadAt ty p).run P w = .ok v w) :
    (execOp ρ o).run P w = .ok (.value v) w := by
  unfold execOp
  simp only [ho, hx, Sem.run_bind, h, Result.andThen_ok, Sem.run_pure]
theorem wpList_load_agg {ops : Array Oper} {rest : List Oper} {o : Oper} {a : Act} {w : World} {Q : Exit → Act → World → Prop} (hgd : o.guard = none) (ty : TypeId) (x : Operand) (ho : o.op = .load ty x) (ad : Addr) (hx : a.eval x = .pointer (some ad))
    (xs : List Value) (d : TypeDesc) (hc : ∀ j u, xs[j]? = some u → w.cell? (ad.add j) = some u) (hu : P.underlying ty = some d) (hd : aggB d = true) (hi : (P.info? ty).map (·.size) = some xs.length)
    (h : wpList P ops Q rest (a.put o.dst (.agg xs.toArray)) w) : wpList P ops Q (o :: rest) a w :=
  wpList_plain hgd fun K hK => by
    unfold Oper.wp
    rw [exec_load ho hx (run_loadAt_agg w ad ty xs d hc hu hd hi)]
    exact hK _ _ h

theorem run_storeAt_agg (w : World) (g off : Nat) (t ty : TypeId) (xs : Array Value) (cur : Array Value) (hb : Blk w g t cur) (hi : (P.info? ty).map (·.size) = some xs.size) (hfit : off + xs.size ≤ cur.size) (h1 : ∀ u, u ∈ xs.toList → u.oneCell' = true) :
    (Instr.storeAt ty (.pointer (some ⟨g, off, none⟩)) (.agg xs)).run P w = .ok () (w.setRow g (cur.toList.take off ++ xs.toList ++ cur.toList.drop (off + xs.size)).toArray) := by
  cases hq : P.info? ty with
  | none => simp [hq] at hi
  | some i =>
    have hs : i.size = xs.size := by simpa [hq] using hi
    have hst := run_storeCells_at P g off t xs.toList 0 cur w hb (by simpa using hfit) h1
    simp only [Nat.add_zero, Array.length_toList] at hst
    simp [Instr.storeAt, Instr.sureAddr, storeVar, Sem.run_bind, sizeOf, typeInfo, hq, hs, Value.cells, hst]
theorem exec_store {w w' : World} {ρ : Operand → Value} {o : Oper} {ty : TypeId} {x y : Operand} {p v : Value} (ho : o.op = .store ty x y) (hx : ρ x = p) (hy : ρ y = v) (h : (Instr.storeAt ty p v).run P w = .ok () w') :
    (execOp ρ o).run P w = .ok .skip w' := by
  unfold execOp
  simp only [ho, hx, hy, Sem.run_bind, h, Result.andThen_ok, Sem.run_pure]
theorem setRow_blk {w : World} {g : Nat} {t : TypeId} {cur cs : Array Value} (h : Blk w g t cur) : Blk (w.setRow g cs) g t cs ∧ Kp [g] w (w.setRow g cs) :=
  ⟨setRow_heap w g cur cs t (0, 0) h, ⟨rfl, rfl, rfl, by simp, fun k _ hk => setRow_other w g k cs (by simpa using hk)⟩⟩
theorem wpList_store_agg {ops : Array Oper} {rest : List Oper} {o : Oper} {a : Act} {w : World} {Q : Exit → Act → World → Prop} (hgd : o.guard = none) (ty : TypeId) (x y : Operand) (ho : o.op = .store ty x y) (g off : Nat) (hx : a.eval x = .pointer (some ⟨g, off, none⟩))
    (xs : Array Value) (hy : a.eval y = .agg xs) (t : TypeId) (cur : Array Value) (hb : Blk w g t cur) (hi : (P.info? ty).map (·.size) = some xs.size) (hfit : off + xs.size ≤ cur.size) (h1 : ∀ u, u ∈ xs.toList → u.oneCell' = true)
    (h : ∀ w', Blk w' g t (cur.toList.take off ++ xs.toList ++ cur.toList.drop (off + xs.size)).toArray → Kp [g] w w' → wpList P ops Q rest (a.put o.dst undef) w') : wpList P ops Q (o :: rest) a w :=
  wpList_plain hgd fun K hK => by
    unfold Oper.wp
    rw [exec_store ho hx hy (run_storeAt_agg w g off t ty xs cur hb hi hfit h1)]
    exact hK _ _ (h _ (setRow_blk hb).1 (setRow_blk hb).2)
/-- The quiet step, and the skipped one, in a form that lets the frame be tidied first. -/
theorem lex_qk {Q : Exit → Act → World → Prop} {S : World → Prop} {qf lst : Nat → Bool} {k : Nat} {ops : Array Oper} {rest : List Oper} {o : Oper} {a : Act} {w : World} (v : Value) (hq : qf k = true) (hw : Region.wanted o (yielded ops a.tmps) = true) (h : ∀ W, S W → (execOp a.eval o).run P W = .ok (.value v) W)
    (hk : ∀ K : Act → World → Prop, (∀ a' w', wpLex P ops Q S qf lst rest (k + 1) a' w' → K a' w') → K (a.put o.dst v) w) : wpLex P ops Q S qf lst (o :: rest) k a w :=
  lex_q v hq hw h (hk _ fun _ _ h => h)
end
end
/- Arrays of bytes, whole; results that lie in memory; arrays of bytes held against one another. -/
section
open Go.RowKit

theorem Blk.agg {w : World} {g : Nat} {t : TypeId} {cs : Array Value} (h : Blk w g t cs) : ∀ j u, cs.toList[j]? = some u → w.cell? ((⟨g, 0, none⟩ : Addr).add j) = some u := by
  intro j u hu
  have := h.cell j
  rw [Array.getElem?_toList] at hu
  rw [hu] at this
  by_cases hj : j = 0
  · subst hj; simpa [Addr.add] using this
  · simpa [Addr.add, hj] using this
section
variable {P : Program} (w : World)
end
end
/- What many texts need: slices of bytes that read, rows, small numbers. -/
section
open Go.RowKit

theorem ow_new (w : World) (e : TypeId) (s n : Nat) (cs : Array Value) (h : cs.size = n * s) (hn : n ≤ maxLen) : Ow (w.alloc (.cells cs e)) e s (.slice (some ⟨w.heap.size, 0, none⟩) n n) n cs.toList :=
  ⟨by simpa using h, .inr ⟨w.heap.size, n, cs, rfl, Nat.zero_le _, heap_alloc_new w _, Nat.le_refl _, hn, h, by rw [← h, ← Array.length_toList, List.take_length]⟩⟩
theorem rd_some {w : World} {s n c : Nat} {ad : Addr} {xs : List Value} (hl : xs.length = n * s) (h1 : n ≤ c) (h2 : c ≤ maxLen) (h : ∀ a, some ad = some a → ∀ j u, xs[j]? = some u → w.cell? (a.add j) = some u) : Rd w s (.slice (some ad) n c) n xs :=
  ⟨hl, some ad, c, rfl, h1, h2, (fun h => by cases h), h⟩

theorem eq_nil_bytes (w : World) (a : Option Addr) (n c : Nat) : (binOp .eql 25 (.slice a n c) (.slice none 0 0)).run Try.prog w = .ok (.bool a.isNone) w :=
  Lib.run_eql_slice_nil (P := Try.prog) w 25 5 a n c 0 0 Try.underlying25
attribute [go_sem] eq_nil_bytes
theorem Try.infoU8 : (Try.prog.info? 5).map (fun i => (i.zero, i.size, i.bytes)) = some (some (.int .u8 0), 1, 1) := by kernel_rfl
theorem Kp.of_drew {S : List Nat} {w w' : World} (h : Kp S w.drew w') : Kp S w w' := ⟨h.os, h.tape, h.output, h.size, h.block⟩
/-- A short row, written out. -/
theorem rd_lit (w : World) (e : TypeId) (cs : Array Value) (l : List UInt8) (h : cs.toList = bv l) (hn : l.length ≤ 4096) : Rd (w.alloc (.cells cs e)) 1 (.slice (some ⟨w.heap.size, 0, none⟩) l.length l.length) l.length (bv l) := by
  have := ow_new w e 1 l.length cs (by rw [← Array.length_toList, h, bv_length]; simp) (by unfold maxLen; omega)
  rw [h] at this
  exact Rd.of_own this
theorem strB {w : World} {x : Value} {bs : List UInt8} {n : Nat} (h : Rd w 1 x n (bv bs)) : (convert 25 9 x).run Try.prog w = .ok (.string ⟨bs.toArray⟩) w :=
  run_str 25 9 5 Try.underlying25 Try.underlying5 Try.underlying9 h
theorem rd_form {w : World} {s : Nat} {x : Value} {n : Nat} {xs : List Value} (h : Rd w s x n xs) : ∃ A c, x = .slice A n c := by
  obtain ⟨_, A, c, rfl, _⟩ := h; exact ⟨A, c, rfl⟩
/-- A slice reads as it did; an empty one in any case. -/
theorem Rd.kpl {S : List Nat} {w w' : World} {s n : Nat} {v : Value} {xs : List Value} (h : Rd w s v n xs) (hk : Kp S w w') (hn : ∀ g, v.ownBlock = some g → xs ≠ [] → g ∉ S) : Rd w' s v n xs := by
  by_cases hx : xs = []
  · subst hx
    obtain ⟨h1, A, c, h2, h3, h4, h5, _⟩ := h
    exact ⟨h1, A, c, h2, h3, h4, h5, fun _ _ j u hu => by simp at hu⟩
  · exact h.kp hk (fun g hg => hn g hg hx)
theorem paint_step {α : Type} (L : List α) (u : α) (j : Nat) (hj : j < L.length) : (List.replicate j u ++ L.drop j).set j u = List.replicate (j + 1) u ++ L.drop (j + 1) := by
  rw [List.drop_eq_getElem_cons hj, List.set_append_right _ _ (by simp), List.length_replicate, Nat.sub_self, List.set_cons_zero, List.replicate_succ', List.append_assoc]
  rfl
theorem ow_some {w : World} {e : TypeId} {s n : Nat} {v : Value} {xs : List Value} (h : Ow w e s v n xs) (hn : 0 < n) : ∃ g c, v = .slice (some ⟨g, 0, none⟩) n c ∧ n ≤ c ∧ c ≤ maxLen := by
  rcases h.2 with ⟨_, h0⟩ | ⟨g, cap, cur, rfl, _, _, hnc, hcm, _⟩
  · omega
  · exact ⟨g, cap, rfl, hnc, hcm⟩
/-- The beginning of a row is a row. -/
theorem ow_take {w : World} {e : TypeId} {s n m c : Nat} {A : Option Addr} {xs : List Value} (h : Ow w e s (.slice A n c) n xs) (hm : m ≤ n) (_hn : 0 < n) : Ow w e s (.slice A m c) m (xs.take (m * s)) := by
  have hle : m * s ≤ n * s := Nat.mul_le_mul_right _ hm
  rcases h.2 with ⟨_, h0⟩ | ⟨g, cap, cur, hv, hb, hh, hnc, hcm, hcs, htk⟩
  · omega
  · cases hv
    refine ⟨by rw [List.length_take, h.1]; omega, .inr ⟨g, _, cur, rfl, hb, hh, by omega, hcm, hcs, ?_⟩⟩
    rw [← htk, List.take_take, Nat.min_eq_left hle]
theorem rd_old {w w' : World} {s n : Nat} {v : Value} {xs : List Value} (h : Rd w s v n xs) (hk : Kp [] w w') : Rd w' s v n xs := h.kp hk (by simp)
/-- A row of the list is grown. -/
theorem Held.grow {w0 w w' : World} {l1 l2 : List Res} {e : TypeId} {s n n' : Nat} {v v' : Value} {xs xs' : List Value} (h : Held w0 w (l1 ++ rowR e s v n xs :: l2)) (ho : Ow w' e s v' n' xs') (hg : w.grownBy w' v.ownBlock) (hv : v'.ownBlock = v.ownBlock ∨ v'.ownBlock = some w.heap.size) :
    Held w0 w' (l1 ++ rowR e s v' n' xs' :: l2) :=
  h.turnAt (rowR e s v' n' xs') (Kp.of_grown hg) ho (fun b hb => by
    rcases hv with e | e
    · exact .inl (by simpa [rowR, e] using hb)
    · simp only [rowR, e, Option.toList_some, List.mem_singleton] at hb; exact .inr (by omega))
/-- A cell of a block of the list is set. -/
theorem Held.set {w0 w : World} {l1 l2 : List Res} {g : Nat} {t : TypeId} {cs : Array Value} (h : Held w0 w (l1 ++ blkR g t cs :: l2)) (i : Nat) (u : Value) : Held w0 (w.setCell ⟨g, i, none⟩ u) (l1 ++ blkR g t (cs.setIfInBounds i u) :: l2) :=
  h.turnAt (blkR g t (cs.setIfInBounds i u)) ((Kp.refl [g] w).setCell (.inl (by simp)) u) (h.at_.set_ i u) (fun _ hb => .inl hb)
theorem Held.rowset {w0 w w' : World} {l1 l2 : List Res} {e : TypeId} {s n : Nat} {v : Value} {xs xs' : List Value} (h : Held w0 w (l1 ++ rowR e s v n xs :: l2)) (ho : Ow w' e s v n xs') (hk : Kp v.ownBlock.toList w w') : Held w0 w' (l1 ++ rowR e s v n xs' :: l2) :=
  h.turnAt (rowR e s v n xs') hk ho (fun _ hb => .inl hb)
theorem Held.rownew {w0 w w' : World} {L : List Res} {e : TypeId} {s n : Nat} {v : Value} {xs : List Value} (h : Held w0 w L) (ho : Ow w' e s v n xs) (hk : Kp [] w w') (hf : ∀ g, v.ownBlock = some g → w.heap.size ≤ g) : Held w0 w' (rowR e s v n xs :: L) :=
  h.new _ hk ho (fun b hb => hf b (by simpa [rowR] using hb))
/-- What reads as cells lies in a block that is there. -/
theorem rd_lt {w : World} {s n g : Nat} {v : Value} {xs : List Value} (h : Rd w s v n xs) (hg : v.ownBlock = some g) (hne : xs ≠ []) : g < w.heap.size := by
  obtain ⟨_, A, c, rfl, _, _, _, h4⟩ := h
  cases A with
  | none => simp [Value.ownBlock] at hg
  | some ad =>
    simp [Value.ownBlock] at hg
    obtain ⟨x, xs', rfl⟩ := List.exists_cons_of_ne_nil hne
    have := cell_lt (h4 ad rfl 0 x rfl)
    rw [block_of_add, hg] at this
    exact this
theorem i64_lit {z : Int} (h : (Lit.int .i64 z).wf = true) : -9223372036854775808 ≤ z ∧ z ≤ 9223372036854775807 := by simpa [Lit.wf, IntKind.min, IntKind.max, IntKind.signed, IntKind.bits] using h
theorem at_of_cut {cs : List Value} {i : Nat} {v : Value} (h : (cs.drop i).take 1 = [v]) : cs[i]? = some v := by
  have h0 : ((cs.drop i).take 1)[0]? = some v := by rw [h]; rfl
  rw [List.getElem?_take] at h0
  simpa using h0
theorem ofInt_u64 (a : Nat) (ha : a < 18446744073709551616) : (BitVec.ofInt 64 (a : Int)).toNat = a := by
  rw [BitVec.ofInt_natCast, BitVec.toNat_ofNat]; exact Nat.mod_eq_of_lt (by omega)
theorem u64_or_nat (a b : Nat) (ha : a < 18446744073709551616) (hb : b < 18446744073709551616) : bits .or .u64 (a : Int) (b : Int) = ((a ||| b : Nat) : Int) := by
  have hx : a ||| b < 2 ^ 64 := Nat.or_lt_two_pow (by omega) (by omega)
  show IntKind.u64.wrap ((BitVec.ofInt 64 (a : Int) ||| BitVec.ofInt 64 (b : Int)).toNat : Int) = _
  rw [BitVec.toNat_or, ofInt_u64 a ha, ofInt_u64 b hb, IntKind.wrap_u64]
  omega
end
/- Walks of package wire: numbers. -/
section
open Go.RowKit

theorem nat_le8 {k : Nat} (h : k ≤ 8) : k = 0 ∨ k = 1 ∨ k = 2 ∨ k = 3 ∨ k = 4 ∨ k = 5 ∨ k = 6 ∨ k = 7 ∨ k = 8 := by omega

theorem two_pow8 (i : Nat) : (2 : Int) ^ (8 * i) = ((256 ^ i : Nat) : Int) := by
  have h : (2 : Nat) ^ (8 * i) = 256 ^ i := by rw [Nat.pow_mul]
  rw [← h, Int.natCast_pow]
  rfl
theorem byte_of (x i : Nat) : Value.int .u8 ((x : Int) / 2 ^ (8 * i) % 256) = Value.int .u8 ((UInt8.ofNat (x / 256 ^ i)).toNat : Int) := by
  rw [UInt8.toNat_ofNat', two_pow8, Int.natCast_emod, Int.natCast_ediv]
  rfl
theorem form_step {w wr w1 : World} {v u v' : Value} {n k i x : Nat} {xs : List UInt8} {o : Obj} (hj : i + 1 ≤ k)
    (hown1 : Ow w1 5 1 v' (n + (k - (i + 1)) + 1) (bv (xs ++ (be k x).take (k - (i + 1))) ++ [Value.int .u8 ((x : Int) / 2 ^ (8 * i) % 256)]))
    (hkp : Kp v.ownBlock.toList w wr) (hat : u.ownBlock = v.ownBlock ∨ ∃ g, u.ownBlock = some g ∧ w.heap.size ≤ g)
    (hg1 : (wr.alloc o).grownBy w1 u.ownBlock) (hat1 : v'.ownBlock = u.ownBlock ∨ v'.ownBlock = some (wr.heap.size + 1)) :
    ∃ j : Nat, j ≤ k ∧ (Value.int .i64 ((i : Int) - 1)) = .int .i64 ((j : Int) - 1) ∧ Ow w1 5 1 v' (n + (k - j)) (bv (xs ++ (be k x).take (k - j))) ∧ Kp v.ownBlock.toList w w1 ∧
      (v'.ownBlock = v.ownBlock ∨ ∃ g, v'.ownBlock = some g ∧ w.heap.size ≤ g) := by
  refine ⟨i, by omega, rfl, ?_, (hkp.alloc o).grown hg1 ?_, ?_⟩
  · rw [be_take_succ k x i (by omega), ← List.append_assoc, bv_append (xs ++ _), show n + (k - i) = n + (k - (i + 1)) + 1 from by omega, show k - i - 1 = k - (i + 1) from by omega]
    rw [byte_of] at hown1
    exact hown1
  · intro g hg
    rcases hat with h | ⟨g', h, hlt⟩
    · rw [h] at hg; left; rw [hg]; simp
    · rw [h] at hg; cases hg; right; exact hlt
  · rcases hat1 with h | h
    · rw [h]; exact hat
    · right; exact ⟨_, h, by have := hkp.size; omega⟩

set_option maxHeartbeats 400000 in
theorem form_any (v : Value) (n : Nat) (xs : List UInt8) (k : Nat) (hk : k ≤ 8) (x : Nat) (_hx : x < 18446744073709551616) (w : World) (hown : Ow w 5 1 v n (bv xs)) (hn : n + k ≤ 140737488355328) :
   Calls Try.prog 62 #[v, .int .i64 k, .int .u64 x] w fun e w' => ∃ v', e = .returned v' ∧ Ow w' 5 1 v' (n + k) (bv (xs ++ be k x)) ∧ Kp v.ownBlock.toList w w' ∧
      (v'.ownBlock = v.ownBlock ∨ ∃ g, v'.ownBlock = some g ∧ w.heap.size ≤ g) := by
  obtain ⟨i0, hi, hz0, hz1, hz2⟩ := info_parts Try.infoU8
  go_enter Try.func62, Try.ntmps62
  go_wp2
  go_loopw [0, 7] (fun u t wr => ∃ j : Nat, j ≤ k ∧ t = .int .i64 ((j : Int) - 1) ∧ Ow wr 5 1 u (n + (k - j)) (bv (xs ++ (be k x).take (k - j))) ∧ Kp v.ownBlock.toList w wr ∧
      (u.ownBlock = v.ownBlock ∨ ∃ g, u.ownBlock = some g ∧ w.heap.size ≤ g)) (fun _ n _ => ((intOf n) + 1).toNat)
  case atStart => exact ⟨k, by omega, rfl, by simpa using hown, Kp.refl _ _, .inl rfl⟩
  case round =>
    obtain ⟨j, hj, rfl, hown', hkp, hat⟩ := hrel
    by_cases h0 : j = 0
    · subst h0
      go_wp2
      go_ret
      refine ⟨_, rfl, ?_, hkp, hat⟩
      rw [Nat.sub_zero, List.take_of_length_le (by simp)] at hown'
      exact hown'
    · obtain ⟨i, rfl⟩ : ∃ i, j = i + 1 := ⟨j - 1, by omega⟩
      clear h0
      go_wp2_with (at_builtin; go_loud (refine wpList_app _ rfl (.tmp 14) (.tmp 20) _ rfl 5 i0 _ 1 1 Try.underlying25 hi hz0 hz1 hz2 rfl (by decide) _ _ _ rfl (hown'.alloc _) (.slice (some ⟨wr.heap.size, 0, none⟩) 1 1) 1 [Value.int .u8 ((x : Int) / 2 ^ (8 * i) % 256)] rfl (rd_new _ _ _) (one_bv _ rfl) (by unfold maxLen; omega) (by omega) ?_))
      intro v' w1 hown1 hg1 hat1
      go_wp2
      go_roundw
      case rel => exact form_step hj hown1 hkp hat hg1 hat1
      case measure => simp [intOf]

set_option maxHeartbeats 400000 in
theorem width_u16 (w : World) : Calls Try.prog 63 #[] w fun e w' => e = .returned (.int .i64 2) ∧ w = w' := by
  go_enter Try.func63, Try.ntmps63
  go_wp2
  go_loop [1, 2] (fun n t => ∃ k : Nat, k ≤ 2 ∧ n = .int .i64 k ∧ t = .int .u64 (2 ^ (16 - 8 * k) - 1)) (fun n _ => 2 - (intOf n).toNat)
  case atStart => exact ⟨0, by omega, rfl, rfl⟩
  case round =>
    obtain ⟨k, hk, rfl, rfl⟩ := hrel
    rcases (show k = 0 ∨ k = 1 ∨ k = 2 from by omega) with rfl | rfl | rfl
    all_goals simp only [Nat.reduceMul, Nat.reduceSub, Int.reducePow, Int.reduceSub]
    all_goals go_wp2
    all_goals first
      | (go_ret; exact ⟨rfl, rfl⟩)
      | (go_round
         case rel => first | exact ⟨1, by omega, rfl, rfl⟩ | exact ⟨2, by omega, rfl, rfl⟩
         case measure => simp [intOf])

set_option maxHeartbeats 400000 in
theorem width_u64 (w : World) : Calls Try.prog 74 #[] w fun e w' => e = .returned (.int .i64 8) ∧ w = w' := by
  go_enter Try.func74, Try.ntmps74
  go_wp2
  go_loop [1, 2] (fun n t => ∃ k : Nat, k ≤ 8 ∧ n = .int .i64 k ∧ t = .int .u64 (2 ^ (64 - 8 * k) - 1)) (fun n _ => 8 - (intOf n).toNat)
  case atStart => exact ⟨0, by omega, rfl, rfl⟩
  case round =>
    obtain ⟨k, hk, rfl, rfl⟩ := hrel
    rcases (show k = 0 ∨ k = 1 ∨ k = 2 ∨ k = 3 ∨ k = 4 ∨ k = 5 ∨ k = 6 ∨ k = 7 ∨ k = 8 from by omega) with rfl | rfl | rfl | rfl | rfl | rfl | rfl | rfl | rfl
    all_goals simp only [Nat.reduceMul, Nat.reduceSub, Int.reducePow, Int.reduceSub]
    all_goals go_wp2
    all_goals first
      | (go_ret; exact ⟨rfl, rfl⟩)
      | (go_round
         case rel => first | exact ⟨1, by omega, rfl, rfl⟩ | exact ⟨2, by omega, rfl, rfl⟩ | exact ⟨3, by omega, rfl, rfl⟩ | exact ⟨4, by omega, rfl, rfl⟩ | exact ⟨5, by omega, rfl, rfl⟩ | exact ⟨6, by omega, rfl, rfl⟩ | exact ⟨7, by omega, rfl, rfl⟩ | exact ⟨8, by omega, rfl, rfl⟩
         case measure => simp [intOf])

end
/- Walks of package wire: the writer. -/
section
open Go.RowKit

/-- A writer: its block p, the bytes' slice v, the bytes. -/
def Wr (w : World) (p : Nat) (v : Value) (bs : List UInt8) : Prop := Blk w p 98 #[v] ∧ Ow w 5 1 v bs.length (bv bs)
/-- What a call that writes leaves: v' is where v was, or new. -/
def WSt (p : Nat) (v v' : Value) (w w' : World) : Prop := Kp (p :: v.ownBlock.toList) w w' ∧ (v'.ownBlock = v.ownBlock ∨ ∃ g, v'.ownBlock = some g ∧ w.heap.size ≤ g)

theorem Wr.ne {w : World} {p : Nat} {v : Value} {bs : List UInt8} (h : Wr w p v bs) : v.ownBlock ≠ some p := ow_blk_ne h.2 h.1 (by decide)

theorem wr_kept {w w' : World} {p : Nat} {v : Value} {bs : List UInt8} (h : Wr w p v bs) (hk : Kp v.ownBlock.toList w w') : w'.cell? ⟨p, 0, none⟩ = some v ∧ w'.frozen? ⟨p, 0, none⟩ = false ∧ p < w'.heap.size := by
  have hb : Blk w' p 98 #[v] := h.1.kp hk (fun hm => h.ne (by simpa using hm))
  exact ⟨by simpa using hb.cell 0, hb.frozen 0, hb.lt⟩
theorem wr_step {w w' : World} {p : Nat} {v v' : Value} {bs bs' : List UInt8} {n : Nat} (h : Wr w p v bs) (ho : Ow w' 5 1 v' n (bv bs')) (hk : Kp v.ownBlock.toList w w') (hat : v'.ownBlock = v.ownBlock ∨ ∃ g, v'.ownBlock = some g ∧ w.heap.size ≤ g) :
    Wr (w'.setCell ⟨p, 0, none⟩ v') p v' bs' ∧ WSt p v v' w (w'.setCell ⟨p, 0, none⟩ v') := by
  have hb : Blk w' p 98 #[v] := h.1.kp hk (fun hm => h.ne (by simpa using hm))
  have hn : n = bs'.length := by have := ho.1; simpa [bv_length] using this.symm
  subst hn
  have hne := ow_blk_ne ho hb (by decide)
  refine ⟨⟨by simpa using hb.set_ 0 v', ow_kp ho ((Kp.refl [p] w').setCell (.inl (by simp)) v') ?_⟩, ?_, hat⟩
  · intro g hg hm
    simp at hm
    subst hm
    exact hne hg
  · exact (hk.more (T := p :: v.ownBlock.toList) (fun g hg => .inl (List.mem_cons_of_mem _ hg))).setCell (.inl (by simp)) v'

set_option maxRecDepth 100000 in
set_option maxHeartbeats 400000 in
theorem put_u16 (p : Nat) (v : Value) (bs : List UInt8) (x : Nat) (hx : x < 65536) (w : World) (hw : Wr w p v bs) (hn : bs.length + 2 ≤ 140737488355328) :
    Calls Try.prog 39 #[.pointer (some ⟨p, 0, none⟩), .int .u16 x] w fun e w' => e = .returned (.int .i64 0) ∧ ∃ v', Wr w' p v' (bs ++ be 2 x) ∧ WSt p v v' w w' := by
  have hc := hw.1.cell 0
  simp at hc
  have hx' : x < 18446744073709551616 := by omega
  go_enter Try.func39, Try.ntmps39
  go_wp2
  refine wp_region_lexf [5, 8, 11] [11] (fun W => W.cell? ⟨p, 0, none⟩ = some v) (by kernel_rfl) (by kernel_rfl) (show w.drew.cell? _ = _ from hc) (fun σ hne f hf hsur => ?_); have Hsur := Lib.hid hsur; clear hsur
  go_wp2_with (first
    | (refine lex_qq Hsur.out rfl rfl rfl ?_; intro K hK; go_big_quiet_op; go_big_quiet_on) | (refine lex_skipk rfl ?_; intro K hK; go_simp; refine hK _ _ ?_; clear hK K) | (refine lex_e rfl rfl ?_; intro K hK; go_step) | (refine lex_nil ?_)
    | ((with_reducible apply And.intro); · (intro hl; first | (exact ls_absurd hl rfl) | assumption))
    | (go_at_call 63; refine (width_u16 _).mono ?_; rintro e w' ⟨rfl, rfl⟩; have c1 : w.drew.cell? ⟨p, 0, none⟩ = some v := hc)
    | (go_at_call 62; refine (form_any v bs.length bs 2 (by decide) x hx' _ (show Ow w.drew _ _ _ _ _ from hw.2) hn).mono ?_; rintro e w' ⟨v', rfl, h1, h2, h3⟩; obtain ⟨A', c', rfl, _, _⟩ := ow_form h1; obtain ⟨c1, c2, c3⟩ := wr_kept (w := w.drew) (show Wr w.drew p v bs from hw) h2))
  go_ret
  exact ⟨rfl, _, wr_step (w := w) hw h1 (Kp.of_drew h2) h3⟩
set_option maxRecDepth 100000 in
set_option maxHeartbeats 400000 in
theorem put_u64 (p : Nat) (v : Value) (bs : List UInt8) (x : Nat) (hx : x < 18446744073709551616) (w : World) (hw : Wr w p v bs) (hn : bs.length + 8 ≤ 140737488355328) :
    Calls Try.prog 61 #[.pointer (some ⟨p, 0, none⟩), .int .u64 x] w fun e w' => e = .returned (.int .i64 0) ∧ ∃ v', Wr w' p v' (bs ++ be 8 x) ∧ WSt p v v' w w' := by
  have hc := hw.1.cell 0
  simp at hc
  have hx' : x < 18446744073709551616 := by omega
  go_enter Try.func61, Try.ntmps61
  go_wp2
  refine wp_region_lexf [5, 7, 10] [10] (fun W => W.cell? ⟨p, 0, none⟩ = some v) (by kernel_rfl) (by kernel_rfl) (show w.drew.cell? _ = _ from hc) (fun σ hne f hf hsur => ?_); have Hsur := Lib.hid hsur; clear hsur
  go_wp2_with (first
    | (refine lex_qq Hsur.out rfl rfl rfl ?_; intro K hK; go_big_quiet_op; go_big_quiet_on) | (refine lex_skipk rfl ?_; intro K hK; go_simp; refine hK _ _ ?_; clear hK K) | (refine lex_e rfl rfl ?_; intro K hK; go_step) | (refine lex_nil ?_)
    | ((with_reducible apply And.intro); · (intro hl; first | (exact ls_absurd hl rfl) | assumption))
    | (go_at_call 74; refine (width_u64 _).mono ?_; rintro e w' ⟨rfl, rfl⟩; have c1 : w.drew.cell? ⟨p, 0, none⟩ = some v := hc)
    | (go_at_call 62; refine (form_any v bs.length bs 8 (by decide) x hx' _ (show Ow w.drew _ _ _ _ _ from hw.2) hn).mono ?_; rintro e w' ⟨v', rfl, h1, h2, h3⟩; obtain ⟨A', c', rfl, _, _⟩ := ow_form h1; obtain ⟨c1, c2, c3⟩ := wr_kept (w := w.drew) (show Wr w.drew p v bs from hw) h2))
  go_ret
  exact ⟨rfl, _, wr_step (w := w) hw h1 (Kp.of_drew h2) h3⟩
end
/- Walks of package wire: the writer's other methods; slices.Clone; the reference's Same. -/
section
open Go.RowKit

/-- A number in two's complement. -/
def tou64 (x : Int) : Nat := (x % 18446744073709551616).toNat
theorem tou64_lt (x : Int) : tou64 x < 18446744073709551616 := by unfold tou64; omega
theorem wrap_u64_nat (x : Int) : IntKind.u64.wrap x = (tou64 x : Int) := by
  rw [IntKind.wrap_u64]; unfold tou64; omega

set_option maxRecDepth 100000 in
set_option maxHeartbeats 400000 in
theorem clone_any (x : Value) (bs : List UInt8) (n : Nat) (w : World) (hx : Rd w 1 x n (bv bs)) (hn : n ≤ 140737488355328) :
    Calls Try.prog 64 #[x] w fun e w' => ∃ v', e = .returned v' ∧ Ow w' 5 1 v' n (bv bs) ∧ Kp [] w w' ∧ ∀ g, v'.ownBlock = some g → w.heap.size ≤ g := by
  obtain ⟨i0, hi, hz0, hz1, hz2⟩ := info_parts Try.infoU8
  obtain ⟨hl, A, c, rfl, hc1, hc2, hA, hcells⟩ := hx
  rcases A with _ | ad
  · obtain ⟨rfl, rfl⟩ := hA rfl
    go_enter Try.func64, Try.ntmps64
    go_wp2_with fail
    go_ret
    refine ⟨_, rfl, ?_, Kp.refl _ _, by simp [Value.ownBlock]⟩
    rw [show bv bs = [] from List.eq_nil_of_length_eq_zero (by simpa using hl)]; exact World.ownsRow_nil _ _ _ _
  · have hr := rd_some hl hc1 hc2 hcells
    go_enter Try.func64, Try.ntmps64
    go_wp2_with (at_builtin; go_loud (refine wpList_app _ rfl (.tmp 5) (.tmp 6) _ rfl 5 i0 _ 1 1 Try.underlying25 hi hz0 hz1 hz2 rfl (by decide) _ 0 [] rfl (ow_new w 5 1 0 #[] rfl (by simp [maxLen])) (.slice (some ad) n c) n (bv bs) rfl (hr.alloc _) (bv_one _) (by unfold maxLen; omega) (by omega) ?_))
    intro v' w1 hown1 hg1 hat1
    go_wp2
    go_ret
    refine ⟨v', rfl, by simpa using hown1, ?_, ?_⟩
    · refine ((Kp.refl [] w).alloc _).grown hg1 ?_
      intro g hg
      simp [Value.ownBlock] at hg
      omega
    · intro g hg
      rcases hat1 with h | h
      · rw [h] at hg; simp [Value.ownBlock] at hg; omega
      · rw [h] at hg; simp at hg; omega

set_option maxHeartbeats 400000 in
theorem new_writer (w : World) : Calls Try.prog 37 #[] w fun e w' => e = .returned (.pointer (some ⟨w.heap.size, 0, none⟩)) ∧ Wr w' w.heap.size (.slice none 0 0) [] ∧ Kp [] w w' := by
  go_enter Try.func37, Try.ntmps37
  go_wp2
  go_ret
  exact ⟨rfl, ⟨Blk.new _ _ _, World.ownsRow_nil _ _ _ _⟩, (Kp.refl [] w).alloc _⟩

set_option maxHeartbeats 400000 in
theorem w_bytes (p : Nat) (v : Value) (bs : List UInt8) (w : World) (hw : Wr w p v bs) (hn : bs.length ≤ 140737488355328) :
    Calls Try.prog 41 #[.pointer (some ⟨p, 0, none⟩)] w fun e w' => ∃ v', e = .returned v' ∧ Ow w' 5 1 v' bs.length (bv bs) ∧ Kp [] w w' ∧ ∀ g, v'.ownBlock = some g → w.heap.size ≤ g := by
  have hc := hw.1.cell 0
  simp at hc
  go_enter Try.func41, Try.ntmps41
  go_wp2_with (go_at_call 64; refine (clone_any v bs bs.length w (Rd.of_own hw.2) hn).mono ?_; rintro e w' ⟨v', rfl, h1, h2, h3⟩)
  go_ret
  exact ⟨v', rfl, h1, h2, h3⟩

set_option maxHeartbeats 400000 in
theorem w_signed (p : Nat) (v : Value) (bs : List UInt8) (x : Int) (w : World) (hw : Wr w p v bs) (hn : bs.length + 8 ≤ 140737488355328) :
    Calls Try.prog 38 #[.pointer (some ⟨p, 0, none⟩), .int .i64 x] w fun e w' => e = .returned (.int .i64 0) ∧ ∃ v', Wr w' p v' (bs ++ be 8 (tou64 x)) ∧ WSt p v v' w w' := by
  go_enter Try.func38, Try.ntmps38
  go_wp2_with fail
  rw [wrap_u64_nat]
  refine (put_u64 p v bs (tou64 x) (tou64_lt x) w hw hn).mono ?_
  rintro e w' ⟨rfl, h⟩
  go_wp2
  go_ret
  exact ⟨rfl, h⟩

theorem wr_step2 {w w1 w2 : World} {p : Nat} {v v1 v' : Value} {bs b1 b2 : List UInt8} {n m : Nat} (h : Wr w p v bs) (_ho : Ow w1 5 1 v1 n (bv b1)) (hk : Kp v.ownBlock.toList w w1) (hat : v1.ownBlock = v.ownBlock ∨ ∃ g, v1.ownBlock = some g ∧ w.heap.size ≤ g)
    (ho2 : Ow w2 5 1 v' m (bv b2)) (hg : w1.grownBy w2 v1.ownBlock) (hat2 : v'.ownBlock = v1.ownBlock ∨ v'.ownBlock = some w1.heap.size) :
    Wr (w2.setCell ⟨p, 0, none⟩ v') p v' b2 ∧ WSt p v v' w (w2.setCell ⟨p, 0, none⟩ v') := by
  have hk2 : Kp v.ownBlock.toList w w2 := hk.grown hg (fun g hgg => by
    rcases hat with h1 | ⟨g', h1, h2⟩
    · left; rw [← h1, hgg]; simp
    · rw [h1] at hgg; cases hgg; exact .inr h2)
  refine wr_step h ho2 hk2 ?_
  rcases hat2 with h1 | h1
  · rw [h1]; exact hat
  · exact .inr ⟨_, h1, hk.size⟩
end
/- Batches and entries as bytes: the plain mathematics. -/
section
open Go.RowKit

def chk (f : Int) (L : List (List UInt8)) : Nat :=
  if f < 0 ∨ 4611686018427387904 < f ∨ 4611686018427387904 - f + 1 < (L.length : Int) then 4
  else if L.length = 0 then 2
  else if 1024 < L.length then 5
  else if L.any (fun e => decide (4096 < e.length)) then 3 else 0
def item (e : List UInt8) : List UInt8 := be 2 e.length ++ e
def items (L : List (List UInt8)) : List UInt8 := L.flatMap item
def formB (f : Int) (L : List (List UInt8)) : List UInt8 := be 8 (tou64 f) ++ be 2 L.length ++ items L
def outB (f : Int) (L : List (List UInt8)) : List UInt8 := if chk f L = 0 then formB f L else []
theorem item_length (e : List UInt8) : (item e).length = e.length + 2 := by simp [item]; omega
theorem items_cons (e : List UInt8) (L : List (List UInt8)) : items (e :: L) = item e ++ items L := rfl
theorem items_append (L M : List (List UInt8)) : items (L ++ M) = items L ++ items M := by simp [items]
theorem items_take_succ {L : List (List UInt8)} {k : Nat} {e : List UInt8} (h : L[k]? = some e) : items (L.take (k + 1)) = items (L.take k) ++ item e := by
  rw [List.take_add_one, h, Option.toList_some, items_append]; simp [items]
theorem any_long_take_succ {L : List (List UInt8)} {k : Nat} {e : List UInt8} (h : L[k]? = some e) : (L.take (k + 1)).any (fun e => decide (4096 < e.length)) = ((L.take k).any (fun e => decide (4096 < e.length)) || decide (4096 < e.length)) := by
  rw [List.take_add_one, h, Option.toList_some, List.any_append]; simp
theorem any_long_of {L : List (List UInt8)} {k : Nat} {e : List UInt8} (h : L[k]? = some e) (hl : 4096 < e.length) : L.any (fun e => decide (4096 < e.length)) = true :=
  List.any_eq_true.2 ⟨e, List.mem_of_getElem? h, by simpa using hl⟩
theorem chk_zero {f : Int} {L : List (List UInt8)} (h : chk f L = 0) : 0 ≤ f ∧ f ≤ 4611686018427387904 ∧ (L.length : Int) ≤ 4611686018427387904 - f + 1 ∧ 0 < L.length ∧ L.length ≤ 1024 ∧ ∀ e ∈ L, e.length ≤ 4096 := by
  unfold chk at h
  split at h
  · cases h
  · split at h
    · cases h
    · split at h
      · cases h
      · split at h
        · cases h
        · rename_i h1 h2 h3 h4
          refine ⟨by omega, by omega, by omega, by omega, by omega, fun e he => ?_⟩
          have : ¬ 4096 < e.length := fun hl => h4 (List.any_eq_true.2 ⟨e, he, by simpa using hl⟩)
          omega
theorem items_length_le (L : List (List UInt8)) (h : ∀ e ∈ L, e.length ≤ 4096) : (items L).length ≤ 4098 * L.length := by
  induction L with
  | nil => simp [items]
  | cons e L ih =>
    rw [items_cons, List.length_append, item_length, List.length_cons]
    have h1 := h e (by simp)
    have h2 := ih (fun x hx => h x (by simp [hx]))
    omega
theorem formB_length (f : Int) (L : List (List UInt8)) : (formB f L).length = 10 + (items L).length := by unfold formB; simp [be_length]; omega

/-! ### numbers as eight bytes -/
def sgn (b : List UInt8) : Int := wrap64 (num b)
theorem tou64_of_nonneg {f : Int} (h : 0 ≤ f) (h2 : f ≤ 9223372036854775807) : (tou64 f : Int) = f := by
  have := wrap_u64_nat f
  rw [← this]
  simp [IntKind.wrap, IntKind.bits, IntKind.signed]
  omega
theorem sgn_be {f : Int} (h1 : 0 ≤ f) (h2 : f ≤ 9223372036854775807) : sgn (be 8 (tou64 f)) = f := by
  have h := tou64_of_nonneg h1 h2
  unfold sgn
  rw [num_be_lt (tou64_lt f)]
  unfold wrap64
  rw [h]
  omega
theorem num_inj_len : ∀ (a b : List UInt8), a.length = b.length → num a = num b → a = b
  | [], [], _, _ => rfl
  | x :: a, y :: b, hl, h => by
    rw [num_cons, num_cons] at h
    simp only [List.length_cons, Nat.add_right_cancel_iff] at hl
    have ha := num_lt a
    have hb := num_lt b
    rw [hl] at h ha
    have hp : 0 < 256 ^ b.length := Nat.pow_pos (by decide)
    have hx : x.toNat = y.toNat := by
      have e1 : (x.toNat * 256 ^ b.length + num a) / 256 ^ b.length = x.toNat := by
        rw [Nat.mul_comm, Nat.mul_add_div hp, Nat.div_eq_of_lt ha, Nat.add_zero]
      have e2 : (y.toNat * 256 ^ b.length + num b) / 256 ^ b.length = y.toNat := by
        rw [Nat.mul_comm, Nat.mul_add_div hp, Nat.div_eq_of_lt hb, Nat.add_zero]
      rw [← e1, h, e2]
    rw [hx] at h
    have := UInt8.toNat_inj.1 hx
    subst this
    rw [num_inj_len a b hl (by omega)]
  | [], _ :: _, hl, _ => by simp at hl
  | _ :: _, [], hl, _ => by simp at hl
theorem be_num (k : Nat) (b : List UInt8) (h : b.length = k) : be k (num b) = b := by
  refine num_inj_len _ _ (by simp [h]) ?_
  rw [num_be_lt]
  rw [← h]
  exact num_lt b
/-! ### what bytes are -/
def stN (b : List UInt8) : Nat → Option (List (List UInt8) × Nat)
  | 0 => some ([], 10)
  | k + 1 => match stN b k with
    | none => none
    | some (L, at_) => if b.length < at_ + 2 then none else if b.length < at_ + 2 + num ((b.drop at_).take 2) then none else some (L ++ [(b.drop (at_ + 2)).take (num ((b.drop at_).take 2))], at_ + 2 + num ((b.drop at_).take 2))
theorem stN_none {b : List UInt8} {k : Nat} (h : stN b k = none) : ∀ d, stN b (k + d) = none
  | 0 => h
  | d + 1 => by rw [← Nat.add_assoc, stN, stN_none h d]
theorem stN_none_le {b : List UInt8} {k n : Nat} (h : stN b k = none) (hn : k ≤ n) : stN b n = none := by
  rw [show n = k + (n - k) by omega]; exact stN_none h _
theorem stN_succ {b : List UInt8} {k at_ : Nat} {L : List (List UInt8)} (h : stN b k = some (L, at_)) : stN b (k + 1) = if b.length < at_ + 2 then none else if b.length < at_ + 2 + num ((b.drop at_).take 2) then none else some (L ++ [(b.drop (at_ + 2)).take (num ((b.drop at_).take 2))], at_ + 2 + num ((b.drop at_).take 2)) := by
  rw [stN, h]
/-- What k rounds have found: the entries' form stands in the bytes. -/
theorem stN_form {b : List UInt8} (hb : 10 ≤ b.length) : ∀ (k at_ : Nat) (L : List (List UInt8)), stN b k = some (L, at_) → L.length = k ∧ 10 ≤ at_ ∧ at_ ≤ b.length ∧ (b.drop 10).take (at_ - 10) = items L
  | 0, at_, L, h => by
    simp only [stN, Option.some.injEq, Prod.mk.injEq] at h
    obtain ⟨rfl, rfl⟩ := h
    simp [items, hb]
  | k + 1, at_, L, h => by
    cases hk : stN b k with
    | none => rw [stN, hk] at h; cases h
    | some p =>
      obtain ⟨L', a'⟩ := p
      obtain ⟨h1, h2, h3, h4⟩ := stN_form hb k a' L' hk
      rw [stN_succ hk] at h
      split at h
      · cases h
      · split at h
        · cases h
        · rename_i q1 q2
          simp only [Option.some.injEq, Prod.mk.injEq] at h
          obtain ⟨rfl, rfl⟩ := h
          have hl2 : ((b.drop a').take 2).length = 2 := by rw [List.length_take, List.length_drop]; omega
          generalize hs : num ((b.drop a').take 2) = s at *
          refine ⟨by simp [h1], by omega, by omega, ?_⟩
          rw [items_append, show a' + 2 + s - 10 = (a' - 10) + (2 + s) by omega, List.take_add, h4]
          congr 1
          rw [List.drop_drop, show 10 + (a' - 10) = a' by omega, List.take_add, List.drop_drop]
          have hl3 : ((b.drop (a' + 2)).take s).length = s := by rw [List.length_take, List.length_drop]; omega
          simp only [items, List.flatMap_cons, List.flatMap_nil, List.append_nil, item, hl3]
          rw [← hs, be_num 2 _ hl2, hs]
theorem stN_mem {b : List UInt8} {e : List UInt8} : ∀ (d k at_ at' : Nat) (L L' : List (List UInt8)), stN b k = some (L, at_) → e ∈ L → stN b (k + d) = some (L', at') → e ∈ L'
  | 0, k, at_, at', L, L', h, he, h' => by
    rw [Nat.add_zero, h] at h'
    cases h'
    exact he
  | d + 1, k, at_, at', L, L', h, he, h' => by
    cases hk : stN b (k + d) with
    | none => rw [← Nat.add_assoc, stN, hk] at h'; cases h'
    | some p =>
      obtain ⟨L1, a1⟩ := p
      have ih := stN_mem d k at_ a1 L L1 h he hk
      rw [← Nat.add_assoc, stN_succ hk] at h'
      split at h'
      · cases h'
      · split at h'
        · cases h'
        · simp only [Option.some.injEq, Prod.mk.injEq] at h'
          obtain ⟨rfl, rfl⟩ := h'
          exact List.mem_append_left _ ih
def cntB (b : List UInt8) : Nat := num ((b.drop 8).take 2)
def readB (b : List UInt8) : Option (Int × List (List UInt8)) :=
  if b.length < 10 then none else
    match stN b (cntB b) with
    | none => none
    | some (L, at_) => if at_ = b.length ∧ chk (sgn (b.take 8)) L = 0 then some (sgn (b.take 8), L) else none
theorem readB_short {b : List UInt8} (h : b.length < 10) : readB b = none := if_pos h
theorem readB_stop {b : List UInt8} (h : 10 ≤ b.length) {k : Nat} (hk : k ≤ cntB b) (hs : stN b k = none) : readB b = none := by
  unfold readB
  rw [if_neg (by omega), stN_none_le hs hk]
theorem readB_end {b : List UInt8} (h : 10 ≤ b.length) {L : List (List UInt8)} {at_ : Nat} (hs : stN b (cntB b) = some (L, at_)) : readB b = if at_ = b.length ∧ chk (sgn (b.take 8)) L = 0 then some (sgn (b.take 8), L) else none := by
  unfold readB
  rw [if_neg (by omega), hs]
/-- An entry that is too long: no batch's bytes. -/
theorem readB_long {b : List UInt8} (h : 10 ≤ b.length) {k at_ : Nat} {L : List (List UInt8)} (hk : k < cntB b) (hs : stN b k = some (L, at_)) (hl : 4096 < num ((b.drop at_).take 2)) : readB b = none := by
  cases hn : stN b (k + 1) with
  | none => exact readB_stop h (show k + 1 ≤ cntB b by omega) hn
  | some p =>
    obtain ⟨L1, a1⟩ := p
    rw [stN_succ hs] at hn
    split at hn
    · cases hn
    · split at hn
      · cases hn
      · rename_i q1 q2
        simp only [Option.some.injEq, Prod.mk.injEq] at hn
        obtain ⟨h1, h2⟩ := hn
        cases he : stN b (cntB b) with
        | none => exact readB_stop h (Nat.le_refl _) he
        | some p =>
          obtain ⟨L2, a2⟩ := p
          rw [readB_end h he, if_neg]
          rintro ⟨_, hc⟩
          have hs1 : stN b (k + 1) = some (L1, a1) := by
            rw [stN_succ hs, if_neg q1, if_neg q2, h1, h2]
          have hm := stN_mem (cntB b - (k + 1)) (k + 1) a1 a2 L1 L2 hs1 (e := (b.drop (at_ + 2)).take (num ((b.drop at_).take 2))) (by rw [← h1]; simp) (by rw [show k + 1 + (cntB b - (k + 1)) = cntB b by omega]; exact he)
          have := (chk_zero hc).2.2.2.2.2 _ hm
          rw [List.length_take, List.length_drop] at this
          omega
/-- The rounds over a form. -/
theorem stN_of (hd : List UInt8) (hh : hd.length = 10) (M : List (List UInt8)) (r : List UInt8) (hM : ∀ e ∈ M, e.length ≤ 4096) : ∀ k, k ≤ M.length → stN (hd ++ items M ++ r) k = some (M.take k, 10 + (items (M.take k)).length)
  | 0, _ => by simp [stN, items]
  | k + 1, hk => by
    have hlt : k < M.length := hk
    have he : M[k]? = some M[k] := List.getElem?_eq_getElem hlt
    have hd1 : (hd ++ items M ++ r).drop (10 + (items (M.take k)).length) = item M[k] ++ (items (M.drop (k + 1)) ++ r) := by
      have h1 : items M = items (M.take k) ++ (item M[k] ++ items (M.drop (k + 1))) := by
        rw [← items_cons, ← List.drop_eq_getElem_cons hlt, ← items_append, List.take_append_drop]
      rw [h1, List.append_assoc, ← List.drop_drop, List.drop_append_of_le_length (by omega), List.drop_of_length_le (by omega : hd.length ≤ 10), List.nil_append, List.append_assoc, List.drop_left, List.append_assoc]
    have h2 : ((hd ++ items M ++ r).drop (10 + (items (M.take k)).length)).take 2 = be 2 M[k].length := by
      rw [hd1]
      unfold item
      rw [List.append_assoc, List.take_left' (by simp)]
    have hlen : (hd ++ items M ++ r).length = 10 + (items (M.take k)).length + (M[k].length + 2) + ((items (M.drop (k + 1))).length + r.length) := by
      have := congrArg List.length hd1
      simp only [List.length_drop, List.length_append, item_length] at this ⊢
      have h3 : 10 + (items (M.take k)).length ≤ hd.length + (items M).length + r.length := by
        have h1 : items M = items (M.take k) ++ items (M.drop k) := by rw [← items_append, List.take_append_drop]
        rw [h1]; simp only [List.length_append]; omega
      omega
    have hn : num (be 2 M[k].length) = M[k].length := num_be_lt (by have := hM M[k] (List.getElem_mem hlt); simp; omega)
    rw [stN_succ (stN_of hd hh M r hM k (by omega)), h2, hn, if_neg (by omega), if_neg (by omega)]
    have h4 : ((hd ++ items M ++ r).drop (10 + (items (M.take k)).length + 2)).take M[k].length = M[k] := by
      rw [← List.drop_drop, hd1]
      unfold item
      rw [List.append_assoc, List.drop_left' (by simp), List.take_left]
    rw [h4, items_take_succ he, List.take_add_one, he, Option.toList_some, List.length_append, item_length]
    congr 2
    omega
theorem formB_take8 (f : Int) (L : List (List UInt8)) (r : List UInt8) : (formB f L ++ r).take 8 = be 8 (tou64 f) := by
  unfold formB
  rw [List.append_assoc, List.append_assoc, List.take_left' (by simp)]
theorem formB_cnt (f : Int) (L : List (List UInt8)) (r : List UInt8) (h : L.length < 65536) : cntB (formB f L ++ r) = L.length := by
  unfold cntB formB
  rw [List.append_assoc, List.append_assoc, List.drop_left' (by simp), List.take_left' (by simp), num_be_lt (by simpa using h)]
theorem formB_st (f : Int) (L : List (List UInt8)) (r : List UInt8) (h : ∀ e ∈ L, e.length ≤ 4096) : stN (formB f L ++ r) L.length = some (L, (formB f L).length) := by
  have := stN_of (be 8 (tou64 f) ++ be 2 L.length) (by simp) L r h L.length (Nat.le_refl _)
  rw [List.take_length] at this
  rw [formB_length]
  exact this
/-- What is written is read. -/
theorem readB_of {f : Int} {L : List (List UInt8)} (h : chk f L = 0) : readB (formB f L) = some (f, L) := by
  obtain ⟨h1, h2, h3, h4, h5, h6⟩ := chk_zero h
  have hc := formB_cnt f L [] (by omega)
  have hs := formB_st f L [] h6
  have ht := formB_take8 f L []
  rw [List.append_nil] at hc hs ht
  rw [readB_end (by rw [formB_length]; omega) (by rw [hc]; exact hs), ht, sgn_be h1 (by omega), if_pos ⟨rfl, h⟩]
end
/- Lists of texts in memory: a slice of slices of bytes. -/
section
open Go.RowKit

/-- The slice v holds the texts L, wherever it and they lie. -/
def Txs (w : World) (v : Value) (L : List (List UInt8)) : Prop :=
  ∃ vs, Rd w 1 v L.length vs ∧ ∀ i (h : i < L.length), ∃ u, vs[i]? = some u ∧ Rd w 1 u L[i].length (bv L[i])
/-- Where it lies. -/
def TxsIn (w : World) (v : Value) (L : List (List UInt8)) (S : List Nat) : Prop :=
  ∃ vs, Rd w 1 v L.length vs ∧ (∀ i (h : i < L.length), ∃ u, vs[i]? = some u ∧ Rd w 1 u L[i].length (bv L[i]) ∧ ∀ g, u.ownBlock = some g → L[i] ≠ [] → g ∈ S) ∧ ∀ g, v.ownBlock = some g → L ≠ [] → g ∈ S
section
variable {w w' : World} {v : Value} {L : List (List UInt8)} {S T : List Nat}
theorem TxsIn.txs (h : TxsIn w v L S) : Txs w v L := by
  obtain ⟨vs, h1, h2, _⟩ := h
  exact ⟨vs, h1, fun i hi => by obtain ⟨u, a, b, _⟩ := h2 i hi; exact ⟨u, a, b⟩⟩
theorem Txs.kp0 (h : Txs w v L) (hk : Kp [] w w') : Txs w' v L := by
  obtain ⟨vs, h1, h2⟩ := h
  exact ⟨vs, rd_old h1 hk, fun i hi => by obtain ⟨u, a, b⟩ := h2 i hi; exact ⟨u, a, rd_old b hk⟩⟩
theorem Txs.open_ (h : Txs w v L) : ∃ A c, v = .slice A L.length c ∧ (0 < L.length → ∃ ad, A = some ad) ∧ ∀ ad, A = some ad → ∀ i (h : i < L.length), ∃ u, w.cell? (ad.add i) = some u ∧ Rd w 1 u L[i].length (bv L[i]) := by
  obtain ⟨vs, ⟨hl, A, c, rfl, _, _, hA, hc⟩, h2⟩ := h
  refine ⟨A, c, rfl, fun h0 => ?_, fun ad had i hi => ?_⟩
  · cases A with
    | none => have := (hA rfl).1; omega
    | some ad => exact ⟨ad, rfl⟩
  · obtain ⟨u, a, b⟩ := h2 i hi
    exact ⟨u, hc ad had i u a, b⟩
end
/-- The block of a text that is not empty. -/
def fpB (u : Value) (bs : List UInt8) : List Nat := if bs = [] then [] else u.ownBlock.toList
theorem fpB_mem {u : Value} {bs : List UInt8} {g : Nat} (h : u.ownBlock = some g) (hne : bs ≠ []) : g ∈ fpB u bs := by simp [fpB, hne, h]
theorem txsIn1 {w : World} {u : Value} {bs : List UInt8} {n : Nat} (t : TypeId) (h : Rd w 1 u n (bv bs)) :
    TxsIn (w.alloc (.cells #[u] t)) (.slice (some ⟨w.heap.size, 0, none⟩) 1 1) [bs] (w.heap.size :: fpB u bs) := by
  have hn : n = bs.length := by have := h.1; rw [bv_length] at this; omega
  subst hn
  refine ⟨[u], rd_new w t u, fun i hi => ?_, fun g hg _ => by simp [Value.ownBlock] at hg; simp [hg]⟩
  obtain rfl : i = 0 := by simpa using hi
  exact ⟨u, rfl, h.alloc _, fun g hg hne => List.mem_cons_of_mem _ (fpB_mem hg hne)⟩
theorem txsIn2 {w : World} {u1 u2 : Value} {b1 b2 : List UInt8} {n1 n2 : Nat} (t : TypeId) (h1 : Rd w 1 u1 n1 (bv b1)) (h2 : Rd w 1 u2 n2 (bv b2)) :
    TxsIn (w.alloc (.cells #[u1, u2] t)) (.slice (some ⟨w.heap.size, 0, none⟩) 2 2) [b1, b2] (w.heap.size :: (fpB u1 b1 ++ fpB u2 b2)) := by
  have hn1 : n1 = b1.length := by have := h1.1; rw [bv_length] at this; omega
  have hn2 : n2 = b2.length := by have := h2.1; rw [bv_length] at this; omega
  subst hn1 hn2
  refine ⟨[u1, u2], Rd.of_own (ow_new w t 1 2 #[u1, u2] rfl (by decide)), fun i hi => ?_, fun g hg _ => by simp [Value.ownBlock] at hg; simp [hg]⟩
  have : i = 0 ∨ i = 1 := by simp at hi; omega
  rcases this with rfl | rfl
  · exact ⟨u1, rfl, h1.alloc _, fun g hg hne => List.mem_cons_of_mem _ (List.mem_append_left _ (fpB_mem hg hne))⟩
  · exact ⟨u2, rfl, h2.alloc _, fun g hg hne => List.mem_cons_of_mem _ (List.mem_append_right _ (fpB_mem hg hne))⟩
theorem txs2 {w : World} {u1 u2 : Value} {b1 b2 : List UInt8} {n1 n2 g : Nat} (t : TypeId) (hg : g = w.heap.size) (h1 : Rd w 1 u1 n1 (bv b1)) (h2 : Rd w 1 u2 n2 (bv b2)) :
    Txs (w.alloc (.cells #[u1, u2] t)) (.slice (some ⟨g, 0, none⟩) 2 2) [b1, b2] := by
  subst hg; exact (txsIn2 t h1 h2).txs
end
/- Appending bytes onto a row of the call's own: one rule, with all that a walk asks of it behind. -/
section
open Go.RowKit

/-- A row that was grown lies where it lay, or is new. -/
theorem fresh_grow {B : Nat} {w1 : World} {v v' : Value} (h : B ≤ w1.heap.size) (hf : ∀ g, v.ownBlock = some g → B ≤ g) (ha : v'.ownBlock = v.ownBlock ∨ v'.ownBlock = some w1.heap.size) : ∀ g, v'.ownBlock = some g → B ≤ g := by
  intro g hg
  rcases ha with e | e
  · exact hf g (by rw [← e]; exact hg)
  · rw [e] at hg; injection hg with hg; omega
theorem Held.newBlk {w0 w : World} {L : List Res} (h : Held w0 w L) (t : TypeId) (cs : Array Value) : Held w0 (w.alloc (.cells cs t)) (blkR w.heap.size t cs :: L) :=
  h.new (blkR w.heap.size t cs) ((Kp.refl [] w).alloc (.cells cs t)) (Blk.new w t cs) (fun b hb => by
    have hb : b = w.heap.size := by simpa [blkR] using hb
    omega)
theorem Held.newBlkN {w0 w : World} {L : List Res} (h : Held w0 w L) (t : TypeId) (cs : Array Value) {g : Nat} (hg : w.heap.size = g) : Held w0 (w.alloc (.cells cs t)) (blkR g t cs :: L) := hg ▸ h.newBlk t cs
/-- What was written lies in the first things, which are let go. -/
theorem Held.rest {w0 w w' : World} {l1 l2 : List Res} {S : List Nat} (h : Held w0 w (l1 ++ l2)) (hk : Kp S w w') (hS : ∀ g, g ∈ S → ∃ r, r ∈ l1 ∧ g ∈ r.fp) : Held w0 w' l2 := by
  have hap := List.pairwise_append.1 h.apart
  refine ⟨h.k.trans hk (fun g hg => ?_), fun s hs => ?_, fun s hs => h.base s (List.mem_append_right _ hs), hap.2.1⟩
  · obtain ⟨r, hr, hb⟩ := hS g hg
    exact .inr (h.base r (List.mem_append_left _ hr) g hb)
  · exact s.keep w w' S (h.ok s (List.mem_append_right _ hs)) hk (fun b hb hm => by
      obtain ⟨r, hr, hrb⟩ := hS b hm
      exact hap.2.2 r hr s hs b hrb hb)
/-- A small block, cell by cell, as a walk wants it. -/
theorem Blk.c1 {w : World} {g : Nat} {t : TypeId} {a : Value} (h : Blk w g t #[a]) : w.cell? ⟨g, 0, none⟩ = some a ∧ w.frozen? ⟨g, 0, none⟩ = false ∧ g < w.heap.size := ⟨h.cell 0, h.frozen 0, h.lt⟩
theorem Blk.c2 {w : World} {g : Nat} {t : TypeId} {a b : Value} (h : Blk w g t #[a, b]) : w.cell? ⟨g, 0, none⟩ = some a ∧ w.cell? ⟨g, 1, none⟩ = some b ∧ w.frozen? ⟨g, 0, none⟩ = false ∧ w.frozen? ⟨g, 1, none⟩ = false ∧ g < w.heap.size := ⟨h.cell 0, h.cell 1, h.frozen 0, h.frozen 1, h.lt⟩
/-- 'append(v, y...)' for bytes: v a row made since w0; y reads as bytes. -/
theorem app_bytes {ops : Array Oper} {rest : List Oper} {o : Oper} {a : Act} {w : World} {Q : Exit → Act → World → Prop} (hgd : o.guard = none) (s x : Operand)
    (ho : o.op = .call { callee := .builtin .append, args := #[s, x], argTypes := #[25, 25] })
    (v : Value) (xs : List UInt8) (hs : a.eval s = v) (hown : Ow w 5 1 v xs.length (bv xs))
    (y : Value) (ys : List UInt8) (hx : a.eval x = y) (hr : Rd w 1 y ys.length (bv ys))
    (w0 : World) (h0 : Kp [] w0 w) (hf : ∀ g, v.ownBlock = some g → w0.heap.size ≤ g) (hb : xs.length + ys.length ≤ 140737488355328)
    (h : ∀ v' w', Ow w' 5 1 v' (xs ++ ys).length (bv (xs ++ ys)) → Kp [] w0 w' → Kp v.ownBlock.toList w w' → (∀ g, v'.ownBlock = some g → w0.heap.size ≤ g) → (v'.ownBlock = v.ownBlock ∨ v'.ownBlock = some w.heap.size) → wpList Try.prog ops Q rest (a.put o.dst v') w') : wpList Try.prog ops Q (o :: rest) a w := by
  obtain ⟨i0, hi, hz0, hz1, hz2⟩ := info_parts Try.infoU8
  refine wpList_app (P := Try.prog) w hgd s x 25 ho 5 i0 _ 1 1 Try.underlying25 hi hz0 hz1 hz2 rfl (by decide) v xs.length (bv xs) hs hown y ys.length (bv ys) hx hr (bv_one _) (by unfold maxLen; omega) (by omega) ?_
  intro v' w' h1 h2 h3
  rw [← bv_append, ← List.length_append] at h1
  exact h v' w' h1 (h0.grown h2 (fun g hg => .inr (hf g hg))) (Kp.of_grown h2) (fresh_grow h0.size hf h3) h3
end
/- slices.Equal for bytes. -/
section
open Go.RowKit

/-- A cell that is there reads as it did. -/
theorem cell_kept {w w' : World} {p : Addr} {u : Value} (h : w.cell? p = some u) (hk : Kp [] w w') : w'.cell? p = some u :=
  (World.cell?_of_block (hk.block p.block (cell_lt h) (by simp))).trans h
theorem take_succ_of {α : Type} {a : List α} {k : Nat} {x : α} (h : a[k]? = some x) : a.take (k + 1) = a.take k ++ [x] := by
  rw [List.take_add_one, h]; rfl
theorem rd_get2 {w : World} {v : Value} {bs : List UInt8} (h : Rd w 1 v bs.length (bv bs)) : ∃ A c, v = .slice A bs.length c ∧ bs.length ≤ c ∧ c ≤ maxLen ∧ (A = none → bs.length = 0) ∧ ∀ ad, A = some ad → ∀ i (h : i < bs.length), w.cell? (ad.add i) = some (.int .u8 (bs[i].toNat : Int)) := by
  obtain ⟨_, A, c, hv, h1, h2, h3, h4⟩ := h
  exact ⟨A, c, hv, h1, h2, fun hA => (h3 hA).1, fun ad had i hi => h4 ad had i _ (by rw [bv_get, List.getElem?_eq_getElem hi]; rfl)⟩
end
/- Walks of package wire: a hash is written; the reference's Same. -/
section
open Go.RowKit

end
/- Walks of package wire: the reader. -/
section
open Go.RowKit

/-- A reader: its block p, the bytes' slice v, the place, the bytes. -/
structure Rr (w : World) (p : Nat) (v : Value) (at_ : Nat) (bs : List UInt8) : Prop where
  blk : Blk w p 103 #[v, .int .i64 at_]
  rd : Rd w 1 v bs.length (bv bs)
  le : at_ ≤ bs.length
  len : bs.length ≤ 140737488355328
  ne : v.ownBlock ≠ some p
  vlt : ∀ g, v.ownBlock = some g → g < w.heap.size

theorem Rr.kp {w w' : World} {S : List Nat} {p : Nat} {v : Value} {at_ : Nat} {bs : List UInt8} (h : Rr w p v at_ bs) (hk : Kp S w w') (hp : p ∉ S) (hv : ∀ g, v.ownBlock = some g → g ∉ S) : Rr w' p v at_ bs :=
  ⟨h.blk.kp hk hp, h.rd.kp hk hv, h.le, h.len, h.ne, fun g hg => Nat.lt_of_lt_of_le (h.vlt g hg) hk.size⟩
theorem Rr.moved {w w' : World} {p : Nat} {v : Value} {a b : Nat} {bs : List UInt8} (h : Rr w p v a bs) (hk : Kp [p] w w') (hb : Blk w' p 103 #[v, .int .i64 b]) (hle : b ≤ bs.length) : Rr w' p v b bs :=
  ⟨hb, h.rd.kp hk (fun g hg hm => by simp at hm; subst hm; exact h.ne hg), hle, h.len, h.ne, fun g hg => Nat.lt_of_lt_of_le (h.vlt g hg) hk.size⟩

set_option maxHeartbeats 400000 in
theorem r_left (p : Nat) (v : Value) (a : Nat) (bs : List UInt8) (w : World) (h : Rr w p v a bs) :
    Calls Try.prog 68 #[.pointer (some ⟨p, 0, none⟩)] w fun e w' => e = .returned (.int .i64 ((bs.length : Int) - a)) ∧ ∃ n, w' = w.drewN n := by
  have hc0 := h.blk.cell 0
  have hc1 := h.blk.cell 1
  obtain ⟨A, c, rfl⟩ := rd_form h.rd
  simp at hc0 hc1
  have hle := h.le
  have hlen := h.len
  go_enter Try.func68, Try.ntmps68
  go_wp2
  go_quiet (fail)
  go_wp2
  go_ret
  exact ⟨rfl, _, rfl⟩

theorem setCell1 {w : World} {p : Nat} {v u x : Value} (h : Blk w p 103 #[v, u]) : Blk (w.setCell ⟨p, 1, none⟩ x) p 103 #[v, x] := by
  simpa using h.set_ 1 x

theorem Rr.alloc {w : World} {p : Nat} {v : Value} {at_ : Nat} {bs : List UInt8} (h : Rr w p v at_ bs) (o : Obj) : Rr (w.alloc o) p v at_ bs := h.kp ((Kp.refl [] w).alloc o) (by simp) (fun _ _ => by simp)
theorem Rr.kp' {w w' : World} {p : Nat} {v : Value} {at_ : Nat} {bs : List UInt8} (h : Rr w p v at_ bs) (hk : Kp [] w w') : Rr w' p v at_ bs := h.kp hk (by simp) (fun _ _ => by simp)
theorem Rr.set {w : World} {p g : Nat} {v : Value} {at_ : Nat} {bs : List UInt8} (h : Rr w p v at_ bs) (hg : g ≠ p) (hv : v.ownBlock ≠ some g) (i : Nat) (x : Value) : Rr (w.setCell ⟨g, i, none⟩ x) p v at_ bs :=
  h.kp ((Kp.refl [g] w).setCell (.inl (by simp)) x) (by simpa using Ne.symm hg) (fun k hk hm => by simp at hm; subst hm; exact hv hk)
theorem Rr.drewN {w : World} {p : Nat} {v : Value} {at_ : Nat} {bs : List UInt8} (h : Rr w p v at_ bs) (n : Nat) : Rr (w.drewN n) p v at_ bs := ⟨h.blk, h.rd, h.le, h.len, h.ne, h.vlt⟩

set_option maxHeartbeats 800000 in
/-- 'next', where there are enough bytes and what goes on answers OK. -/
theorem next_ok (p : Nat) (v : Value) (a : Nat) (bs : List UInt8) (k : Nat) (hk : a + k ≤ bs.length) (g : Nat) (lb : Array Value) (w : World) (h : Rr w p v a bs) (R : World → Prop)
    (eg : ∀ args w, (callFunc g args).run Try.prog w = .ok (.enter g args) w)
    (hcall : ∀ A c W, Kp [p] w W → Rr W p v (a + k) bs → Rd W 1 (.slice A k c) k (bv ((bs.drop a).take k)) →
      Calls Try.prog g (#[.slice A k c] ++ lb) W fun e w' => e = .returned (.int .i64 0) ∧ R w') :
    Calls Try.prog 65 #[.pointer (some ⟨p, 0, none⟩), .int .i64 k, .func (.func g) #[] lb] w fun e w' => e = .returned (.int .i64 0) ∧ R w' := by
  have hc0 := h.blk.cell 0
  have hc1 := h.blk.cell 1
  have hf1 := h.blk.frozen 1
  obtain ⟨A, c, hA⟩ := rd_form h.rd
  subst hA
  have hcc : bs.length ≤ c ∧ c ≤ 9223372036854775807 := by
    obtain ⟨_, A', c', hv, h1, h2, _⟩ := h.rd
    cases hv
    exact ⟨h1, by unfold maxLen at h2; omega⟩
  obtain ⟨hcc1, hcc2⟩ := hcc
  simp at hc0 hc1
  have hle := h.le
  have hlen := h.len
  have hmv : ∀ n, Kp [p] w ((w.setCell ⟨p, 1, none⟩ (.int .i64 ((a : Int) + k))).drewN n) ∧ Rr ((w.setCell ⟨p, 1, none⟩ (.int .i64 ((a : Int) + k))).drewN n) p (.slice A bs.length c) (a + k) bs := fun n => by
    have k1 : Kp [p] w (w.setCell ⟨p, 1, none⟩ (.int .i64 ((a : Int) + k))) := (Kp.refl [p] w).setCell (.inl (by simp)) _
    exact ⟨k1.drewN n, (h.moved k1 (by have := setCell1 (x := .int .i64 ((a : Int) + k)) h.blk; rw [Int.natCast_add]; exact this) hk).drewN n⟩
  have Hmv := Lib.hid hmv
  have Hcall := Lib.hid hcall
  clear hmv hcall
  have Hh := Lib.hid h
  clear h
  by_cases hca : c = a
  · have hk0 : k = 0 := by omega
    subst hk0
    have ha : a = bs.length := by omega
    have Ha := Lib.hid ha
    clear ha
    subst hca
    go_enter Try.func65, Try.ntmps65
    go_wp2_with (go_at_call 68; refine (r_left p _ c bs w Hh.out).mono ?_; rintro e w' ⟨rfl, nq, rfl⟩)
    obtain ⟨h1, h2⟩ := Hmv.out nq
    simp only [Int.natCast_zero, Int.add_zero, Nat.add_zero] at h1 h2
    have h3 := h2.rd.cut0 (a := c) (k := 0) hk rfl
    rw [Nat.sub_self, bv_drop] at h3
    refine (Hcall.out _ _ _ h1 h2 h3).mono ?_
    rintro e w' ⟨rfl, hR⟩
    go_wp2
    go_ret
    exact ⟨rfl, hR⟩
  · go_enter Try.func65, Try.ntmps65
    go_wp2_with (go_at_call 68; refine (r_left p _ a bs w Hh.out).mono ?_; rintro e w' ⟨rfl, nq, rfl⟩)
    obtain ⟨h1, h2⟩ := Hmv.out nq
    refine (Hcall.out _ _ _ h1 h2 (by rw [← bv_drop]; exact h2.rd.cut hk hca)).mono ?_
    rintro e w' ⟨rfl, hR⟩
    go_wp2
    go_ret
    exact ⟨rfl, hR⟩

set_option maxHeartbeats 800000 in
/-- 'next', where there are not enough bytes. -/
theorem next_end (p : Nat) (v : Value) (a : Nat) (bs : List UInt8) (k : Int) (hk : (bs.length : Int) - a < k) (f : Value) (w : World) (h : Rr w p v a bs) :
    Calls Try.prog 65 #[.pointer (some ⟨p, 0, none⟩), .int .i64 k, f] w fun e w' => e = .returned (.int .i64 110) ∧ ∃ n, w' = w.drewN n := by
  go_enter Try.func65, Try.ntmps65
  go_wp2_with (go_at_call 68; refine (r_left p _ a bs w h).mono ?_; rintro e w' ⟨rfl, nq, rfl⟩)
  go_ret
  exact ⟨rfl, nq, rfl⟩

set_option maxHeartbeats 800000 in
/-- 'next', where what goes on refuses: the place is as it was. -/
theorem next_no (p : Nat) (v : Value) (a : Nat) (bs : List UInt8) (k : Nat) (hk : a + k ≤ bs.length) (g : Nat) (lb : Array Value) (w : World) (h : Rr w p v a bs) (er : Int) (her : er ≠ 0) (R : World → Prop)
    (eg : ∀ args w, (callFunc g args).run Try.prog w = .ok (.enter g args) w)
    (hcall : ∀ A c W, Kp [p] w W → Rr W p v (a + k) bs → Rd W 1 (.slice A k c) k (bv ((bs.drop a).take k)) →
      Calls Try.prog g (#[.slice A k c] ++ lb) W fun e w' => e = .returned (.int .i64 er) ∧ Kp [p] w w' ∧ Blk w' p 103 #[v, .int .i64 ((a : Int) + k)] ∧ R (w'.setCell ⟨p, 1, none⟩ (.int .i64 a))) :
    Calls Try.prog 65 #[.pointer (some ⟨p, 0, none⟩), .int .i64 k, .func (.func g) #[] lb] w fun e w' => e = .returned (.int .i64 er) ∧ R w' := by
  have hc0 := h.blk.cell 0
  have hc1 := h.blk.cell 1
  have hf1 := h.blk.frozen 1
  obtain ⟨A, c, hA⟩ := rd_form h.rd
  subst hA
  have hcc : bs.length ≤ c ∧ c ≤ 9223372036854775807 := by
    obtain ⟨_, A', c', hv, h1, h2, _⟩ := h.rd
    cases hv
    exact ⟨h1, by unfold maxLen at h2; omega⟩
  obtain ⟨hcc1, hcc2⟩ := hcc
  simp at hc0 hc1
  have hle := h.le
  have hlen := h.len
  have hmv : ∀ n, Kp [p] w ((w.setCell ⟨p, 1, none⟩ (.int .i64 ((a : Int) + k))).drewN n) ∧ Rr ((w.setCell ⟨p, 1, none⟩ (.int .i64 ((a : Int) + k))).drewN n) p (.slice A bs.length c) (a + k) bs := fun n => by
    have k1 : Kp [p] w (w.setCell ⟨p, 1, none⟩ (.int .i64 ((a : Int) + k))) := (Kp.refl [p] w).setCell (.inl (by simp)) _
    exact ⟨k1.drewN n, (h.moved k1 (by have := setCell1 (x := .int .i64 ((a : Int) + k)) h.blk; rw [Int.natCast_add]; exact this) hk).drewN n⟩
  have Hmv := Lib.hid hmv
  have Hcall := Lib.hid hcall
  clear hmv hcall
  have Hh := Lib.hid h
  clear h
  have her' : (er == 0) = false := by simpa using her
  have her2 : (er != 0) = true := by simpa using her
  have Her := Lib.hid her
  clear her
  by_cases hca : c = a
  · have hk0 : k = 0 := by omega
    subst hk0
    have ha : a = bs.length := by omega
    have Ha := Lib.hid ha
    clear ha
    subst hca
    go_enter Try.func65, Try.ntmps65
    go_wp2_with (go_at_call 68; refine (r_left p _ c bs w Hh.out).mono ?_; rintro e w' ⟨rfl, nq, rfl⟩)
    obtain ⟨h1, h2⟩ := Hmv.out nq
    simp only [Int.natCast_zero, Int.add_zero, Nat.add_zero] at h1 h2
    have h3 := h2.rd.cut0 (a := c) (k := 0) hk rfl
    rw [Nat.sub_self, bv_drop] at h3
    refine (Hcall.out _ _ _ h1 h2 h3).mono ?_
    rintro e w' ⟨rfl, hkp, hb, hR⟩
    have g1 := hb.cell 1
    have g2 := hb.frozen 1
    have g3 := hb.lt
    simp at g1
    have HR := Lib.hid hR
    clear hR hb hkp h1 h2 h3
    go_wp2
    go_ret
    exact ⟨rfl, HR.out⟩
  · go_enter Try.func65, Try.ntmps65
    go_wp2_with (go_at_call 68; refine (r_left p _ a bs w Hh.out).mono ?_; rintro e w' ⟨rfl, nq, rfl⟩)
    obtain ⟨h1, h2⟩ := Hmv.out nq
    refine (Hcall.out _ _ _ h1 h2 (by rw [← bv_drop]; exact h2.rd.cut hk hca)).mono ?_
    rintro e w' ⟨rfl, hkp, hb, hR⟩
    have g1 := hb.cell 1
    have g2 := hb.frozen 1
    have g3 := hb.lt
    simp at g1
    have HR := Lib.hid hR
    clear hR hb hkp h1 h2
    go_wp2
    go_ret
    exact ⟨rfl, HR.out⟩
end
/- Walks of package wire: what a reader reads. -/
section
open Go.RowKit

theorem or_shift (n q : Nat) (hq : q < 256) (hn : n < 72057594037927936) : bits .or .u64 ((n : Int) * 256) (q : Int) = ((256 * n + q : Nat) : Int) := by
  have h1 : ((n : Int) * 256) = ((256 * n : Nat) : Int) := by omega
  rw [h1, u64_or_nat _ _ (by omega) (by omega)]
  have h2 : n <<< 8 + q = n <<< 8 ||| q := Nat.shiftLeft_add_eq_or_of_lt (by omega) n
  rw [Nat.shiftLeft_eq] at h2
  rw [show 256 * n = n * 2 ^ 8 from by omega, ← h2]

set_option maxHeartbeats 400000 in
theorem number_any (x : Value) (bs : List UInt8) (hb : bs.length ≤ 8) (w : World) (hx : Rd w 1 x bs.length (bv bs)) :
    Calls Try.prog 67 #[x] w fun e w' => e = .returned (.int .u64 (num bs)) ∧ w = w' := by
  obtain ⟨hl, A, c, rfl, hc1, hc2, hA, hcells⟩ := hx
  go_enter Try.func67, Try.ntmps67
  go_wp2
  go_loop [3, 8] (fun x t => ∃ i : Nat, i ≤ bs.length ∧ t = .int .i64 i ∧ x = .int .u64 (num (bs.take i))) (fun _ t => bs.length - (intOf t).toNat)
  case atStart => exact ⟨0, Nat.zero_le _, rfl, rfl⟩
  case round =>
    obtain ⟨i, hi, rfl, rfl⟩ := hrel
    by_cases hlt : i < bs.length
    · rcases A with _ | ad
      · have := (hA rfl).1; omega
      · obtain ⟨q, n, hq, hn, hcell, hnext, hnow⟩ : ∃ q n : Nat, q < 256 ∧ n < 72057594037927936 ∧ w.cell? (ad.add i) = some (.int .u8 (q : Int)) ∧ num (bs.take (i + 1)) = 256 * n + q ∧ num (bs.take i) = n := by
          refine ⟨bs[i].toNat, num (bs.take i), bs[i].toNat_lt, ?_, hcells ad rfl i _ (by rw [bv_get, List.getElem?_eq_getElem hlt]; rfl), num_take bs i hlt, rfl⟩
          have h1 := num_lt (bs.take i)
          rw [List.length_take, Nat.min_eq_left (by omega)] at h1
          have : 256 ^ i ≤ 256 ^ 7 := Nat.pow_le_pow_right (by omega) (by omega)
          omega
        rw [hnow]
        have Hnext := Lib.hid hnext
        clear hnext hnow hcells
        go_wp2
        go_round
        case rel => exact ⟨i + 1, by omega, by go_num, by rw [Hnext.out, or_shift n q hq hn]⟩
        case measure => simp [intOf]; omega
    · go_wp2
      go_ret
      rw [List.take_of_length_le (by omega)]
      exact ⟨rfl, rfl⟩

theorem eg_take_u16 : ∀ args w, (callFunc 71 args).run Try.prog w = .ok (.enter 71 args) w := fun _ _ => by kernel_rfl
set_option maxRecDepth 100000 in
set_option maxHeartbeats 800000 in
theorem take_u16_in (g : Nat) (x0 : Value) (A : Option Addr) (c : Nat) (bs : List UInt8) (hb : bs.length = 2) (w : World) (hx : Rd w 1 (.slice A 2 c) 2 (bv bs)) (hg : Blk w g 70 #[x0]) :
    Calls Try.prog 71 #[.slice A 2 c, .pointer (some ⟨g, 0, none⟩)] w fun e w' => e = .returned (.int .i64 0) ∧ (w.setCell ⟨g, 0, none⟩ (.int .u16 (num bs))) = w' := by
  have hc := hg.cell 0
  have hf := hg.frozen 0
  have hlt := hg.lt
  simp at hc
  have hnum := num_lt bs
  rw [hb] at hnum
  simp only [Nat.reducePow] at hnum
  have Hc := number_any (.slice A 2 c) bs (by omega) w (by rw [hb]; exact hx)
  have HC := Lib.hid Hc
  clear Hc
  generalize num bs = n at *
  go_enter Try.func71, Try.ntmps71
  go_wp2_with (go_at_call 67; refine HC.out.mono ?_; rintro e w' ⟨rfl, rfl⟩)
  go_ret
  exact ⟨rfl, rfl⟩

set_option maxRecDepth 100000 in
set_option maxHeartbeats 800000 in
theorem take_u16 (p : Nat) (v : Value) (a : Nat) (bs : List UInt8) (w : World) (h : Rr w p v a bs) (hk : a + 2 ≤ bs.length) :
    Calls Try.prog 49 #[.pointer (some ⟨p, 0, none⟩)] w fun e w' => e = .returned (.tuple #[.int .u16 (num ((bs.drop a).take 2)), .int .i64 0]) ∧ Kp [p] w w' ∧ Rr w' p v (a + 2) bs := by
  have hp := h.blk.lt
  have hnext : Calls Try.prog 65 #[.pointer (some ⟨p, 0, none⟩), .int .i64 2, .func (.func 71) #[] #[.pointer (some ⟨w.heap.size, 0, none⟩)]] (w.alloc (.cells #[.int .u16 0] 70))
      fun e w' => e = .returned (.int .i64 0) ∧ w'.cell? ⟨w.heap.size, 0, none⟩ = some (.int .u16 (num ((bs.drop a).take 2))) ∧ Kp [p] w w' ∧ Rr w' p v (a + 2) bs :=
    next_ok p v a bs 2 hk _ _ _ (h.alloc _) _ eg_take_u16 (fun A c W hkp hr hrd => by
      have hb : Blk W w.heap.size 70 #[.int .u16 0] := (Blk.new w _ _).kp hkp (by simp; omega)
      refine (take_u16_in w.heap.size _ A c _ (by rw [List.length_take, List.length_drop]; omega) W hrd hb).mono ?_
      rintro e w' ⟨rfl, rfl⟩
      refine ⟨rfl, by simpa using (hb.set_ 0 _).cell 0, ?_, hr.set (by omega) (fun hv => by have := h.vlt _ hv; omega) 0 _⟩
      have k1 : Kp [p] w W := ((Kp.refl [p] w).alloc _).trans hkp (fun g hg => .inl hg)
      exact k1.setCell (.inr (by simp)) _)
  have Hn := Lib.hid hnext
  clear hnext
  generalize num ((bs.drop a).take 2) = n at *
  go_enter Try.func49, Try.ntmps49
  go_wp2_with (first
    | (go_at_call 63; refine (width_u16 _).mono ?_; rintro e w' ⟨rfl, rfl⟩)
    | (go_at_call 65; refine Hn.out.mono ?_; rintro e w' ⟨rfl, hc, hkp, hr⟩))
  go_ret2
  exact ⟨rfl, hkp, hr⟩

set_option maxRecDepth 100000 in
set_option maxHeartbeats 800000 in
theorem take_u16_end (p : Nat) (v : Value) (a : Nat) (bs : List UInt8) (w : World) (h : Rr w p v a bs) (hk : bs.length < a + 2) :
    Calls Try.prog 49 #[.pointer (some ⟨p, 0, none⟩)] w fun e w' => e = .returned (.tuple #[.int .u16 0, .int .i64 110]) ∧ Kp [] w w' := by
  have hn := next_end p v a bs 2 (by omega) (.func (.func 71) #[] #[.pointer (some ⟨w.heap.size, 0, none⟩)]) _ (h.alloc (.cells #[.int .u16 0] 70))
  have Hn := Lib.hid hn
  clear hn
  go_enter Try.func49, Try.ntmps49
  go_wp2_with (first
    | (go_at_call 63; refine (width_u16 _).mono ?_; rintro e w' ⟨rfl, rfl⟩)
    | (go_at_call 65; refine Hn.out.mono ?_; rintro e w' ⟨rfl, nq, rfl⟩; have hc : ((w.alloc (.cells #[.int .u16 0] 70)).drewN nq).cell? ⟨w.heap.size, 0, none⟩ = some (.int .u16 0) := by simp))
  go_ret2
  exact ⟨rfl, ((Kp.refl [] w).alloc _).drewN _⟩

theorem eg_take_u64 : ∀ args w, (callFunc 76 args).run Try.prog w = .ok (.enter 76 args) w := fun _ _ => by kernel_rfl
set_option maxRecDepth 100000 in
set_option maxHeartbeats 800000 in
theorem take_u64_in (g : Nat) (x0 : Value) (A : Option Addr) (c : Nat) (bs : List UInt8) (hb : bs.length = 8) (w : World) (hx : Rd w 1 (.slice A 8 c) 8 (bv bs)) (hg : Blk w g 93 #[x0]) :
    Calls Try.prog 76 #[.slice A 8 c, .pointer (some ⟨g, 0, none⟩)] w fun e w' => e = .returned (.int .i64 0) ∧ (w.setCell ⟨g, 0, none⟩ (.int .u64 (num bs))) = w' := by
  have hc := hg.cell 0
  have hf := hg.frozen 0
  have hlt := hg.lt
  simp at hc
  have hnum := num_lt bs
  rw [hb] at hnum
  simp only [Nat.reducePow] at hnum
  have Hc := number_any (.slice A 8 c) bs (by omega) w (by rw [hb]; exact hx)
  have HC := Lib.hid Hc
  clear Hc
  generalize num bs = n at *
  go_enter Try.func76, Try.ntmps76
  go_wp2_with (go_at_call 67; refine HC.out.mono ?_; rintro e w' ⟨rfl, rfl⟩)
  go_ret
  exact ⟨rfl, rfl⟩

set_option maxRecDepth 100000 in
set_option maxHeartbeats 800000 in
theorem take_u64 (p : Nat) (v : Value) (a : Nat) (bs : List UInt8) (w : World) (h : Rr w p v a bs) (hk : a + 8 ≤ bs.length) :
    Calls Try.prog 70 #[.pointer (some ⟨p, 0, none⟩)] w fun e w' => e = .returned (.tuple #[.int .u64 (num ((bs.drop a).take 8)), .int .i64 0]) ∧ Kp [p] w w' ∧ Rr w' p v (a + 8) bs := by
  have hp := h.blk.lt
  have hnext : Calls Try.prog 65 #[.pointer (some ⟨p, 0, none⟩), .int .i64 8, .func (.func 76) #[] #[.pointer (some ⟨w.heap.size, 0, none⟩)]] (w.alloc (.cells #[.int .u64 0] 93))
      fun e w' => e = .returned (.int .i64 0) ∧ w'.cell? ⟨w.heap.size, 0, none⟩ = some (.int .u64 (num ((bs.drop a).take 8))) ∧ Kp [p] w w' ∧ Rr w' p v (a + 8) bs :=
    next_ok p v a bs 8 hk _ _ _ (h.alloc _) _ eg_take_u64 (fun A c W hkp hr hrd => by
      have hb : Blk W w.heap.size 93 #[.int .u64 0] := (Blk.new w _ _).kp hkp (by simp; omega)
      refine (take_u64_in w.heap.size _ A c _ (by rw [List.length_take, List.length_drop]; omega) W hrd hb).mono ?_
      rintro e w' ⟨rfl, rfl⟩
      refine ⟨rfl, by simpa using (hb.set_ 0 _).cell 0, ?_, hr.set (by omega) (fun hv => by have := h.vlt _ hv; omega) 0 _⟩
      have k1 : Kp [p] w W := ((Kp.refl [p] w).alloc _).trans hkp (fun g hg => .inl hg)
      exact k1.setCell (.inr (by simp)) _)
  have Hn := Lib.hid hnext
  clear hnext
  generalize num ((bs.drop a).take 8) = n at *
  go_enter Try.func70, Try.ntmps70
  go_wp2_with (first
    | (go_at_call 74; refine (width_u64 _).mono ?_; rintro e w' ⟨rfl, rfl⟩)
    | (go_at_call 65; refine Hn.out.mono ?_; rintro e w' ⟨rfl, hc, hkp, hr⟩))
  go_ret2
  exact ⟨rfl, hkp, hr⟩

set_option maxRecDepth 100000 in
set_option maxHeartbeats 800000 in
theorem take_u64_end (p : Nat) (v : Value) (a : Nat) (bs : List UInt8) (w : World) (h : Rr w p v a bs) (hk : bs.length < a + 8) :
    Calls Try.prog 70 #[.pointer (some ⟨p, 0, none⟩)] w fun e w' => e = .returned (.tuple #[.int .u64 0, .int .i64 110]) ∧ Kp [] w w' := by
  have hn := next_end p v a bs 8 (by omega) (.func (.func 76) #[] #[.pointer (some ⟨w.heap.size, 0, none⟩)]) _ (h.alloc (.cells #[.int .u64 0] 93))
  have Hn := Lib.hid hn
  clear hn
  go_enter Try.func70, Try.ntmps70
  go_wp2_with (first
    | (go_at_call 74; refine (width_u64 _).mono ?_; rintro e w' ⟨rfl, rfl⟩)
    | (go_at_call 65; refine Hn.out.mono ?_; rintro e w' ⟨rfl, nq, rfl⟩; have hc : ((w.alloc (.cells #[.int .u64 0] 93)).drewN nq).cell? ⟨w.heap.size, 0, none⟩ = some (.int .u64 0) := by simp))
  go_ret2
  exact ⟨rfl, ((Kp.refl [] w).alloc _).drewN _⟩
end
/- A row of texts of the call's own; one more text appended; two lists of texts held against one another. -/
section
open Go.RowKit
theorem Try.infoBytes : (Try.prog.info? 25).map (fun i => (i.zero, i.size, i.bytes)) = some (some (.slice none 0 0), 1, 24) := by kernel_rfl
def textR : List (List UInt8) → List Value → List Res
  | l :: ls, B :: Bs => rowR 5 1 B l.length (bv l) :: textR ls Bs
  | _, _ => []
theorem exec_convT {P : Program} {w : World} {ρ : Operand → Value} {o : Oper} {s t : TypeId} {x : Operand} {v u : Value} (ho : o.op = .convert s t x) (hx : ρ x = v) (h : (convert s t v).run P w = .ok u w) : (execOp ρ o).run P w = .ok (.value u) w := by
  unfold execOp
  simp only [ho, hx, Sem.run_bind, h, Result.andThen_ok, Sem.run_pure]
theorem textR_snoc : ∀ (ls : List (List UInt8)) (Bs : List Value) (l : List UInt8) (B : Value), ls.length = Bs.length → textR (ls ++ [l]) (Bs ++ [B]) = textR ls Bs ++ [rowR 5 1 B l.length (bv l)]
  | [], [], _, _, _ => rfl
  | _ :: ls, _ :: Bs, l, B, h => by simp only [List.cons_append, textR, textR_snoc ls Bs l B (by simpa using h)]
  | [], _ :: _, _, _, h => by simp at h
  | _ :: _, [], _, _, h => by simp at h
theorem textR_mem : ∀ (ls : List (List UInt8)) (Bs : List Value) (i : Nat) (l : List UInt8) (B : Value), ls[i]? = some l → Bs[i]? = some B → rowR 5 1 B l.length (bv l) ∈ textR ls Bs
  | l0 :: ls, B0 :: Bs, 0, l, B, h1, h2 => by cases h1; cases h2; exact List.mem_cons_self ..
  | l0 :: ls, B0 :: Bs, i + 1, l, B, h1, h2 => List.mem_cons_of_mem _ (textR_mem ls Bs i l B h1 h2)
  | [], _, _, _, _, h1, _ => by simp at h1
  | _ :: _, [], _, _, _, _, h2 => by simp at h2
/-- Text i, and how the rest stands if it is turned. -/
theorem textR_split : ∀ (ls : List (List UInt8)) (Bs : List Value) (i : Nat) (l : List UInt8) (B : Value), ls[i]? = some l → Bs[i]? = some B →
    ∃ l1 l2, textR ls Bs = l1 ++ rowR 5 1 B l.length (bv l) :: l2 ∧ ∀ (l' : List UInt8) (B' : Value), textR (ls.set i l') (Bs.set i B') = l1 ++ rowR 5 1 B' l'.length (bv l') :: l2
  | l0 :: ls, B0 :: Bs, 0, l, B, h1, h2 => by cases h1; cases h2; exact ⟨[], textR ls Bs, rfl, fun _ _ => rfl⟩
  | l0 :: ls, B0 :: Bs, i + 1, l, B, h1, h2 => by
    obtain ⟨l1, l2, e, h⟩ := textR_split ls Bs i l B h1 h2
    exact ⟨rowR 5 1 B0 l0.length (bv l0) :: l1, l2, by simp only [textR, e, List.cons_append], fun l' B' => by simp only [List.set_cons_succ, textR, h, List.cons_append]⟩
  | [], _, _, _, _, h1, _ => by simp at h1
  | _ :: _, [], _, _, _, _, h2 => by simp at h2
theorem texts_of {w0 W : World} {v : Value} {ls : List (List UInt8)} {Bs : List Value} {L1 L2 : List Res} (hl : ls.length = Bs.length) (S : Held w0 W (L1 ++ rowR 25 1 v ls.length Bs :: L2)) (hm : ∀ r, r ∈ textR ls Bs → r ∈ L2) : Txs W v ls := by
  refine ⟨Bs, Rd.of_own S.at_, fun i hi => ?_⟩
  have hB : Bs[i]? = some (Bs[i]'(by omega)) := List.getElem?_eq_getElem (by omega)
  have hr := textR_mem ls Bs i _ _ (List.getElem?_eq_getElem hi) hB
  exact ⟨_, hB, Rd.of_own (S.ok _ (List.mem_append_right _ (List.mem_cons_of_mem _ (hm _ hr))))⟩
end
end Go.Proofs.Ytdmdnphbheomoaa
