/- Words for memory, over any program: which blocks a call may turn; a slice that reads as a list; a row of the call's own; append onto such a row. -/
import Derived.WalkKit
import Derived.WalkSpells
import Derived.WalkLawsBesides
import Derived.Maps.AppendAt
import Derived.Deep.AppendLies
import Derived.Deep.Draws
import Derived.Lib.Hide
import Derived.Deep.RegionWith
import Derived.Deep.QuietTactic
import Derived.BigQuiet
import Derived.BigRegion
import Derived.Deep.RegionHeld3
import Derived.Deep.RegionLaw
import Derived.Deep.DeepCutAuto
import Derived.Deep.DeepFit
import Derived.Outline
namespace Go.Proofs.Ytgldgkdnnimglaa
open Go.RowKit

/-- 'w'' is 'w' with new blocks, and with writes to the blocks of S alone. -/
structure Kp (S : List Nat) (w w' : World) : Prop where
  os : w'.os = w.os
  tape : w'.tape = w.tape
  output : w'.output = w.output
  size : w.heap.size ≤ w'.heap.size
  block : ∀ k, k < w.heap.size → k ∉ S → w'.heap[k]? = w.heap[k]?

theorem Kp.refl (S : List Nat) (w : World) : Kp S w w := ⟨rfl, rfl, rfl, Nat.le_refl _, fun _ _ _ => rfl⟩
theorem Kp.drew {S : List Nat} {a w : World} (h : Kp S a w) : Kp S a w.drew := ⟨h.os, h.tape, h.output, h.size, h.block⟩
theorem Kp.drewN {S : List Nat} {a w : World} (h : Kp S a w) (n : Nat) : Kp S a (w.drewN n) := ⟨h.os, h.tape, h.output, h.size, h.block⟩
/-- Two steps: what the second may turn is among the first's, or new. -/
theorem Kp.trans {S T : List Nat} {a b c : World} (h : Kp S a b) (k : Kp T b c) (hT : ∀ g, g ∈ T → g ∈ S ∨ a.heap.size ≤ g) : Kp S a c :=
  ⟨k.os.trans h.os, k.tape.trans h.tape, k.output.trans h.output, Nat.le_trans h.size k.size, fun i hi hn => (k.block i (Nat.lt_of_lt_of_le hi h.size) (fun hm => by
    rcases hT i hm with h1 | h1
    · exact hn h1
    · omega)).trans (h.block i hi hn)⟩
theorem Kp.more {S T : List Nat} {a b : World} (h : Kp S a b) (hT : ∀ g, g ∈ S → g ∈ T ∨ a.heap.size ≤ g) : Kp T a b := (Kp.refl T a).trans h hT
theorem Kp.alloc {S : List Nat} {a w : World} (h : Kp S a w) (o : Obj) : Kp S a (w.alloc o) :=
  ⟨h.os, h.tape, h.output, Nat.le_trans h.size (by simp), fun i hi hn => (Below.heap_alloc w o i (Nat.lt_of_lt_of_le hi h.size)).trans (h.block i hi hn)⟩
theorem Kp.setCell {S : List Nat} {a w : World} (h : Kp S a w) {p : Addr} (hp : p.block ∈ S ∨ a.heap.size ≤ p.block) (u : Value) : Kp S a (w.setCell p u) :=
  ⟨h.os, h.tape, h.output, by simpa [World.setCell] using h.size, fun i hi hn => (Below.heap_setCell w p u i (by
    rintro rfl
    rcases hp with hp | hp
    · exact hn hp
    · omega)).trans (h.block i hi hn)⟩
theorem Kp.of_grown {w w' : World} {row : Option Nat} (h : w.grownBy w' row) : Kp row.toList w w' :=
  ⟨h.os, h.tape, h.output, h.size, fun k hk hn => h.block k hk (fun e => hn (by rw [← e]; simp))⟩
theorem Kp.grown {S : List Nat} {a w w' : World} {row : Option Nat} (h : Kp S a w) (hg : w.grownBy w' row) (hr : ∀ g, row = some g → g ∈ S ∨ a.heap.size ≤ g) : Kp S a w' :=
  h.trans (Kp.of_grown hg) (fun g hm => hr g (by cases row <;> simp_all))
theorem Kp.below {S : List Nat} {B : Nat} {w w' : World} (h : Kp S w w') (hB : B ≤ w.heap.size) (hS : ∀ g, g ∈ S → B ≤ g) : Below B w w' :=
  ⟨h.os, h.tape, h.output, h.size, fun k hk => h.block k (by omega) (fun hm => by have := hS k hm; omega)⟩
theorem Kp.of_below {w w' : World} (h : Below w.heap.size w w') : Kp [] w w' := ⟨h.os, h.tape, h.output, h.size, fun k hk _ => h.block k hk⟩

/-- Block g is just the cells cs of element type t, none frozen. -/
def Blk (w : World) (g : Nat) (t : TypeId) (cs : Array Value) : Prop := w.heap[g]? = some (.cells cs t (0, 0))
section
variable {w w' : World} {g : Nat} {t : TypeId} {cs : Array Value}
theorem Blk.lt (h : Blk w g t cs) : g < w.heap.size := (Array.getElem?_eq_some_iff.1 h).1
theorem Blk.cell (h : Blk w g t cs) (i : Nat) : w.cell? ⟨g, i, none⟩ = cs[i]? := cell_of_row w g i cs t (0, 0) h
theorem Blk.frozen (h : Blk w g t cs) (i : Nat) : w.frozen? ⟨g, i, none⟩ = false := by
  unfold Blk at h
  simp [World.frozen?, h]
theorem Blk.new (w : World) (t : TypeId) (cs : Array Value) : Blk (w.alloc (.cells cs t)) w.heap.size t cs := heap_alloc_new w _
theorem Blk.drew (h : Blk w g t cs) : Blk w.drew g t cs := h
theorem Blk.drewN (h : Blk w g t cs) (n : Nat) : Blk (w.drewN n) g t cs := h
theorem Blk.alloc (h : Blk w g t cs) (o : Obj) : Blk (w.alloc o) g t cs := (Below.heap_alloc w o g h.lt).trans h
theorem Blk.set_ (h : Blk w g t cs) (i : Nat) (u : Value) : Blk (w.setCell ⟨g, i, none⟩ u) g t (cs.setIfInBounds i u) := by
  unfold Blk at h ⊢
  simp [World.setCell, Array.getElem?_modify, h]
theorem Blk.far (h : Blk w g t cs) {p : Addr} (hp : g ≠ p.block) (u : Value) : Blk (w.setCell p u) g t cs := (Below.heap_setCell w p u g hp).trans h
theorem Blk.kp {S : List Nat} (h : Blk w g t cs) (hk : Kp S w w') (hg : g ∉ S) : Blk w' g t cs := (hk.block g h.lt hg).trans h
theorem Blk.ne_ {g' : Nat} {t' : TypeId} {cs' : Array Value} (h : Blk w g t cs) (h' : Blk w g' t' cs') (hne : t ≠ t') : g ≠ g' := by
  rintro rfl
  unfold Blk at h h'
  rw [h] at h'
  injection h' with h'
  injection h' with _ ht
  exact hne ht
end

theorem block_of_add (a : Addr) (n : Nat) : (a.add n).block = a.block := by unfold Addr.add; split <;> rfl
theorem add_of_add (a : Addr) (i j : Nat) : (a.add i).add j = a.add (i + j) := by
  unfold Addr.add
  by_cases hi : i = 0 <;> by_cases hj : j = 0 <;> simp [hi, hj, Nat.add_assoc]

/-- The slice value v holds the cells xs ('s' cells an element), wherever it lies: nil let in. -/
def Rd (w : World) (s : Nat) (v : Value) (n : Nat) (xs : List Value) : Prop :=
  xs.length = n * s ∧ ∃ A c, v = .slice A n c ∧ n ≤ c ∧ c ≤ maxLen ∧ (A = none → n = 0 ∧ c = 0) ∧ ∀ ad, A = some ad → ∀ j u, xs[j]? = some u → w.cell? (ad.add j) = some u

section
variable {w w' : World} {s n : Nat} {v : Value} {xs : List Value}
theorem cell_lt {w : World} {a : Addr} {u : Value} (h : w.cell? a = some u) : a.block < w.heap.size := by
  unfold World.cell? at h
  rcases Nat.lt_or_ge a.block w.heap.size with hlt | hge
  · exact hlt
  · rw [Array.getElem?_eq_none hge] at h; simp at h
theorem Rd.keep (h : Rd w s v n xs) (hk : ∀ p : Addr, v.ownBlock = some p.block → p.block < w.heap.size → w'.cell? p = w.cell? p) : Rd w' s v n xs := by
  obtain ⟨h1, A, c, rfl, h2, h3, h4, h5⟩ := h
  refine ⟨h1, A, c, rfl, h2, h3, h4, fun ad had j u hu => ?_⟩
  have h6 := h5 ad had j u hu
  subst had
  exact (hk _ (by rw [block_of_add]; rfl) (cell_lt h6)).trans h6
theorem Rd.kp {S : List Nat} (h : Rd w s v n xs) (hk : Kp S w w') (hn : ∀ g, v.ownBlock = some g → g ∉ S) : Rd w' s v n xs :=
  h.keep fun p hp hlt => World.cell?_of_block (hk.block p.block hlt (hn _ hp))
theorem Rd.drew (h : Rd w s v n xs) : Rd w.drew s v n xs := h
theorem Rd.alloc (h : Rd w s v n xs) (o : Obj) : Rd (w.alloc o) s v n xs := h.kp ((Kp.refl [] w).alloc o) (by simp)
theorem Rd.nil (w : World) (s : Nat) : Rd w s (.slice none 0 0) 0 [] := ⟨by simp, none, 0, rfl, by simp, by simp, fun _ => ⟨rfl, rfl⟩, fun ad h => by cases h⟩
theorem Rd.of_own {base : Nat} {e : TypeId} (h : w.ownsRow base e s v n xs) : Rd w s v n xs := by
  refine ⟨h.1, ?_⟩
  rcases h.2 with ⟨rfl, rfl⟩ | ⟨g, cap, cur, rfl, _, _, hnc, hcm, _⟩
  · exact ⟨none, 0, rfl, by simp, by simp, (fun _ => ⟨rfl, rfl⟩), (fun ad h0 => by cases h0)⟩
  · exact ⟨_, cap, rfl, hnc, hcm, (fun h0 => by cases h0), (fun ad had => by cases had; exact h.cells (g := g) rfl)⟩
end

/-- A row of the call's own (any block): 'ownsRow' from block 0 on. -/
abbrev Ow (w : World) (e : TypeId) (s : Nat) (v : Value) (n : Nat) (xs : List Value) : Prop := w.ownsRow 0 e s v n xs
section
variable {w w' : World} {e : TypeId} {s n : Nat} {v : Value} {xs : List Value}
theorem ow_kp {S : List Nat} (h : Ow w e s v n xs) (hk : Kp S w w') (hn : ∀ g, v.ownBlock = some g → g ∉ S) : Ow w' e s v n xs := by
  refine ⟨h.1, ?_⟩
  rcases h.2 with hv | ⟨g, cap, cur, rfl, hb, hgg, rest⟩
  · exact .inl hv
  · refine .inr ⟨g, cap, cur, rfl, hb, ?_, rest⟩
    rw [hk.block g (Array.getElem?_eq_some_iff.1 hgg).1 (hn g rfl)]
    exact hgg
theorem ow_lt (h : Ow w e s v n xs) {g : Nat} (hg : v.ownBlock = some g) : g < w.heap.size := (h.lt g hg).2
theorem ow_form (h : Ow w e s v n xs) : ∃ A c, v = .slice A n c ∧ n ≤ c ∧ c ≤ maxLen := by
  rcases h.2 with ⟨rfl, rfl⟩ | ⟨g', cap, cur, rfl, _, _, hn, hc, _⟩
  · exact ⟨none, 0, rfl, Nat.le_refl _, by simp⟩
  · exact ⟨_, cap, rfl, hn, hc⟩
theorem ow_blk_ne {t : TypeId} {g : Nat} {cs : Array Value} (h : Ow w e s v n xs) (hg : Blk w g t cs) (hne : e ≠ t) : v.ownBlock ≠ some g := by
  rcases h.2 with ⟨rfl, _⟩ | ⟨g', cap, cur, rfl, _, hh, _⟩
  · simp [Value.ownBlock]
  · intro he
    have : g' = g := by simpa [Value.ownBlock] using he
    subst this
    exact Blk.ne_ (t := e) hh hg hne rfl
end

/-- Bytes as values. -/
def bv (l : List UInt8) : List Value := l.map fun b => Value.int .u8 (b.toNat : Int)
theorem bv_nil : bv [] = [] := rfl
theorem bv_cons (b : UInt8) (l : List UInt8) : bv (b :: l) = Value.int .u8 (b.toNat : Int) :: bv l := rfl
theorem bv_append (a b : List UInt8) : bv (a ++ b) = bv a ++ bv b := List.map_append
theorem bv_length (a : List UInt8) : (bv a).length = a.length := List.length_map ..
theorem bv_one (a : List UInt8) : ∀ u ∈ bv a, u.oneCell' = true := by
  intro u hu
  obtain ⟨_, _, rfl⟩ := List.mem_map.1 hu
  rfl
theorem bv_get (l : List UInt8) (j : Nat) : (bv l)[j]? = l[j]?.map fun b => Value.int .u8 (b.toNat : Int) := List.getElem?_map ..
theorem rd_new (w : World) (t : TypeId) (u : Value) : Rd (w.alloc (.cells #[u] t)) 1 (.slice (some ⟨w.heap.size, 0, none⟩) 1 1) 1 [u] :=
  ⟨rfl, _, 1, rfl, Nat.le_refl _, by simp [maxLen], (fun h => by cases h), (fun ad had j x hx => by
    cases had
    rcases j with _ | j
    · simp at hx; subst hx; exact (Blk.new w t #[u]).cell 0
    · simp at hx)⟩
theorem one_bv (u : Value) (h : u.oneCell' = true) : ∀ x ∈ [u], x.oneCell' = true := by simpa using h
theorem bv_inj {a b : List UInt8} (h : bv a = bv b) : a = b := by
  induction a generalizing b with
  | nil => cases b with
    | nil => rfl
    | cons y b => cases h
  | cons x a ih => cases b with
    | nil => cases h
    | cons y b =>
      simp only [bv_cons, List.cons.injEq, Value.int.injEq, true_and] at h
      rw [ih h.2, UInt8.toNat_inj.1 (by omega : x.toNat = y.toNat)]

section
variable {P : Program} (w : World)
theorem run_append_none (t ty e : TypeId) (i : TypeInfo) (size : Nat) (ht : P.underlying t = some (.slice e)) (hi : P.info? e = some i)
    (v : Value) (n : Nat) (xs : List Value) (hown : Ow w e size v n xs) (c : Nat) : (Builtin.append_ #[t, t] ty #[v, .slice none 0 c]).run P w = .ok v w := by
  rcases hown.2 with ⟨rfl, rfl⟩ | ⟨g, cap, cur, rfl, _, _, hnc, _⟩
  · simp [Builtin.append_, run_underlying ht, sizeOf, typeInfo, hi, Builtin.lenOf, Builtin.firstCells]
  · simp [Builtin.append_, run_underlying ht, sizeOf, typeInfo, hi, Builtin.lenOf, Builtin.firstCells, hnc, storeCells]

/-- append of what reads as 'news' onto a row of the call's own. -/
theorem run_app (t ty e : TypeId) (i : TypeInfo) (z : Value) (size bytes : Nat) (ht : P.underlying t = some (.slice e)) (hi : P.info? e = some i) (hz : i.zero = some z)
    (hsize : i.size = size) (hby : i.bytes = bytes) (hzs : z.cells.size = size) (hsz : 0 < size)
    (v : Value) (n : Nat) (xs : List Value) (hown : Ow w e size v n xs)
    (x : Value) (m : Nat) (news : List Value) (hr : Rd w size x m news) (h1 : ∀ u ∈ news, u.oneCell' = true)
    (h63 : n + m ≤ maxLen) (hbytes : (n + m) * bytes ≤ 140737488355328) :
    ∃ v' w', (Builtin.append_ #[t, t] ty #[v, x]).run P w = .ok v' w' ∧ Ow w' e size v' (n + m) (xs ++ news) ∧ w.grownBy w' v.ownBlock ∧
      (v'.ownBlock = v.ownBlock ∨ v'.ownBlock = some w.heap.size) := by
  obtain ⟨hl, A, c, rfl, hc1, hc2, hA, hcells⟩ := hr
  rcases A with _ | ad
  · obtain ⟨rfl, rfl⟩ := hA rfl
    have hn : news = [] := List.eq_nil_of_length_eq_zero (by simpa using hl)
    subst hn
    exact ⟨v, w, run_append_none w t ty e i size ht hi v n xs hown 0, by simpa using hown, World.grownBy.refl w _, .inl rfl⟩
  · obtain ⟨v', w', hrun, h2, h3, _, h5⟩ := run_append_own_at (P := P) w 0 t ty e i z size bytes ht hi hz hsize hby hzs hsz v n xs hown ad m c news hl (hcells ad rfl) h1 h63 hbytes (Nat.zero_le _)
    exact ⟨v', w', hrun, h2, h3, h5⟩

theorem wpList_app {ops : Array Oper} {rest : List Oper} {o : Oper} {a : Act} {Q : Exit → Act → World → Prop} (hgd : o.guard = none) (s x : Operand) (t : TypeId)
    (ho : o.op = .call { callee := .builtin .append, args := #[s, x], argTypes := #[t, t] })
    (e : TypeId) (i : TypeInfo) (z : Value) (size bytes : Nat) (ht : P.underlying t = some (.slice e)) (hi : P.info? e = some i) (hz : i.zero = some z)
    (hsize : i.size = size) (hby : i.bytes = bytes) (hzs : z.cells.size = size) (hsz : 0 < size)
    (v : Value) (n : Nat) (xs : List Value) (hs : a.eval s = v) (hown : Ow w e size v n xs)
    (y : Value) (m : Nat) (news : List Value) (hx : a.eval x = y) (hr : Rd w size y m news) (h1 : ∀ u ∈ news, u.oneCell' = true)
    (h63 : n + m ≤ maxLen) (hbytes : (n + m) * bytes ≤ 140737488355328)
    (h : ∀ v' w', Ow w' e size v' (n + m) (xs ++ news) → w.grownBy w' v.ownBlock → (v'.ownBlock = v.ownBlock ∨ v'.ownBlock = some w.heap.size) → wpList P ops Q rest (a.put o.dst v') w') : wpList P ops Q (o :: rest) a w :=
  wpList_plain hgd fun K hK => by
    obtain ⟨v', w', hrun, h2, h3, h4⟩ := run_app (P := P) w t o.type e i z size bytes ht hi hz hsize hby hzs hsz v n xs hown y m news hr h1 h63 hbytes
    unfold Oper.wp execOp
    simp only [ho, resolve, invoke, builtin, Sem.run_bind, Sem.run_pure, Result.andThen_ok, List.map_toArray, List.map_cons, List.map_nil, hs, hx, hrun]
    exact hK _ _ (h v' w' h2 h3 h4)
end

/-- 's[a:a+k]', as the walk spells it. -/
theorem Rd.cut {w : World} {A : Option Addr} {n c a k : Nat} {xs : List Value} (h : Rd w 1 (.slice A n c) n xs) (hk : a + k ≤ n) (hca : ¬ c = a) : Rd w 1 (.slice (A.map (fun x => x.add a)) k (c - a)) k ((xs.drop a).take k) := by
  obtain ⟨hl, A', c', hv, h1, h2, h3, h4⟩ := h
  cases hv
  have hl' : xs.length = n := by omega
  refine ⟨by rw [List.length_take, List.length_drop]; omega, _, _, rfl, by omega, by omega, (fun hA => ?_), (fun ad had j u hu => ?_)⟩
  · have : A = none := by cases A <;> simp_all
    have := h3 this
    omega
  · rcases A with _ | ad0
    · cases had
    · cases had
      rw [add_of_add]
      refine h4 ad0 rfl _ u ?_
      rw [List.getElem?_take] at hu
      split at hu
      · rw [List.getElem?_drop] at hu; exact hu
      · cases hu
theorem Rd.cut0 {w : World} {A : Option Addr} {n c a k : Nat} {xs : List Value} (h : Rd w 1 (.slice A n c) n xs) (hk : a + k ≤ n) (hca : c = a) : Rd w 1 (.slice A k (c - a)) k ((xs.drop a).take k) := by
  obtain ⟨hl, A', c', hv, h1, h2, h3, h4⟩ := h
  cases hv
  have hk0 : k = 0 := by omega
  subst hk0
  refine ⟨by simp, _, _, rfl, by omega, by omega, (fun hA => ?_), (fun ad had j u hu => by simp at hu)⟩
  have := h3 hA
  omega
theorem bv_drop (l : List UInt8) (a k : Nat) : ((bv l).drop a).take k = bv ((l.drop a).take k) := by simp [bv, List.map_take, List.map_drop]

/-- A slice of bytes turned into a string. -/
theorem foldl_push (l : List UInt8) : ∀ (s : List UInt8), (l.map fun b : UInt8 => (b.toNat : Int)).foldl (fun (r : ByteArray) n => r.push (UInt8.ofNat n.toNat)) ⟨s.toArray⟩ = ⟨(s ++ l).toArray⟩ := by
  induction l with
  | nil => intro s; simp
  | cons b l ih =>
    intro s
    simp only [List.map_cons, List.foldl_cons, Int.toNat_natCast, UInt8.ofNat_toNat]
    have : (ByteArray.mk s.toArray).push b = ⟨(s ++ [b]).toArray⟩ := by simp [ByteArray.push]
    rw [this, ih (s ++ [b])]
    simp
theorem run_str {P : Program} {w : World} {x : Value} {bs : List UInt8} {n : Nat} (src dst e : TypeId) (hs : P.underlying src = some (.slice e)) (he : P.underlying e = some (.int .u8)) (hd : P.underlying dst = some .string) (h : Rd w 1 x n (bv bs)) :
    (convert src dst x).run P w = .ok (.string ⟨bs.toArray⟩) w := by
  obtain ⟨hl, A, c, rfl, _, _, hA, hc⟩ := h
  rw [run_convert_bytes_string w src dst e A n c hs he hd]
  rcases A with _ | a
  · obtain ⟨rfl, _⟩ := hA rfl
    have : bs = [] := List.eq_nil_of_length_eq_zero (by rw [bv_length] at hl; omega)
    subst this
    simp [Conv.bytesToString]
    rfl
  · have hn : n = bs.length := by rw [bv_length] at hl; omega
    subst hn
    have hbv : bv bs = (bs.map fun b : UInt8 => (b.toNat : Int)).map (Value.int .u8) := by simp [bv]
    have h1 := run_loadCells_list (P := P) (w := w) a (bv bs) (hc a rfl)
    rw [bv_length, hbv] at h1
    rw [run_bytesToString w a bs.length c (bs.map fun b : UInt8 => (b.toNat : Int)) h1]
    have h2 := foldl_push bs []
    simp only [List.nil_append] at h2
    rw [show (ByteArray.empty : ByteArray) = ⟨([] : List UInt8).toArray⟩ from rfl, h2]
end Go.Proofs.Ytgldgkdnnimglaa
