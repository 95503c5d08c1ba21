/- Arrays of bytes, whole; results that lie in memory; arrays of bytes held against one another. -/
import Derived.Test.YtgldgkdnnimglaaAgg
import Derived.ChangeKeysEq
namespace Go.Proofs.Ytgldgkdnnimglaa
open Go.RowKit

/-- The cells of a hash. -/
def hashA (cs : List UInt8) : Array Value := (bv cs).toArray
theorem hashA_size (cs : List UInt8) : (hashA cs).size = cs.length := by simp [hashA, bv_length]
theorem hashA_list (cs : List UInt8) : (hashA cs).toList = bv cs := rfl
theorem Blk.agg {w : World} {g : Nat} {t : TypeId} {cs : Array Value} (h : Blk w g t cs) : ∀ j u, cs.toList[j]? = some u → w.cell? ((⟨g, 0, none⟩ : Addr).add j) = some u := by
  intro j u hu
  have := h.cell j
  rw [Array.getElem?_toList] at hu
  rw [hu] at this
  by_cases hj : j = 0
  · subst hj; simpa [Addr.add] using this
  · simpa [Addr.add, hj] using this
theorem set_all (cur cs : Array Value) (h : cur.size = cs.size) : (cur.toList.take 0 ++ cs.toList ++ cur.toList.drop (0 + cs.size)).toArray = cs := by
  rw [List.drop_eq_nil_of_le (by rw [Array.length_toList]; omega)]
  simp

theorem results_cell_tmp {P : Program} {fn : Func} {w : World} {tmps : Array Value} {a t u g : Nat} {t' : TypeId} {cs : Array Value} {d : TypeDesc} (h : fn.results = #[.cell a t, .tmp u]) (ha : tmps.getD a undef = .pointer (some ⟨g, 0, none⟩)) (hb : Blk w g t' cs)
    (hu : P.underlying t = some d) (hd : aggB d = true) (hi : (P.info? t).map (·.size) = some cs.size) : (results fn tmps).run P w = .ok (.tuple #[.agg cs, tmps.getD u undef]) w := by
  have hl : (loadCells ⟨g, 0, none⟩ cs.size).run P w = .ok cs w := by
    have := run_loadCells_list (P := P) w ⟨g, 0, none⟩ cs.toList hb.agg
    simpa using this
  cases hq : P.info? t with
  | none => simp [hq] at hi
  | some i =>
    have hs : i.size = cs.size := by simpa [hq] using hi
    simp only [Array.getD_eq_getD_getElem?] at ha
    simp [results, h, ha, loadVar, asAddr, Sem.run_bind, run_isAgg hu hd, sizeOf, typeInfo, hq, hs, hl]


/-- A part laid into a new block, cell by cell. -/
theorem fold_set (cs z : Array Value) (n : Nat) (hc : cs.size = n) (hz : z.size = n) : Array.foldl (fun (a : Array Value) (x : Value × Nat) => a.setIfInBounds x.snd x.fst) z cs.zipIdx 0 n = cs := by
  have h3 : ∀ k, k ≤ cs.zipIdx.size → Array.foldl (fun (a : Array Value) (x : Value × Nat) => a.setIfInBounds x.snd x.fst) z cs.zipIdx 0 k = (cs.zipIdx.toList.take k).foldl (fun (a : Array Value) (x : Value × Nat) => a.setIfInBounds x.snd x.fst) z := fun k hk => by
    rw [Array.foldl_eq_foldl_extract, ← Array.foldl_toList, Array.toList_extract, List.extract_eq_take_drop]
    simp
  have key : ∀ m, m ≤ n → (Array.foldl (fun (a : Array Value) (x : Value × Nat) => a.setIfInBounds x.snd x.fst) z cs.zipIdx 0 m).size = n ∧ ∀ i : Nat, (Array.foldl (fun (a : Array Value) (x : Value × Nat) => a.setIfInBounds x.snd x.fst) z cs.zipIdx 0 m)[i]? = if i < m then cs[i]? else z[i]? := by
    intro m
    induction m with
    | zero => intro _; rw [h3 0 (Nat.zero_le _)]; simp [hz]
    | succ m ih =>
      intro hm
      obtain ⟨h1, h2⟩ := ih (by omega)
      have hlt : m < cs.zipIdx.size := by simp; omega
      have e : Array.foldl (fun (a : Array Value) (x : Value × Nat) => a.setIfInBounds x.snd x.fst) z cs.zipIdx 0 (m + 1) = (Array.foldl (fun (a : Array Value) (x : Value × Nat) => a.setIfInBounds x.snd x.fst) z cs.zipIdx 0 m).setIfInBounds m (cs[m]'(by omega)) := by
        rw [h3 (m + 1) (by omega), h3 m (by omega), List.take_add_one, List.getElem?_eq_getElem (by simpa using hlt), Option.toList_some, List.foldl_append]
        simp
      rw [e]
      refine ⟨by rw [Array.size_setIfInBounds, h1], fun i => ?_⟩
      rw [Array.getElem?_setIfInBounds, h1, h2]
      by_cases e1 : m = i
      · subst e1
        rw [if_pos rfl, if_pos (by omega), if_pos (by omega), Array.getElem?_eq_getElem]
      · rw [if_neg e1]
        by_cases h4 : i < m
        · rw [if_pos h4, if_pos (by omega)]
        · rw [if_neg h4, if_neg (by omega)]
  apply Array.ext_getElem?
  intro i
  rw [(key n (Nat.le_refl _)).2]
  split
  · rfl
  · rw [Array.getElem?_eq_none (by omega), Array.getElem?_eq_none (by omega)]

/-- A load, by what it comes to. -/
theorem wpList_load_run {P : Program} {ops : Array Oper} {rest : List Oper} {o : Oper} {a : Act} {w : World} {Q : Exit → Act → World → Prop} (hgd : Region.wanted o (yielded ops a.tmps) = true) (ty : TypeId) (x : Operand) (ho : o.op = .load ty x) (p : Value) (hx : a.eval x = p)
    (v : Value) (hrun : (Instr.loadAt ty p).run P w = .ok v w) (h : wpList P ops Q rest (a.put o.dst v) w) : wpList P ops Q (o :: rest) a w := by
  refine wpList_step fun K hK => ?_
  rw [if_pos hgd]
  unfold Oper.wp
  rw [exec_load ho hx hrun]
  exact hK _ _ h
section
variable {P : Program} (w : World)
theorem run_eqItems_bytes (d : Nat) (e : TypeId) (he : P.underlying e = some (.int .u8)) (a b : List UInt8) : ∀ is : List Nat, (∀ i ∈ is, i < a.length ∧ i < b.length) →
    (Op.eqItems (d + 1) e 1 (hashA a) (hashA b) is).run P w = .ok (is.all fun i => a[i]? == b[i]?) w
  | [], _ => by simp [Op.eqItems]
  | i :: is, h => by
    have h1 := h i (by simp)
    have ih := run_eqItems_bytes d e he a b is (fun j hj => h j (by simp [hj]))
    have hp : ∀ l : List UInt8, (hi : i < l.length) → (part e (hashA l) i).run P w = .ok (.int .u8 (l[i].toNat : Int)) w := fun l hi => by
      have hag : (isAgg e).run P w = .ok false w := by
        unfold isAgg
        rw [Sem.run_bind, run_underlying he w]
        rfl
      have : (hashA l)[i]? = some (.int .u8 (l[i].toNat : Int)) := by simp [hashA, bv, hi]
      simp [part, Sem.run_bind, hag, this]
    simp only [Op.eqItems, Nat.mul_one, Sem.run_bind, hp a h1.1, hp b h1.2, Result.andThen_ok, run_equalIn_int (w := w) d e .u8 .u8 _ _ he]
    by_cases e1 : a[i] = b[i]
    · simp [e1, ih, h1.1, h1.2]
    · have : ((a[i].toNat : Int) == (b[i].toNat : Int)) = false := by
        rw [beq_eq_false_iff_ne]
        intro hh
        exact e1 (UInt8.toNat_inj.1 (by omega))
      simp [this, e1, h1.1, h1.2]
/-- Two arrays of bytes. -/
theorem run_eq_bytes (d : Nat) (t e : TypeId) (n : Nat) (i : TypeInfo) (hu : P.underlying t = some (.array n e)) (hi : P.info? e = some i) (hs : P.cellsOf e = 1) (he : P.underlying e = some (.int .u8)) (a b : List UInt8) (ha : a.length = n) (hb : b.length = n) :
    (Op.equalIn (d + 2) t (.agg (hashA a)) (.agg (hashA b))).run P w = .ok (a == b) w := by
  rw [run_equalIn_array w (d + 1) _ _ hu hi, hs, run_eqItems_bytes w d e he a b _ (fun i hi => by simp at hi; omega)]
  congr 1
  rw [Bool.eq_iff_iff, List.all_eq_true]
  simp only [List.mem_range, beq_iff_eq]
  constructor
  · intro h
    apply List.ext_getElem?
    intro i
    by_cases hi : i < n
    · exact h i hi
    · rw [List.getElem?_eq_none (by omega), List.getElem?_eq_none (by omega)]
  · intro h i _; rw [h]
end
end Go.Proofs.Ytgldgkdnnimglaa
