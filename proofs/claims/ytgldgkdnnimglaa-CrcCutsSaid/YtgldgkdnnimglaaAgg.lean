/- Arrays and structs read and written whole. -/
import Derived.Test.YtgldgkdnnimglaaLex
namespace Go.Proofs.Ytgldgkdnnimglaa
open Go.RowKit

section
variable {P : Program}

/-- The type is an array or a struct. -/
def aggB : TypeDesc → Bool
  | .struct _ => true
  | .array _ _ => true
  | _ => false
theorem run_isAgg {w : World} {ty : TypeId} {d : TypeDesc} (hu : P.underlying ty = some d) (hd : aggB d = true) : (isAgg ty).run P w = .ok true w := by
  unfold isAgg
  rw [Sem.run_bind, run_underlying hu w]
  cases d <;> simp_all [aggB]
theorem run_loadAt_agg (w : World) (ad : Addr) (ty : TypeId) (xs : List Value) (d : TypeDesc) (hc : ∀ j u, xs[j]? = some u → w.cell? (ad.add j) = some u)
    (hu : P.underlying ty = some d) (hd : aggB d = true) (hi : (P.info? ty).map (·.size) = some xs.length) :
    (Instr.loadAt ty (.pointer (some ad))).run P w = .ok (.agg xs.toArray) w := by
  have hl : (loadCells ad xs.length).run P w = .ok xs.toArray w := run_loadCells_list (P := P) w ad xs hc
  cases hq : P.info? ty with
  | none => simp [hq] at hi
  | some i =>
    have hs : i.size = xs.length := by simpa [hq] using hi
    simp [Instr.loadAt, Instr.sureAddr, loadVar, Sem.run_bind, run_isAgg hu hd, sizeOf, typeInfo, hq, hs, hl]
theorem exec_load {w : World} {ρ : Operand → Value} {o : Oper} {ty : TypeId} {x : Operand} {p v : Value} (ho : o.op = .load ty x) (hx : ρ x = p) (h : (Instr.loadAt ty p).run P w = .ok v w) :
    (execOp ρ o).run P w = .ok (.value v) w := by
  unfold execOp
  simp only [ho, hx, Sem.run_bind, h, Result.andThen_ok, Sem.run_pure]
theorem wpList_load_agg {ops : Array Oper} {rest : List Oper} {o : Oper} {a : Act} {w : World} {Q : Exit → Act → World → Prop} (hgd : o.guard = none) (ty : TypeId) (x : Operand) (ho : o.op = .load ty x) (ad : Addr) (hx : a.eval x = .pointer (some ad))
    (xs : List Value) (d : TypeDesc) (hc : ∀ j u, xs[j]? = some u → w.cell? (ad.add j) = some u) (hu : P.underlying ty = some d) (hd : aggB d = true) (hi : (P.info? ty).map (·.size) = some xs.length)
    (h : wpList P ops Q rest (a.put o.dst (.agg xs.toArray)) w) : wpList P ops Q (o :: rest) a w :=
  wpList_plain hgd fun K hK => by
    unfold Oper.wp
    rw [exec_load ho hx (run_loadAt_agg w ad ty xs d hc hu hd hi)]
    exact hK _ _ h

theorem run_storeAt_agg (w : World) (g off : Nat) (t ty : TypeId) (xs : Array Value) (cur : Array Value) (hb : Blk w g t cur) (hi : (P.info? ty).map (·.size) = some xs.size) (hfit : off + xs.size ≤ cur.size) (h1 : ∀ u, u ∈ xs.toList → u.oneCell' = true) :
    (Instr.storeAt ty (.pointer (some ⟨g, off, none⟩)) (.agg xs)).run P w = .ok () (w.setRow g (cur.toList.take off ++ xs.toList ++ cur.toList.drop (off + xs.size)).toArray) := by
  cases hq : P.info? ty with
  | none => simp [hq] at hi
  | some i =>
    have hs : i.size = xs.size := by simpa [hq] using hi
    have hst := run_storeCells_at P g off t xs.toList 0 cur w hb (by simpa using hfit) h1
    simp only [Nat.add_zero, Array.length_toList] at hst
    simp [Instr.storeAt, Instr.sureAddr, storeVar, Sem.run_bind, sizeOf, typeInfo, hq, hs, Value.cells, hst]
theorem exec_store {w w' : World} {ρ : Operand → Value} {o : Oper} {ty : TypeId} {x y : Operand} {p v : Value} (ho : o.op = .store ty x y) (hx : ρ x = p) (hy : ρ y = v) (h : (Instr.storeAt ty p v).run P w = .ok () w') :
    (execOp ρ o).run P w = .ok .skip w' := by
  unfold execOp
  simp only [ho, hx, hy, Sem.run_bind, h, Result.andThen_ok, Sem.run_pure]
theorem setRow_blk {w : World} {g : Nat} {t : TypeId} {cur cs : Array Value} (h : Blk w g t cur) : Blk (w.setRow g cs) g t cs ∧ Kp [g] w (w.setRow g cs) :=
  ⟨setRow_heap w g cur cs t (0, 0) h, ⟨rfl, rfl, rfl, by simp, fun k _ hk => setRow_other w g k cs (by simpa using hk)⟩⟩
theorem wpList_store_agg {ops : Array Oper} {rest : List Oper} {o : Oper} {a : Act} {w : World} {Q : Exit → Act → World → Prop} (hgd : o.guard = none) (ty : TypeId) (x y : Operand) (ho : o.op = .store ty x y) (g off : Nat) (hx : a.eval x = .pointer (some ⟨g, off, none⟩))
    (xs : Array Value) (hy : a.eval y = .agg xs) (t : TypeId) (cur : Array Value) (hb : Blk w g t cur) (hi : (P.info? ty).map (·.size) = some xs.size) (hfit : off + xs.size ≤ cur.size) (h1 : ∀ u, u ∈ xs.toList → u.oneCell' = true)
    (h : ∀ w', Blk w' g t (cur.toList.take off ++ xs.toList ++ cur.toList.drop (off + xs.size)).toArray → Kp [g] w w' → wpList P ops Q rest (a.put o.dst undef) w') : wpList P ops Q (o :: rest) a w :=
  wpList_plain hgd fun K hK => by
    unfold Oper.wp
    rw [exec_store ho hx hy (run_storeAt_agg w g off t ty xs cur hb hi hfit h1)]
    exact hK _ _ (h _ (setRow_blk hb).1 (setRow_blk hb).2)
/-- An append, as an effect of a region that draws its order. -/
theorem lex_app {Q : Exit → Act → World → Prop} {S : World → Prop} {qf lst : Nat → Bool} {k : Nat} {ops : Array Oper} {rest : List Oper} {o : Oper} {a : Act} {w : World} (hq : qf k = false) (hgd : Region.wanted o (yielded ops a.tmps) = true) (s x : Operand) (t : TypeId)
    (ho : o.op = .call { callee := .builtin .append, args := #[s, x], argTypes := #[t, t] })
    (e : TypeId) (i : TypeInfo) (z : Value) (size bytes : Nat) (ht : P.underlying t = some (.slice e)) (hi : P.info? e = some i) (hz : i.zero = some z)
    (hsize : i.size = size) (hby : i.bytes = bytes) (hzs : z.cells.size = size) (hsz : 0 < size)
    (v : Value) (n : Nat) (xs : List Value) (hs : a.eval s = v) (hown : Ow w e size v n xs)
    (y : Value) (m : Nat) (news : List Value) (hx : a.eval x = y) (hr : Rd w size y m news) (h1 : ∀ u ∈ news, u.oneCell' = true)
    (h63 : n + m ≤ maxLen) (hbytes : (n + m) * bytes ≤ 140737488355328)
    (h : ∀ v' w', Ow w' e size v' (n + m) (xs ++ news) → w.grownBy w' v.ownBlock → (v'.ownBlock = v.ownBlock ∨ v'.ownBlock = some w.heap.size) → (lst k = false → S w') ∧ wpLex P ops Q S qf lst rest (k + 1) (a.put o.dst v') w') : wpLex P ops Q S qf lst (o :: rest) k a w :=
  lex_e hq hgd fun K hK => by
    obtain ⟨v', w', hrun, h2, h3, h4⟩ := run_app (P := P) w t o.type e i z size bytes ht hi hz hsize hby hzs hsz v n xs hown y m news hr h1 h63 hbytes
    unfold Oper.wp execOp
    simp only [ho, resolve, invoke, builtin, Sem.run_bind, Sem.run_pure, Result.andThen_ok, List.map_toArray, List.map_cons, List.map_nil, hs, hx, hrun]
    exact hK _ _ (h v' w' h2 h3 h4)
/-- The quiet step, and the skipped one, in a form that lets the frame be tidied first. -/
theorem lex_qk {Q : Exit → Act → World → Prop} {S : World → Prop} {qf lst : Nat → Bool} {k : Nat} {ops : Array Oper} {rest : List Oper} {o : Oper} {a : Act} {w : World} (v : Value) (hq : qf k = true) (hw : Region.wanted o (yielded ops a.tmps) = true) (h : ∀ W, S W → (execOp a.eval o).run P W = .ok (.value v) W)
    (hk : ∀ K : Act → World → Prop, (∀ a' w', wpLex P ops Q S qf lst rest (k + 1) a' w' → K a' w') → K (a.put o.dst v) w) : wpLex P ops Q S qf lst (o :: rest) k a w :=
  lex_q v hq hw h (hk _ fun _ _ h => h)
theorem lex_skipk {Q : Exit → Act → World → Prop} {S : World → Prop} {qf lst : Nat → Bool} {k : Nat} {ops : Array Oper} {rest : List Oper} {o : Oper} {a : Act} {w : World} (hw : Region.wanted o (yielded ops a.tmps) = false)
    (hk : ∀ K : Act → World → Prop, (∀ a' w', wpLex P ops Q S qf lst rest (k + 1) a' w' → K a' w') → K (a.put o.dst undef) w) : wpLex P ops Q S qf lst (o :: rest) k a w :=
  lex_skip hw (hk _ fun _ _ h => h)
end
end Go.Proofs.Ytgldgkdnnimglaa
