/- Several texts in one: Marks, Conv, EntD, EntE, WireV, WireW, WireX, WireY, WireZ, WireAA, WireAB, WireBA, WireBB, WireBC, WireBD, WireBE, EntF, EntG, EntH, EntI, EntJ. -/
import Derived.Lib.SlBytesConst
import Derived.ScopeJumps
import Derived.WalkMore
import Derived.Test.YtdmdnphbheomoaaP2
/- Leaving a function that held ranges over functions; what is held stays through such a loop's own steps. -/
namespace Go.Proofs.Ytdmdnphbheomoaa
open Go.RowKit Go.Shelf

theorem calls_marks {P : Program} {f : FuncId} {fn : Func} {c : Code} {args : Array Value} {w : World} {R : Ending → World → Prop} (hf : P.funcs[f]? = some fn) (hb : fn.body = some c)
    (h : c.wp P (bodyPostM Fence.wide 3 P fn R) { tmps := args ++ Array.replicate (fn.ntmps - args.size) undef, defers := [] } w) : Calls P f args w R :=
  callsIn_wide.1 (callsIn_of_wp_marks hf hb trivial (wpIn_wide.2 h) rfl)
theorem Kp.putObj {w : World} (l : Nat) (o : Obj) : Kp [l] w (w.putObj l o) :=
  ⟨rfl, rfl, rfl, by simp, fun k _ hn => World.putObj_heap_other (fun e => hn (by simp [e]))⟩
/-- The marks of the loops that were left are taken up. -/
theorem leaves_marks {P : Program} {fn : Func} {tmps : Array Value} {R : Ending → World → Prop} : ∀ (ds : List Nat) (w : World), ds.Nodup → (∀ D ∈ ds, w.heap[D]? = some (.deferred (some []))) →
    (∀ W, Kp ds w W → ∃ v, (results fn tmps).run P W = .ok v W ∧ R (.returned v) W) → LeavesInM Fence.wide 3 P fn tmps R (ds.map markOf) .returning w
  | [], w, _, _, h => h w (Kp.refl [] w)
  | D :: ds, w, hn, hd, h => by
    obtain ⟨h1, h2⟩ := List.nodup_cons.1 hn
    refine ⟨by simp, .inl ⟨D, _, rfl, run_takeDeferred (hd D (by simp)), leaves_marks ds _ h2 (fun D' hD' => ?_) (fun W hk => h W ?_)⟩⟩
    · exact (World.putObj_heap_other (fun e => h1 (by rw [← e]; exact hD'))).trans (hd D' (by simp [hD']))
    · exact ((Kp.putObj D (.deferred none)).more (T := D :: ds) (fun g hg => .inl (by simp at hg; simp [hg]))).trans hk (fun g hg => .inl (by simp [hg]))
theorem ret_marks {P : Program} {fn : Func} {R : Ending → World → Prop} {a : Act} {w : World} (ds : List Nat) (ha : a.defers = ds.map markOf) (hn : ds.Nodup) (hd : ∀ D ∈ ds, w.heap[D]? = some (.deferred (some [])))
    (h : ∀ W, Kp ds w W → ∃ v, (results fn a.tmps).run P W = .ok v W ∧ R (.returned v) W) : bodyPostM Fence.wide 3 P fn R .ret a w := by
  show LeavesInM Fence.wide 3 P fn a.tmps R a.defers .returning w
  rw [ha]
  exact leaves_marks ds w hn hd h

theorem run_eql_func_nil {P : Program} (w : World) (t : TypeId) {d : TypeDesc} (h : P.underlying t = some d) (hd : (match d with | .func .. => true | _ => false) = true) (f : Fn) (a b : Array Value) : (binOp .eql t (.func f a b) .nilFunc).run P w = .ok (.bool false) w := by
  cases d <;> first | (cases hd; done) | skip
  have h1 : ∀ d, (Op.equalIn (d + 1) t (.func f a b) .nilFunc).run P w = .ok false w := fun d => by simp [Op.equalIn, run_underlying h]
  simp only [binOp]
  simp [Op.equal, Op.maxDepth, h1 9999]
/-- All its blocks are rows of cells. -/
def Cellular (r : Res) : Prop := ∀ W, r.ok W → ∀ b ∈ r.fp, ∃ o : Obj, W.heap[b]? = some o ∧ o.isCells = true
theorem cellular_row (e : TypeId) (s : Nat) (v : Value) (n : Nat) (xs : List Value) : Cellular (rowR e s v n xs) := by
  intro W h b hb
  have hb : v.ownBlock = some b := by simpa [rowR] using hb
  rcases h.2 with ⟨rfl, _⟩ | ⟨g, cap, cur, rfl, _, hg, _⟩
  · simp [Value.ownBlock] at hb
  · have : g = b := by simpa [Value.ownBlock] using hb
    subst this
    exact ⟨_, hg, rfl⟩
theorem cellular_blk (g : Nat) (t : TypeId) (cs : Array Value) : Cellular (blkR g t cs) := by
  intro W h b hb
  have hb : b = g := by simpa [blkR] using hb
  subst hb
  exact ⟨_, h, rfl⟩
/-- Rows of cells, or blocks below B: what an object from B on is not. -/
def Cells (B : Nat) (L : List Res) : Prop := ∀ r, r ∈ L → Cellular r ∨ ∀ b ∈ r.fp, b < B
theorem Cells.nil {B : Nat} : Cells B [] := by simp [Cells]
theorem Cells.cons {B : Nat} {L : List Res} {r : Res} (hr : Cellular r) (h : Cells B L) : Cells B (r :: L) := fun s hs => by
  rcases List.mem_cons.1 hs with rfl | hs
  · exact .inl hr
  · exact h s hs
theorem Cells.row {B : Nat} {L : List Res} {e : TypeId} {s : Nat} {v : Value} {n : Nat} {xs : List Value} (h : Cells B L) : Cells B (rowR e s v n xs :: L) := h.cons (cellular_row _ _ _ _ _)
theorem Cells.blk {B : Nat} {L : List Res} {g : Nat} {t : TypeId} {cs : Array Value} (h : Cells B L) : Cells B (blkR g t cs :: L) := h.cons (cellular_blk _ _ _)
theorem Cells.tail {B : Nat} {L : List Res} {r : Res} (h : Cells B (r :: L)) : Cells B L := fun s hs => h s (List.mem_cons_of_mem _ hs)
theorem Cells.append {B : Nat} {L L' : List Res} (h : Cells B L) (h' : Cells B L') : Cells B (L ++ L') := fun r hr => (List.mem_append.1 hr).elim (h r) (h' r)
/-- What is held in a world lies below its end. -/
theorem Cells.of {w0 W : World} {L : List Res} (S : Held w0 W L) : Cells W.heap.size L := fun r hr => .inr fun b hb => r.lt W (S.ok r hr) b hb
theorem Cells.not {B : Nat} {L : List Res} (h : Cells B L) {w0 W : World} (S : Held w0 W L) {l : Nat} {o : Obj} (hB : B ≤ l) (hl : W.heap[l]? = some o) (ho : o.isCells = false) : ∀ r ∈ L, l ∉ r.fp := by
  intro r hr hm
  rcases h r hr with h | h
  · obtain ⟨o', h1, h2⟩ := h W (S.ok r hr) l hm
    rw [hl] at h1
    cases h1
    rw [ho] at h2
    cases h2
  · have := h l hm
    omega
/-- An object that is no row of cells.. -/
def objR (l : Nat) (o : Obj) : Res where
  fp := [l]
  ok := fun w => w.heap[l]? = some o
  keep := fun _ _ _ h hk hn => (hk.block l (Array.getElem?_eq_some_iff.1 h).1 (hn l (by simp))).trans h
  lt := fun _ h b hb => by simp at hb; subst hb; exact (Array.getElem?_eq_some_iff.1 h).1
theorem Held.withObj {w0 W : World} {L : List Res} (S : Held w0 W L) {l : Nat} {o : Obj} (hB : w0.heap.size ≤ l) (hl : W.heap[l]? = some o) (hn : ∀ r ∈ L, l ∉ r.fp) : Held w0 W (objR l o :: L) :=
  ⟨S.k, fun r hr => by
    rcases List.mem_cons.1 hr with rfl | hr
    · exact hl
    · exact S.ok r hr, fun r hr b hb => by
    rcases List.mem_cons.1 hr with rfl | hr
    · have : b = l := by simpa [objR] using hb
      omega
    · exact S.base r hr b hb, List.pairwise_cons.2 ⟨fun r hr b hb hb' => by
    have : b = l := by simpa [objR] using hb
    subst this
    exact hn r hr hb', S.apart⟩⟩
/-- What a call holds of its own, behind what was held. -/
theorem Held.join {w0 w1 w2 : World} {L L' : List Res} (S : Held w0 w1 L) (T : Held w1 w2 L') : Held w0 w2 (L ++ L') :=
  ⟨S.k.trans T.k (by simp), fun r hr => (List.mem_append.1 hr).elim (fun h => r.keep w1 w2 [] (S.ok r h) T.k (by simp)) (T.ok r), fun r hr b hb => (List.mem_append.1 hr).elim (fun h => S.base r h b hb) (fun h => Nat.le_trans S.k.size (T.base r h b hb)),
    List.pairwise_append.2 ⟨S.apart, T.apart, fun r hr s hs b hb hb' => by
      have h1 := r.lt w1 (S.ok r hr) b hb
      have h2 := T.base s hs b hb'
      omega⟩⟩
theorem Held.sub {w0 w : World} {L L' : List Res} (S : Held w0 w L) (h : L'.Sublist L) : Held w0 w L' :=
  ⟨S.k, fun r hr => S.ok r (h.subset hr), fun r hr => S.base r (h.subset hr), S.apart.sublist h⟩
/-- The mark of a loop that was left. -/
def obD (D : Nat) : Res := objR D (.deferred (some []))
/-- Both objects of the loop beside what is held. -/
theorem Held.withTwo {w0 W : World} {L : List Res} (S : Held w0 W L) {B : Nat} (hc : Cells B L) (h0 : w0.heap.size ≤ B) {l D : Nat} {o d : Obj} (hB : B ≤ l) (hD : B ≤ D) (hne : l ≠ D) (hl : W.heap[l]? = some o) (ho : o.isCells = false) (hd : W.heap[D]? = some d) (hd0 : d.isCells = false) :
    Held w0 W (objR l o :: objR D d :: L) :=
  (S.withObj (Nat.le_trans h0 hD) hd (hc.not S hD hd hd0)).withObj (Nat.le_trans h0 hB) hl (fun r hr => by
    rcases List.mem_cons.1 hr with rfl | hr
    · simpa [objR] using hne
    · exact hc.not S hB hl ho r hr)
theorem Held.same2 {w0 W W' : World} {L : List Res} {l D : Nat} {o d : Obj} (S : Held w0 W' (objR l o :: objR D d :: L)) (hl : W.heap[l]? = some o) (hd : W.heap[D]? = some d) : Same2 l D W W' :=
  ⟨(S.at_ (l1 := [])).trans hl.symm, (S.at_ (l1 := [_])).trans hd.symm⟩
theorem Held.two {w0 W : World} {L : List Res} {r s : Res} (S : Held w0 W (r :: s :: L)) : Held w0 W L := S.drop.drop
theorem Held.stays {w0 : World} {L : List Res} {B : Nat} (hB : w0.heap.size ≤ B) (hc : Cells B L) : Stays B (fun W => Held w0 W L) := by
  intro W W' S h
  rcases h with hk | ⟨l, o, o', hl, hlo, ho, rfl⟩
  · exact S.kp hk
  · have hn := hc.not S hl hlo ho
    exact ⟨S.k.trans (Kp.putObj l o') (fun g hg => by simp at hg; right; omega), fun r hr => r.keep W _ [l] (S.ok r hr) (Kp.putObj l o') (fun b hb hm => by simp at hm; subst hm; exact hn r hr hb), S.base, S.apart⟩
/-- What was there when the loop began and is read. -/
theorem stays_old {w : World} {p : World → Prop} (h : ∀ W, Kp [] w W → p W) : Stays w.heap.size (fun W => Kp [] w W ∧ p W) := by
  intro W W' ⟨h1, _⟩ hk
  have h2 : Kp [] w W' := by
    rcases hk with hk | ⟨l, o, o', hl, hlo, ho, rfl⟩
    · exact h1.trans hk (by simp)
    · exact h1.trans (Kp.putObj l o') (fun g hg => by simp at hg; right; omega)
  exact ⟨h2, h W' h2⟩
theorem cell_put {W : World} {a : Addr} {u : Value} (h : W.cell? a = some u) {l : Nat} {o : Obj} (o' : Obj) (hl : W.heap[l]? = some o) (ho : o.isCells = false) : (W.putObj l o').cell? a = some u := by
  have hne : a.block ≠ l := by
    intro e
    unfold World.cell? at h
    rw [e, hl] at h
    cases o <;> first | (cases ho; done) | simp at h
  exact (World.cell?_of_block (World.putObj_heap_other hne)).trans h
theorem rd_put {W : World} {s n : Nat} {v : Value} {xs : List Value} (h : Rd W s v n xs) {l : Nat} {o : Obj} (o' : Obj) (hl : W.heap[l]? = some o) (ho : o.isCells = false) : Rd (W.putObj l o') s v n xs := by
  obtain ⟨h1, A, c, h2, h3, h4, h5, h6⟩ := h
  exact ⟨h1, A, c, h2, h3, h4, h5, fun ad had j u hu => cell_put (h6 ad had j u hu) o' hl ho⟩
theorem blk_put {W : World} {g : Nat} {t : TypeId} {cs : Array Value} (h : Blk W g t cs) {l : Nat} {o : Obj} (o' : Obj) (hl : W.heap[l]? = some o) (ho : o.isCells = false) : Blk (W.putObj l o') g t cs := by
  refine (World.putObj_heap_other (fun e => ?_)).trans h
  subst e
  unfold Blk at h
  rw [h] at hl
  cases hl
  cases ho
theorem stays_cell (B : Nat) (a : Addr) (u : Value) : Stays B (fun W => W.cell? a = some u) := fun W W' h hk => by
  rcases hk with hk | ⟨l, o, o', _, hl, ho, rfl⟩
  · exact cell_kept h hk
  · exact cell_put h o' hl ho
theorem stays_rd (B s : Nat) (v : Value) (n : Nat) (xs : List Value) : Stays B (fun W => Rd W s v n xs) := fun W W' h hk => by
  rcases hk with hk | ⟨l, o, o', _, hl, ho, rfl⟩
  · exact rd_old h hk
  · exact rd_put h o' hl ho
theorem stays_blk (B g : Nat) (t : TypeId) (cs : Array Value) : Stays B (fun W => Blk W g t cs) := fun W W' h hk => by
  rcases hk with hk | ⟨l, o, o', _, hl, ho, rfl⟩
  · exact h.kp hk (by simp)
  · exact blk_put h o' hl ho
end Go.Proofs.Ytdmdnphbheomoaa
/- '[]byte("..")' of a constant: what it yields, and that it reads. -/
namespace Go.Proofs.Ytdmdnphbheomoaa
open Go.RowKit
theorem rd_txt (w : World) (e : TypeId) (cs : Array Value) (l : List UInt8) (fr : Nat × Nat) (h : cs.toList = bv l) (hn : l.length ≤ 4096) {g : Nat} (hg : g = w.heap.size) : Rd (w.alloc (.cells cs e fr)) 1 (.slice (some ⟨g, 0, none⟩) l.length l.length) l.length (bv l) := by
  subst hg
  refine ⟨by rw [bv_length]; omega, _, _, rfl, Nat.le_refl _, by unfold maxLen; omega, (fun h => by cases h), fun ad had j u hu => ?_⟩
  cases had
  have h1 := World.cell?_alloc_mark w cs e fr j
  rw [← h, Array.getElem?_toList] at hu
  rw [hu] at h1
  by_cases hj : j = 0
  · subst hj; simpa [Addr.add] using h1
  · simpa [Addr.add, hj] using h1
theorem conv_txt (w : World) (C : Array Value) (n c g : Nat) (hg : g = w.heap.size) : (convert 25 25 (.slice (some ⟨g, 0, none⟩) n c)).run Try.prog (w.alloc (.cells C 5)) = .ok (.slice (some ⟨g, 0, none⟩) n c) (w.alloc (.cells C 5 (C.size, C.size + 1))) := by
  subst hg
  exact Lib.run_convert_bytes_const (P := Try.prog) w 25 5 C n c Try.underlying25 Try.underlying5
/-- What reads only. -/
def rdR (v : Value) (n : Nat) (xs : List Value) : Res where
  fp := v.ownBlock.toList
  ok := fun w => Rd w 1 v n xs ∧ ∀ g, v.ownBlock = some g → g < w.heap.size
  keep := fun _ _ _ h hk hn => ⟨h.1.kp hk (fun g hg => hn g (by simp [hg])), fun g hg => Nat.lt_of_lt_of_le (h.2 g hg) hk.size⟩
  lt := fun _ h b hb => h.2 b (by simpa using hb)
end Go.Proofs.Ytdmdnphbheomoaa
/- The law's lent: texts in memory of their own, with marks behind. -/
namespace Go.Proofs.Ytdmdnphbheomoaa
open Go.RowKit
theorem cut_u8c (A : Option Addr) (n c k : Nat) (h : Int) (hh : h = k) (hk : k ≤ c) (w : World) : (Instr.sliceAt 25 (.slice A n c) none (some (.int .i64 h)) none).run Try.prog w = .ok (.slice A k c) w := by
  subst hh
  rw [cut_at, run_slice_h w 25 A n c und_u8 .i64 k (by omega) (by omega), elem_u8, run_size_u8]
  simp only [Result.andThen_ok, Int.toNat_natCast]
  congr 1
  by_cases e : c = 0
  · simp [sliced, e]
  · cases A with
    | none => simp [sliced, e]
    | some ad => simp [sliced, e, Addr.add]
theorem cut_u8 (A : Option Addr) (n c k : Nat) (h : Int) (hh : h = k) (hk : k ≤ n) (hc : n ≤ c) (w : World) : (Instr.sliceAt 25 (.slice A n c) none (some (.int .i64 h)) none).run Try.prog w = .ok (.slice A k c) w := cut_u8c A n c k h hh (by omega) w
theorem run_size_bytes (w : World) : (sizeOf 25).run Try.prog w = .ok 1 w := by
  obtain ⟨i0, hi, hz0, hz1, hz2⟩ := info_parts Try.infoBytes
  simp [sizeOf, typeInfo, hi, hz1]
theorem cut_at_texts (w : World) (x : Value) (lo hi mx : Option Value) : (Instr.sliceAt 22 x lo hi mx).run Try.prog w = (Instr.slice 22 x lo hi mx).run Try.prog w := by
  simp [Instr.sliceAt, run_underlying Try.underlying22]
theorem elem_texts : Try.prog.elem 22 = 25 := by kernel_rfl
theorem und_texts : Try.prog.underlying 22 = some (.slice (Try.prog.elem 22)) := by rw [elem_texts]; exact Try.underlying22
theorem cut_textsc (A : Option Addr) (n c k : Nat) (h : Int) (hh : h = k) (hk : k ≤ c) (w : World) : (Instr.sliceAt 22 (.slice A n c) none (some (.int .i64 h)) none).run Try.prog w = .ok (.slice A k c) w := by
  subst hh
  rw [cut_at_texts, run_slice_h w 22 A n c und_texts .i64 k (by omega) (by omega), elem_texts, run_size_bytes]
  simp only [Result.andThen_ok, Int.toNat_natCast]
  congr 1
  by_cases e : c = 0
  · simp [sliced, e]
  · cases A with
    | none => simp [sliced, e]
    | some ad => simp [sliced, e, Addr.add]
theorem cut_texts (A : Option Addr) (n c k : Nat) (h : Int) (hh : h = k) (hk : k ≤ n) (hc : n ≤ c) (w : World) : (Instr.sliceAt 22 (.slice A n c) none (some (.int .i64 h)) none).run Try.prog w = .ok (.slice A k c) w := cut_textsc A n c k h hh (by omega) w
/-- Texts with a mark behind each. -/
def markR : List (List UInt8) → List Value → List Res
  | l :: ls, B :: Bs => rowR 5 1 (grow1 B) (l.length + 1) (bv (l ++ [165])) :: markR ls Bs
  | _, _ => []
theorem markR_snoc : ∀ (ls : List (List UInt8)) (Bs : List Value) (l : List UInt8) (B : Value), ls.length = Bs.length → markR (ls ++ [l]) (Bs ++ [B]) = markR ls Bs ++ [rowR 5 1 (grow1 B) (l.length + 1) (bv (l ++ [165]))]
  | [], [], _, _, _ => rfl
  | _ :: ls, _ :: Bs, l, B, h => by simp only [List.cons_append, markR, markR_snoc ls Bs l B (by simpa using h)]
  | [], _ :: _, _, _, h => by simp at h
  | _ :: _, [], _, _, h => by simp at h
theorem markR_mem : ∀ (ls : List (List UInt8)) (Bs : List Value) (i : Nat) (l : List UInt8) (B : Value), ls[i]? = some l → Bs[i]? = some B → rowR 5 1 (grow1 B) (l.length + 1) (bv (l ++ [165])) ∈ markR ls Bs
  | l0 :: ls, B0 :: Bs, 0, l, B, h1, h2 => by cases h1; cases h2; exact List.mem_cons_self ..
  | l0 :: ls, B0 :: Bs, i + 1, l, B, h1, h2 => List.mem_cons_of_mem _ (markR_mem ls Bs i l B h1 h2)
  | [], _, _, _, _, h1, _ => by simp at h1
  | _ :: _, [], _, _, _, _, h2 => by simp at h2
theorem grow1_form {w : World} {B : Value} {n : Nat} {xs : List Value} (h : Ow w 5 1 (grow1 B) (n + 1) xs) : ∃ A c, B = .slice A n c ∧ n + 1 ≤ c := by
  obtain ⟨A, c, e, h1, _⟩ := ow_form h
  cases B <;> simp only [grow1] at e <;> try cases e
  exact ⟨_, _, rfl, h1⟩
/-- A marked text reads as the text. -/
theorem mark_rd {w : World} {B : Value} {l : List UInt8} (h : Ow w 5 1 (grow1 B) (l.length + 1) (bv (l ++ [165]))) : Rd w 1 B l.length (bv l) := by
  obtain ⟨A, c, rfl, hc⟩ := grow1_form h
  obtain ⟨h1, A', c', e, h2, h3, h4, h5⟩ := Rd.of_own h
  simp only [grow1] at e
  cases e
  refine ⟨by rw [bv_length]; omega, A, c, rfl, by omega, h3, (fun hA => ?_), (fun ad had j u hu => h5 ad had j u ?_)⟩
  · have := h4 hA; omega
  · rw [bv_append]
    have hj := (List.getElem?_eq_some_iff.1 hu).1
    rw [List.getElem?_append_left hj]
    exact hu
def mk4 : List UInt8 := [109, 97, 114, 107]
/-- What lent leaves. -/
def LentPost (L : List (List UInt8)) (w : World) (e : Ending) (w' : World) : Prop :=
  ∃ g c Bs M, e = .returned (.slice (some ⟨g, 0, none⟩) L.length c) ∧ Bs.length = L.length ∧ Held w w' (rowR 25 1 (.slice (some ⟨g, 0, none⟩) (L.length + 1) c) (L.length + 1) (Bs ++ [M]) :: rdR M 4 (bv mk4) :: markR L Bs)
set_option maxRecDepth 100000 in
set_option maxHeartbeats 4000000 in
theorem lent15_any (v0 : Value) (L : List (List UInt8)) (w : World) (hv : Txs w v0 L) (hL : L.length ≤ 1073741824) (hb : ∀ e ∈ L, e.length ≤ 140737488355200) :
    Calls Try.prog 11 #[v0] w (LentPost L w) := by
  obtain ⟨A, c, rfl, hA, -⟩ := hv.open_
  have Hv := Lib.hid hv
  have HA := Lib.hid hA
  have Hb := Lib.hid hb
  clear hA hv hb
  go_enter Try.func11, Try.ntmps11
  go_wp2
  go_loopw [3, 4] (fun v i wr => ∃ (k : Nat) (Bs : List Value), k ≤ L.length ∧ i = .int .i64 k ∧ Bs.length = k ∧ Held w wr (rowR 25 1 v k Bs :: markR (L.take k) Bs)) (fun _ i _ => L.length - (intOf i).toNat)
  case atStart => exact ⟨0, [], by omega, rfl, rfl, (Held.start w).rownew (World.ownsRow_nil _ _ _ _) (Kp.refl [] w) (by simp [Value.ownBlock])⟩
  case round =>
    obtain ⟨k, Bs, hk, rfl, hBs, S⟩ := hrel
    have HS := Lib.hid S
    have HBs := Lib.hid hBs
    clear S hBs
    by_cases hlt : k < L.length
    · obtain ⟨ad, rfl⟩ := HA.out (by omega)
      obtain ⟨Ax, cx, hcx, hrx⟩ := Hv.out.at_ hlt
      have C1 := Lib.hid (fun V (kk : Kp [] w V) => cell_kept hcx kk)
      have RX := Lib.hid (fun V (kk : Kp [] w V) => rd_old hrx kk)
      have he : L[k]? = some L[k] := List.getElem?_eq_getElem hlt
      have HT := Lib.hid (take_succ_of he)
      have hxl := Hb.out L[k] (List.getElem_mem hlt)
      clear hcx hrx he
      generalize L[k] = x at *
      go_wp2
      -- SEP lent15
      refine wp_region_sep (Γ := Unit) 2 [0, 1, 2, 3, 4, 6, 8, 9, 10, 11, 12, 13, 14, 15, 16, 18]
        (fun i vs gs => match i with | 0 => vs 0 = u3 | 1 => vs 1 = .slice (some ad) L.length c | 2 => vs 2 = .int .i64 (k : Int) | 3 => vs 3 = .pointer (some (ad.add k)) | 4 => vs 4 = .slice Ax x.length cx | 8 => vs 8 = .slice (some ad) L.length c | 9 => vs 9 = .int .i64 (k : Int) | 10 => vs 10 = .pointer (some (ad.add k)) | 11 => vs 11 = .slice Ax x.length cx | 12 => vs 12 = .int .i64 (x.length : Int) | 13 => ∃ A c, vs 13 = .slice A x.length c | 16 => vs 16 = vs 15 | _ => True)
        (fun i vs gs => match i with | 5 => [rowR 5 1 (vs 5) x.length (bv x)] | 6 => [rowR 5 1 (vs 6) 1 (bv [165])] | 7 => [rowR 5 1 (vs 7) (x.length + 1) (bv (x ++ [165]))] | 13 => [rowR 5 1 (grow1 (vs 13)) (x.length + 1) (bv (x ++ [165]))] | 14 => [rowR 25 1 (vs 14) 1 [vs 13]] | 15 => [rowR 25 1 (vs 15) (k + 1) (Bs ++ [vs 13])] | 17 => [rowR 25 1 u3 k Bs] | 18 => markR (L.take k) Bs | _ => [])
        (fun i => match i with | 7 => [5] | 13 => [7] | 15 => [17] | _ => []) (fun i => match i with | 7 => [6] | 15 => [14] | _ => []) HS.out (by kernel_rfl) (by kernel_rfl) (by kernel_rfl) (by kernel_rfl) (fun i => match i with | 0 => [0] | 1 => [1] | 2 => [2] | 3 => [3] | 4 => [4] | 5 => [5] | 6 => [6] | 7 => [7] | 8 => [8] | 9 => [9] | 10 => [10] | 11 => [11] | 12 => [12] | 13 => [13] | 14 => [13, 14] | 15 => [13, 15] | 16 => [15, 16] | _ => []) (by kernel_rfl) ?_ (by kernel_rfl) ?_ ?_ ?_
      · intro s vs vs' gs gs' h
        iterate 19 (rcases s with _ | s; · (first | exact ⟨rfl, id⟩ | (simp only [List.mem_cons, List.not_mem_nil, or_false, forall_eq_or_imp, forall_eq] at h; simp [h])))
        exact ⟨rfl, id⟩
      · simp only [List.range, List.range.loop, List.flatMap_cons, List.flatMap_nil, List.append_nil, List.cons_append, List.nil_append]
        exact List.Perm.refl _
      · refine ⟨?_, ?_, ?_, ?_, ?_, ?_, ?_, ?_, ?_, ?_, ?_, ?_, ?_, ?_, ?_, ?_, ?_, trivial⟩
        · intro vs gs A' W LF hA S hR hd hu K hK
          replace hK := hK default
          have e3 : A'.tmps[3]?.getD undef = vs 16 := slot_is hA (by kernel_rfl) (Nat.le_of_ble_eq_true (by kernel_rfl)) (by kernel_rfl)
          rw [show vs 16 = u3 from hu 16 _ rfl (by kernel_rfl)] at e3
          go_step
          exact hK _ _ S rfl
        · intro vs gs A' W LF hA S hR hd hu K hK
          replace hK := hK default
          have e0 : A'.tmps[0]?.getD undef = .slice (some ad) L.length c := slot_is hA (by kernel_rfl) (Nat.le_of_ble_eq_true (by kernel_rfl)) (by kernel_rfl)
          go_step
          exact hK _ _ S rfl
        · intro vs gs A' W LF hA S hR hd hu K hK
          replace hK := hK default
          have e4 : A'.tmps[4]?.getD undef = .int .i64 (k : Int) := slot_is hA (by kernel_rfl) (Nat.le_of_ble_eq_true (by kernel_rfl)) (by kernel_rfl)
          go_step
          exact hK _ _ S rfl
        · intro vs gs A' W LF hA S hR hd hu K hK
          replace hK := hK default
          have f1 : vs 1 = .slice (some ad) L.length c := hd 1 (by kernel_rfl)
          have e12 : A'.tmps[12]?.getD undef = vs 1 := slot_is hA (by kernel_rfl) (Nat.le_of_ble_eq_true (by kernel_rfl)) (by kernel_rfl)
          rw [f1] at e12
          have f2 : vs 2 = .int .i64 (k : Int) := hd 2 (by kernel_rfl)
          have e13 : A'.tmps[13]?.getD undef = vs 2 := slot_is hA (by kernel_rfl) (Nat.le_of_ble_eq_true (by kernel_rfl)) (by kernel_rfl)
          rw [f2] at e13
          go_step
          exact hK _ _ S rfl
        · intro vs gs A' W LF hA S hR hd hu K hK
          replace hK := hK default
          have f3 : vs 3 = .pointer (some (ad.add k)) := hd 3 (by kernel_rfl)
          have e14 : A'.tmps[14]?.getD undef = vs 3 := slot_is hA (by kernel_rfl) (Nat.le_of_ble_eq_true (by kernel_rfl)) (by kernel_rfl)
          rw [f3] at e14
          have q := C1.out _ S.k
          go_step
          exact hK _ _ S rfl
        · intro vs gs A' W LF hA S hR hd hu K hK
          replace hK := hK default
          have f4 : vs 4 = .slice Ax x.length cx := hd 4 (by kernel_rfl)
          have e15 : A'.tmps[15]?.getD undef = vs 4 := slot_is hA (by kernel_rfl) (Nat.le_of_ble_eq_true (by kernel_rfl)) (by kernel_rfl)
          rw [f4] at e15
          exact op_app_nil (.const (.slice none 0 0)) (.tmp 15) 25 5 rfl Try.infoU8 Try.underlying25 rfl (by decide) rfl S (.slice Ax x.length cx) x.length (bv x) (by simpa [Act.eval] using e15) (RX.out _ S.k) (bv_one _) (by unfold maxLen; omega) (by omega) (fun v' w' S' => hK v' w' S' trivial)
        · intro vs gs A' W LF hA S hR hd hu K hK
          replace hK := hK default
          go_step
          exact hK _ _ (S.rownew (ow_new W 5 1 1 #[.int .u8 165] rfl (by decide)) ((Kp.refl [] W).alloc _) (fun g hg => Nat.le_of_eq (Option.some.inj hg))) trivial
        · intro vs gs A' W LF hA S hR hd hu K hK
          replace hK := hK default
          have e16 : A'.tmps[16]?.getD undef = vs 5 := slot_is hA (by kernel_rfl) (Nat.le_of_ble_eq_true (by kernel_rfl)) (by kernel_rfl)
          have e17 : A'.tmps[17]?.getD undef = vs 6 := slot_is hA (by kernel_rfl) (Nat.le_of_ble_eq_true (by kernel_rfl)) (by kernel_rfl)
          refine op_app (.tmp 16) (.tmp 17) 25 5 rfl Try.infoU8 Try.underlying25 rfl (by decide) (vs 5) x.length (bv x) (by simpa [Act.eval] using e16) S (vs 6) 1 (bv [165]) (by simpa [Act.eval] using e17) (rd_of_row (e := 5) S (List.mem_cons_of_mem _ (hR 6 (List.mem_singleton.2 rfl) _ (List.mem_singleton.2 rfl)))) (bv_one _) (by unfold maxLen; omega) (by omega) (fun v' w' S' => hK v' w' (by rw [← bv_append] at S'; exact S') trivial)
        · intro vs gs A' W LF hA S hR hd hu K hK
          replace hK := hK default
          have e0 : A'.tmps[0]?.getD undef = .slice (some ad) L.length c := slot_is hA (by kernel_rfl) (Nat.le_of_ble_eq_true (by kernel_rfl)) (by kernel_rfl)
          go_step
          exact hK _ _ S rfl
        · intro vs gs A' W LF hA S hR hd hu K hK
          replace hK := hK default
          have e4 : A'.tmps[4]?.getD undef = .int .i64 (k : Int) := slot_is hA (by kernel_rfl) (Nat.le_of_ble_eq_true (by kernel_rfl)) (by kernel_rfl)
          go_step
          exact hK _ _ S rfl
        · intro vs gs A' W LF hA S hR hd hu K hK
          replace hK := hK default
          have f8 : vs 8 = .slice (some ad) L.length c := hd 8 (by kernel_rfl)
          have e19 : A'.tmps[19]?.getD undef = vs 8 := slot_is hA (by kernel_rfl) (Nat.le_of_ble_eq_true (by kernel_rfl)) (by kernel_rfl)
          rw [f8] at e19
          have f9 : vs 9 = .int .i64 (k : Int) := hd 9 (by kernel_rfl)
          have e20 : A'.tmps[20]?.getD undef = vs 9 := slot_is hA (by kernel_rfl) (Nat.le_of_ble_eq_true (by kernel_rfl)) (by kernel_rfl)
          rw [f9] at e20
          go_step
          exact hK _ _ S rfl
        · intro vs gs A' W LF hA S hR hd hu K hK
          replace hK := hK default
          have f10 : vs 10 = .pointer (some (ad.add k)) := hd 10 (by kernel_rfl)
          have e21 : A'.tmps[21]?.getD undef = vs 10 := slot_is hA (by kernel_rfl) (Nat.le_of_ble_eq_true (by kernel_rfl)) (by kernel_rfl)
          rw [f10] at e21
          have q := C1.out _ S.k
          go_step
          exact hK _ _ S rfl
        · intro vs gs A' W LF hA S hR hd hu K hK
          replace hK := hK default
          have f11 : vs 11 = .slice Ax x.length cx := hd 11 (by kernel_rfl)
          have e22 : A'.tmps[22]?.getD undef = vs 11 := slot_is hA (by kernel_rfl) (Nat.le_of_ble_eq_true (by kernel_rfl)) (by kernel_rfl)
          rw [f11] at e22
          go_step
          exact hK _ _ S rfl
        · intro vs gs A' W LF hA S hR hd hu K hK
          replace hK := hK default
          have e18 : A'.tmps[18]?.getD undef = vs 7 := slot_is hA (by kernel_rfl) (Nat.le_of_ble_eq_true (by kernel_rfl)) (by kernel_rfl)
          have f12 : vs 12 = .int .i64 (x.length : Int) := hd 12 (by kernel_rfl)
          have e23 : A'.tmps[23]?.getD undef = vs 12 := slot_is hA (by kernel_rfl) (Nat.le_of_ble_eq_true (by kernel_rfl)) (by kernel_rfl)
          rw [f12] at e23
          have S1 : Held w W (rowR 5 1 (vs 7) (x.length + 1) (bv (x ++ [165])) :: LF) := S
          obtain ⟨A7, c7, h7, h7a, h7b⟩ := ow_form (S1.at_ (l1 := []))
          clear S1
          rw [h7] at e18
          have q := fun w => cut_u8 A7 (x.length + 1) c7 x.length (x.length : Int) rfl (by omega) h7a w
          go_step
          refine hK _ _ ?_ ⟨A7, c7, rfl⟩
          have S2 : Held w W (rowR 5 1 (vs 7) (x.length + 1) (bv (x ++ [165])) :: LF) := S
          rw [h7] at S2
          exact S2
        · intro vs gs A' W LF hA S hR hd hu K hK
          replace hK := hK default
          have f13 : ∃ A c, vs 13 = .slice A x.length c := hd 13 (by kernel_rfl)
          have e24 : A'.tmps[24]?.getD undef = vs 13 := slot_is hA (by kernel_rfl) (Nat.le_of_ble_eq_true (by kernel_rfl)) (by kernel_rfl)
          obtain ⟨A1, c1, hq⟩ := f13
          rw [hq] at e24
          go_step
          have S2 := S.rownew (ow_new W 25 1 1 #[.slice A1 x.length c1] rfl (by decide)) ((Kp.refl [] W).alloc _) (fun g hg => Nat.le_of_eq (Option.some.inj hg))
          rw [← hq] at S2 ⊢
          exact hK _ _ S2 trivial
        · intro vs gs A' W LF hA S hR hd hu K hK
          replace hK := hK default
          have f0 : vs 0 = u3 := hd 0 (by kernel_rfl)
          have e11 : A'.tmps[11]?.getD undef = vs 0 := slot_is hA (by kernel_rfl) (Nat.le_of_ble_eq_true (by kernel_rfl)) (by kernel_rfl)
          rw [f0] at e11
          have e25 : A'.tmps[25]?.getD undef = vs 14 := slot_is hA (by kernel_rfl) (Nat.le_of_ble_eq_true (by kernel_rfl)) (by kernel_rfl)
          have hone : (vs 13).oneCell' = true := by obtain ⟨A, c, h⟩ := (hd 13 (by kernel_rfl) : ∃ A c, vs 13 = .slice A x.length c); rw [h]; rfl
          exact op_app (.tmp 11) (.tmp 25) 22 25 rfl Try.infoBytes Try.underlying22 rfl (by decide) u3 k Bs (by simpa [Act.eval] using e11) S (vs 14) 1 [vs 13] (by simpa [Act.eval] using e25) (rd_of_row (e := 25) S (List.mem_cons_of_mem _ (hR 14 (List.mem_singleton.2 rfl) _ (List.mem_singleton.2 rfl)))) (by simpa using hone) (by unfold maxLen; omega) (by omega) (fun v' w' S' => hK v' w' S' trivial)
        · intro vs gs A' W LF hA S hR hd hu K hK
          replace hK := hK default
          have e26 : A'.tmps[26]?.getD undef = vs 15 := slot_is hA (by kernel_rfl) (Nat.le_of_ble_eq_true (by kernel_rfl)) (by kernel_rfl)
          go_step
          exact hK _ _ S rfl
      · intro vs gs W S hp
        have S : Held w W (rowR 5 1 (vs 6) 1 (bv [165]) :: rowR 5 1 (grow1 (vs 13)) (x.length + 1) (bv (x ++ [165])) :: rowR 25 1 (vs 14) 1 [vs 13] :: rowR 25 1 (vs 15) (k + 1) (Bs ++ [vs 13]) :: markR (L.take k) Bs) := by simpa only [List.flatMap_cons, List.flatMap_nil, List.append_nil, List.nil_append, List.cons_append, List.append_assoc] using S
        have p0 : vs 0 = u3 := hp 0 (Nat.le_of_ble_eq_true rfl)
        have p1 : vs 1 = .slice (some ad) L.length c := hp 1 (Nat.le_of_ble_eq_true rfl)
        have p2 : vs 2 = .int .i64 (k : Int) := hp 2 (Nat.le_of_ble_eq_true rfl)
        have p3 : vs 3 = .pointer (some (ad.add k)) := hp 3 (Nat.le_of_ble_eq_true rfl)
        have p4 : vs 4 = .slice Ax x.length cx := hp 4 (Nat.le_of_ble_eq_true rfl)
        have p8 : vs 8 = .slice (some ad) L.length c := hp 8 (Nat.le_of_ble_eq_true rfl)
        have p9 : vs 9 = .int .i64 (k : Int) := hp 9 (Nat.le_of_ble_eq_true rfl)
        have p10 : vs 10 = .pointer (some (ad.add k)) := hp 10 (Nat.le_of_ble_eq_true rfl)
        have p11 : vs 11 = .slice Ax x.length cx := hp 11 (Nat.le_of_ble_eq_true rfl)
        have p12 : vs 12 = .int .i64 (x.length : Int) := hp 12 (Nat.le_of_ble_eq_true rfl)
        have p13 : ∃ A c, vs 13 = .slice A x.length c := hp 13 (Nat.le_of_ble_eq_true rfl)
        have p16 : vs 16 = vs 15 := hp 16 (Nat.le_of_ble_eq_true rfl)
        clear hp
        have S2 := (S.drop.sub (.cons_cons _ (.cons _ (List.Sublist.refl _)))).perm ((List.Perm.swap _ _ _).trans (List.Perm.cons _ (List.perm_append_singleton _ _).symm))
        have HS2 := Lib.hid S2
        clear S S2
        simp only [putAll, p0, p1, p2, p3, p4, p8, p9, p10, p11, p12, p16, Act.put, List.setIfInBounds_toArray, List.set_cons_succ, List.set_cons_zero]
        go_wp2
        go_roundw
        case rel => exact ⟨k + 1, Bs ++ [vs 13], by omega, by go_num, by simp [HBs.out], by rw [HT.out, markR_snoc _ _ _ _ (by rw [List.length_take, HBs.out]; omega)]; exact HS2.out⟩
        case measure => simp [intOf]; omega
      -- END lent15
    · obtain rfl : k = L.length := by omega
      obtain ⟨i0, hi, hz0, hz1, hz2⟩ := info_parts Try.infoBytes
      rw [List.take_length] at HS
      have kc := conv_txt
      have K4 : Kp [] wr (wr.alloc (.cells #[.int .u8 109, .int .u8 97, .int .u8 114, .int .u8 107] 5 (4, 5))) := (Kp.refl [] wr).alloc _
      have R4 : Rd (wr.alloc (.cells #[.int .u8 109, .int .u8 97, .int .u8 114, .int .u8 107] 5 (4, 5))) 1 (.slice (some ⟨wr.heap.size, 0, none⟩) 4 4) 4 (bv mk4) := rd_txt wr _ _ mk4 _ rfl (by decide) rfl
      have S2 := HS.out.new (rdR (.slice (some ⟨wr.heap.size, 0, none⟩) 4 4) 4 (bv mk4)) K4 ⟨R4, fun g hg => by rw [← Option.some.inj hg, World.size_alloc]; exact Nat.lt_succ_self _⟩ (fun b hb => by
        have hb : b = wr.heap.size := by simpa [rdR, Value.ownBlock] using hb
        omega)
      have S3 := Lib.hid (S2.alloc (.cells #[.slice (some ⟨wr.heap.size, 0, none⟩) 4 4] 25))
      have HR := Lib.hid (rd_new (wr.alloc (.cells #[.int .u8 109, .int .u8 97, .int .u8 114, .int .u8 107] 5 (4, 5))) 25 (.slice (some ⟨wr.heap.size, 0, none⟩) 4 4))
      rw [World.size_alloc] at HR
      clear S2 R4 K4
      go_wp2_with (at_builtin; refine wpList_app _ rfl (.tmp 27) (.tmp 30) _ rfl 25 i0 _ 1 24 Try.underlying22 hi hz0 hz1 hz2 rfl (by decide) u3 L.length Bs rfl (S3.out.at_ (l1 := [_])) (.slice (some ⟨wr.heap.size + 1, 0, none⟩) 1 1) 1 [.slice (some ⟨wr.heap.size, 0, none⟩) 4 4] rfl HR.out (by simp [Value.oneCell']) (by unfold maxLen; omega) (by omega) ?_; intro v7 w7 o7 g7 h7; have S7 := Lib.hid (S3.out.grow (l1 := [_]) o7 g7 h7); obtain ⟨g8, c7, hv7, hcc, _⟩ := ow_some o7 (by omega); subst hv7; have q := fun V => cut_texts (some ⟨g8, 0, none⟩) (L.length + 1) c7 L.length (L.length : Int) rfl (by omega) hcc V; clear o7 g7 h7)
      go_ret
      exact ⟨g8, c7, Bs, _, rfl, HBs.out, S7.out.perm (List.Perm.swap _ _ _)⟩
end Go.Proofs.Ytdmdnphbheomoaa
/- The reference's Same of layer 15; the law's kept. -/
namespace Go.Proofs.Ytdmdnphbheomoaa
open Go.RowKit
set_option maxRecDepth 100000 in
set_option maxHeartbeats 2000000 in
theorem same15_any (x y : Value) (L M : List (List UInt8)) (w : World) (hx : Txs w x L) (hy : Txs w y M) :
    Calls Try.prog 36 #[x, y] w fun e w' => e = .returned (.bool (L == M)) ∧ Kp [] w w' := by
  have hbL : L.length ≤ 9223372036854775807 := by
    obtain ⟨vs, ⟨_, A', c', _, h1, h2, _⟩, _⟩ := hx
    unfold maxLen at h2
    omega
  obtain ⟨A, c, rfl, hA, hat⟩ := hx.open_
  obtain ⟨B, d, rfl, hB, hbt⟩ := hy.open_
  have HA := Lib.hid hA
  have HB := Lib.hid hB
  have Hx := Lib.hid hx
  have Hy := Lib.hid hy
  clear hx hy hA hB hat hbt
  by_cases hlen : L.length = M.length
  · have hll := Lib.hid hlen
    have hl3 : ((L.length : Int) != (M.length : Int)) = false := by rw [hlen]; simp
    clear hlen
    go_enter Try.func36, Try.ntmps36
    go_wp2
    go_loopw [5] (fun i wr => ∃ k : Nat, k ≤ L.length ∧ i = .int .i64 k ∧ L.take k = M.take k ∧ Kp [] w wr) (fun i _ => L.length - (intOf i).toNat)
    case atStart => exact ⟨0, Nat.zero_le _, rfl, by simp, Kp.refl _ _⟩
    case round =>
      obtain ⟨k, hk, rfl, hpre, hkp⟩ := hrel
      have Hpre := Lib.hid hpre
      clear hpre
      by_cases hlt : k < L.length
      · obtain ⟨ad, rfl⟩ := HA.out (by omega)
        obtain ⟨bd, rfl⟩ := HB.out (by have := hll.out; omega)
        have hltM : k < M.length := by have := hll.out; omega
        have HX : Hid (∃ u, ∀ V, Kp [] w V → V.cell? (ad.add k) = some u ∧ Rd V 1 u L[k].length (bv L[k])) := Lib.hid (by
          obtain ⟨A', c', e, _, h⟩ := Hx.out.open_
          cases e
          obtain ⟨u, h1, h2⟩ := h ad rfl k hlt
          exact ⟨u, fun V kk => ⟨cell_kept h1 kk, rd_old h2 kk⟩⟩)
        have HY : Hid (∃ u, ∀ V, Kp [] w V → V.cell? (bd.add k) = some u ∧ Rd V 1 u M[k].length (bv M[k])) := Lib.hid (by
          obtain ⟨A', c', e, _, h⟩ := Hy.out.open_
          cases e
          obtain ⟨u, h1, h2⟩ := h bd rfl k hltM
          exact ⟨u, fun V kk => ⟨cell_kept h1 kk, rd_old h2 kk⟩⟩)
        obtain ⟨u1, hu1⟩ := HX.out
        obtain ⟨u2, hu2⟩ := HY.out
        have RX := Lib.hid (fun (V : World) (kk : Kp [] w V) => (hu1 V kk).2)
        have RY := Lib.hid (fun (V : World) (kk : Kp [] w V) => (hu2 V kk).2)
        have C1 := Lib.hid (fun (V : World) (kk : Kp [] w V) => (hu1 V kk).1)
        have C2 := Lib.hid (fun (V : World) (kk : Kp [] w V) => (hu2 V kk).1)
        have HnL : Hid (L.take (k + 1) = L.take k ++ [L[k]] ∧ M.take (k + 1) = M.take k ++ [M[k]]) := Lib.hid ⟨take_succ_of (List.getElem?_eq_getElem hlt), take_succ_of (List.getElem?_eq_getElem hltM)⟩
        have HnE : Hid (L[k] ≠ M[k] → (L == M) = false) := Lib.hid (fun hne => by
          apply Bool.eq_false_iff.2
          intro he
          have := eq_of_beq he
          subst this
          exact hne rfl)
        clear HX HY hu1 hu2
        generalize L[k] = a at *
        generalize M[k] = b at *
        go_wp2
        refine wp_region_lexf [] [] (fun V : World => Kp [] w V) (by kernel_rfl) (by kernel_rfl) (hkp.drew) (fun σ hne f hf hsur => ?_); have Hsur := Lib.hid hsur; clear hsur
        have hfa := fun y => C1.out _ (hf y)
        have hfb := fun y => C2.out _ (hf y)
        clear hf
        by_cases hab : a = b
        · subst hab
          have hkd : (a == a) = true := beq_self_eq_true a
          go_wp2_with (first
            | (refine lex_qk (.string ⟨a.toArray⟩) rfl rfl (fun V hV => exec_convT rfl rfl (strB (RX.out V hV))) ?_; intro K hK; go_simp; refine hK _ _ ?_; clear hK K)
            | (refine lex_qk (.string ⟨a.toArray⟩) rfl rfl (fun V hV => exec_convT rfl rfl (strB (RY.out V hV))) ?_; intro K hK; go_simp; refine hK _ _ ?_; clear hK K)
            | (refine lex_qq Hsur.out rfl rfl rfl ?_; intro K hK; go_big_quiet_op; go_big_quiet_on) | (refine lex_skipk rfl ?_; intro K hK; go_simp; refine hK _ _ ?_; clear hK K) | (refine lex_e rfl rfl ?_; intro K hK; go_step) | (refine lex_nil ?_)
            | ((with_reducible apply And.intro); · (intro hl; first | (exact ls_absurd hl rfl) | exact hkp.drew)))
          go_roundw
          case rel => exact ⟨k + 1, by omega, by go_num, by rw [HnL.out.1, HnL.out.2, Hpre.out], hkp.drew⟩
          case measure => simp [intOf]; omega
        · have hkd : (a == b) = false := beq_false_of_ne hab
          go_wp2_with (first
            | (refine lex_qk (.string ⟨a.toArray⟩) rfl rfl (fun V hV => exec_convT rfl rfl (strB (RX.out V hV))) ?_; intro K hK; go_simp; refine hK _ _ ?_; clear hK K)
            | (refine lex_qk (.string ⟨b.toArray⟩) rfl rfl (fun V hV => exec_convT rfl rfl (strB (RY.out V hV))) ?_; intro K hK; go_simp; refine hK _ _ ?_; clear hK K)
            | (refine lex_qq Hsur.out rfl rfl rfl ?_; intro K hK; go_big_quiet_op; go_big_quiet_on) | (refine lex_skipk rfl ?_; intro K hK; go_simp; refine hK _ _ ?_; clear hK K) | (refine lex_e rfl rfl ?_; intro K hK; go_step) | (refine lex_nil ?_)
            | ((with_reducible apply And.intro); · (intro hl; first | (exact ls_absurd hl rfl) | exact hkp.drew)))
          go_ret
          exact ⟨by rw [HnE.out hab]; rfl, hkp.drew⟩
      · obtain rfl : k = L.length := by omega
        have he : L = M := by
          have := Hpre.out
          rwa [List.take_length, hll.out, List.take_length] at this
        subst he
        go_wp2
        go_ret
        exact ⟨by simp, hkp⟩
  · have hne : (L == M) = false := by
      apply Bool.eq_false_iff.2
      intro he
      have := eq_of_beq he
      subst this
      exact hlen rfl
    have Hne := Lib.hid hne
    clear hne
    have hl2 : ¬ (L.length : Int) = (M.length : Int) := by omega
    go_enter Try.func36, Try.ntmps36
    go_wp2
    go_ret
    all_goals first
      | exact ⟨by rw [Hne.out]; rfl, Kp.refl _ _⟩
      | (exfalso; simp at *; omega)
/-- What is held of lent texts. -/
structure Lent (w : World) (g c : Nat) (Bs : List Value) (M : Value) (L : List (List UInt8)) : Prop where
  len : Bs.length = L.length
  row : Ow w 25 1 (.slice (some ⟨g, 0, none⟩) (L.length + 1) c) (L.length + 1) (Bs ++ [M])
  mark : Rd w 1 M 4 (bv mk4)
  texts : ∀ (i : Nat) (l : List UInt8) (B : Value), L[i]? = some l → Bs[i]? = some B → Ow w 5 1 (grow1 B) (l.length + 1) (bv (l ++ [165]))
theorem Lent.kp {w w' : World} {g c : Nat} {Bs : List Value} {M : Value} {L : List (List UInt8)} (h : Lent w g c Bs M L) (k : Kp [] w w') : Lent w' g c Bs M L :=
  ⟨h.len, ow_kp h.row k (by simp), rd_old h.mark k, fun i l B h1 h2 => ow_kp (h.texts i l B h1 h2) k (by simp)⟩
theorem Lent.txs {w : World} {g c : Nat} {Bs : List Value} {M : Value} {L : List (List UInt8)} (h : Lent w g c Bs M L) : Txs w (.slice (some ⟨g, 0, none⟩) L.length c) L := by
  obtain ⟨h1, A, c', e, h2, h3, h4, h5⟩ := Rd.of_own h.row
  cases e
  refine ⟨Bs, ⟨by rw [h.len]; omega, _, c, rfl, by omega, h3, (fun hA => by cases hA), fun ad had j u hu => h5 ad had j u ?_⟩, fun i hi => ?_⟩
  · rw [List.getElem?_append_left (List.getElem?_eq_some_iff.1 hu).1]
    exact hu
  · have hB : Bs[i]? = some (Bs[i]'(by rw [h.len]; exact hi)) := List.getElem?_eq_getElem _
    exact ⟨_, hB, mark_rd (h.texts i _ _ (List.getElem?_eq_getElem hi) hB)⟩
theorem Lent.of {w0 w : World} {g c : Nat} {Bs : List Value} {M : Value} {L : List (List UInt8)} {LL : List Res} (hB : Bs.length = L.length) (S : Held w0 w LL)
    (h1 : rowR 25 1 (.slice (some ⟨g, 0, none⟩) (L.length + 1) c) (L.length + 1) (Bs ++ [M]) ∈ LL) (h2 : rdR M 4 (bv mk4) ∈ LL) (h3 : ∀ r, r ∈ markR L Bs → r ∈ LL) : Lent w g c Bs M L :=
  ⟨hB, S.ok _ h1, (S.ok _ h2).1, fun i l B hl hb => S.ok (rowR 5 1 (grow1 B) (l.length + 1) (bv (l ++ [165]))) (h3 _ (markR_mem L Bs i l B hl hb))⟩
theorem Lent.at_ {w : World} {g c : Nat} {Bs : List Value} {M : Value} {L : List (List UInt8)} (h : Lent w g c Bs M L) {k : Nat} (hk : k < L.length) : ∃ gb cb, w.cell? ⟨g, k, none⟩ = some (.slice (some ⟨gb, 0, none⟩) L[k].length cb) ∧ L[k].length + 1 ≤ cb ∧ Ow w 5 1 (.slice (some ⟨gb, 0, none⟩) (L[k].length + 1) cb) (L[k].length + 1) (bv (L[k] ++ [165])) := by
  have hB : Bs[k]? = some (Bs[k]'(by rw [h.len]; exact hk)) := List.getElem?_eq_getElem _
  have ho := h.texts k _ _ (List.getElem?_eq_getElem hk) hB
  have hc := h.row.cellAt k (by omega)
  rw [List.getElem?_append_left (by rw [h.len]; exact hk), hB] at hc
  obtain ⟨A, cb, e, hcb⟩ := grow1_form ho
  rw [e] at ho hc
  simp only [grow1] at ho
  obtain ⟨gb, c', e2, _, _⟩ := ow_some ho (by omega)
  injection e2 with e2 _ _
  subst e2
  exact ⟨gb, cb, hc, hcb, ho⟩
set_option maxRecDepth 100000 in
set_option maxHeartbeats 2000000 in
theorem kept15_any (g c : Nat) (Bs : List Value) (M y : Value) (L : List (List UInt8)) (w : World) (hm : Lent w g c Bs M L) (hy : Txs w y L) (hL : L.length ≤ 1073741824) (hb : ∀ e ∈ L, e.length ≤ 140737488355200) :
    Calls Try.prog 18 #[.slice (some ⟨g, 0, none⟩) L.length c, y] w fun e w' => e = .returned (.bool true) ∧ Kp [] w w' := by
  obtain ⟨A, cy, rfl, hA, -⟩ := hy.open_
  have Hm := Lib.hid hm
  have Hy := Lib.hid hy
  have HA := Lib.hid hA
  have Hb := Lib.hid hb
  obtain ⟨hcc, hcm⟩ : L.length + 1 ≤ c ∧ c ≤ maxLen := by
    obtain ⟨_, _, hcr, hcc, hcm⟩ := ow_form hm.row
    injection hcr with _ _ hcr
    rw [hcr]
    exact ⟨hcc, hcm⟩
  unfold maxLen at hcm
  clear hm hy hA hb
  go_enter Try.func18, Try.ntmps18
  go_wp2
  go_loopw [5] (fun i wr => ∃ k : Nat, k ≤ L.length ∧ i = .int .i64 k ∧ Kp [] w wr) (fun i _ => L.length - (intOf i).toNat)
  case atStart => exact ⟨0, by omega, rfl, Kp.refl _ _⟩
  case round =>
    obtain ⟨k, hk, rfl, hkp⟩ := hrel
    by_cases hlt : k < L.length
    · obtain ⟨ad, rfl⟩ := HA.out (by omega)
      obtain ⟨Ax, cx, hcx, -⟩ := Hy.out.at_ hlt
      obtain ⟨gb, cb, hcb, hbc, hob⟩ := Hm.out.at_ hlt
      have hxl := Hb.out L[k] (List.getElem_mem hlt)
      have C1 := Lib.hid (fun V (kk : Kp [] w V) => cell_kept hcx kk)
      have C2 := Lib.hid (fun V (kk : Kp [] w V) => cell_kept hcb kk)
      have hc3 := hob.cellAt L[k].length (by omega)
      rw [show (bv (L[k] ++ [165]))[L[k].length]? = some (.int .u8 165) by rw [bv_append, List.getElem?_append_right (by rw [bv_length]; omega), bv_length]; simp [bv]] at hc3
      have C3 := Lib.hid (fun V (kk : Kp [] w V) => cell_kept hc3 kk)
      clear hcx hcb hob hc3
      generalize L[k] = x at *
      have q := fun V => cut_u8c (some ⟨gb, 0, none⟩) x.length cb (x.length + 1) ((x.length : Int) + 1) (by omega) (by omega) V
      go_wp2
      refine wp_region_lexf [] [] (fun V : World => Kp [] w V) (by kernel_rfl) (by kernel_rfl) (hkp.drew) (fun σ hne f hf hsur => ?_); have Hsur := Lib.hid hsur; clear hsur
      have hfa := fun y => C1.out _ (hf y)
      have hfb := fun y => C2.out _ (hf y)
      have hfc := fun y => C3.out _ (hf y)
      clear hf
      go_wp2_with (first
        | (refine lex_qq Hsur.out rfl rfl rfl ?_; intro K hK; go_big_quiet_op; go_big_quiet_on) | (refine lex_skipk rfl ?_; intro K hK; go_simp; refine hK _ _ ?_; clear hK K) | (refine lex_e rfl rfl ?_; intro K hK; go_step) | (refine lex_nil ?_)
        | ((with_reducible apply And.intro); · (intro hl; first | (exact ls_absurd hl rfl) | exact hkp.drew)))
      go_roundw
      case rel => exact ⟨k + 1, by omega, by go_num, hkp.drew⟩
      case measure => simp [intOf]; omega
    · obtain rfl : k = L.length := by omega
      have hq := Hm.out.row.cellAt L.length (by omega)
      rw [List.getElem?_append_right (by rw [Hm.out.len]; omega), Hm.out.len, Nat.sub_self] at hq
      have C1 := Lib.hid (fun V (kk : Kp [] w V) => cell_kept (show w.cell? ⟨g, L.length, none⟩ = some M from hq) kk)
      have RM := Lib.hid (fun V (kk : Kp [] w V) => rd_old Hm.out.mark kk)
      have q := fun V => cut_textsc (some ⟨g, 0, none⟩) L.length c (L.length + 1) ((L.length : Int) + 1) (by omega) (by omega) V
      clear hq
      go_wp2_with fail
      refine (same15_any _ _ L L _ (Hm.out.txs.kp0 hkp) (Hy.out.kp0 hkp)).mono ?_
      rintro e w1 ⟨rfl, k1⟩
      have K1 := Lib.hid (hkp.trans k1 (by simp))
      rw [beq_self_eq_true]
      have hc1 := C1.out _ K1.out
      have kv := strB (RM.out _ K1.out)
      clear k1
      go_wp2
      go_ret
      exact ⟨rfl, K1.out⟩
end Go.Proofs.Ytdmdnphbheomoaa
/- Walks of the reference for layer 1, and of the law's helpers: Number, Eight, List; lent, left, spoil. -/
namespace Go.Proofs.Ytdmdnphbheomoaa
open Go.RowKit


end Go.Proofs.Ytdmdnphbheomoaa
/- Walks for layer 1's laws: the reference's List; 'puts'. -/
namespace Go.Proofs.Ytdmdnphbheomoaa
open Go.RowKit

set_option maxRecDepth 100000 in
set_option maxHeartbeats 800000 in
theorem w_list_long (p : Nat) (v : Value) (bs : List UInt8) (k : Nat) (hk : 1 ≤ k ∧ k ≤ 4) (x : Value) (n : Nat) (hx : ∃ A c, x = .slice A n c) (w : World) (_hw : Wr w p v bs) (hlt : 256 ^ k ≤ n) (hn : n ≤ 140737488355328) :
    Calls Try.prog 40 #[.pointer (some ⟨p, 0, none⟩), .int .i64 k, x] w fun e w' => e = .returned (.int .i64 3) ∧ w = w' := by
  obtain ⟨A, c, rfl⟩ := hx
  obtain ⟨hk1, hk2⟩ := hk
  have hpos : 0 < n / 256 ^ k := Nat.div_pos hlt (Nat.pow_pos (by decide))
  have hd : decide ((0 : Int) < (n : Int) / ((256 ^ k : Nat) : Int)) = true := by rw [decide_eq_true_iff]; omega
  rcases (show k = 1 ∨ k = 2 ∨ k = 3 ∨ k = 4 from by omega) with rfl | rfl | rfl | rfl
  all_goals
    simp only [Nat.reducePow, Int.cast_ofNat_Int] at hd
    clear hlt hpos
    go_enter Try.func40, Try.ntmps40
    go_wp2
    go_ret
    exact ⟨rfl, rfl⟩
end Go.Proofs.Ytdmdnphbheomoaa
/- 'puts': what is written, by the program and by the document. -/
namespace Go.Proofs.Ytdmdnphbheomoaa
open Go.RowKit

/-- A Put, as data. -/
structure PutD where
  kind : Int
  x : Nat
  h : List UInt8
  b : List UInt8
  width : Int
/-- The bytes that it writes. -/
def PutD.enc (p : PutD) : List UInt8 :=
  if p.kind = 1 then be 1 p.x else if p.kind = 2 then be 2 p.x else if p.kind = 3 then be 4 p.x else if p.kind = 4 then be 8 p.x else if p.kind = 5 then be 8 p.x
  else if p.kind = 6 then p.h else if p.kind = 7 then p.b
  else if p.kind = 8 then (if 1 ≤ p.width ∧ p.width ≤ 4 ∧ p.b.length < 256 ^ p.width.toNat then be p.width.toNat p.b.length ++ p.b else []) else []
/-- The cells of one. -/
structure PutC (cs : Array Value) (p : PutD) (B : Value) : Prop where
  c0 : cs[0]? = some (.int .i64 p.kind)
  c1 : cs[1]? = some (.int .u64 p.x)
  ch : ((cs.toList.drop 2).take 32) = bv p.h
  c34 : cs[34]? = some B
  c35 : cs[35]? = some (.int .i64 p.width)
  size : cs.size = 36
  hx : p.x < 18446744073709551616
  hh : p.h.length = 32
  hk : -9223372036854775808 ≤ p.kind ∧ p.kind ≤ 9223372036854775807
  hw : -9223372036854775808 ≤ p.width ∧ p.width ≤ 9223372036854775807



/-- What 'puts' leaves. -/
def PutPost (q : Nat) (u : Value) (bs enc : List UInt8) (w : World) (e : Ending) (w' : World) : Prop :=
  ∃ v u', e = .returned (.tuple #[v, .bool true]) ∧ Wr w' q u' (bs ++ enc) ∧ WSt q u u' w w' ∧ Rd w' 1 v enc.length (bv enc)

/-- First something new is made (world w1), then the writer is written to. -/
theorem wst_after {w w1 w' : World} {q : Nat} {u u' : Value} (h1 : Kp [] w w1) (hs : WSt q u u' w1 w') : WSt q u u' w w' :=
  ⟨(h1.more (T := q :: u.ownBlock.toList) (by simp)).trans hs.1 (fun g hg => .inl hg), by
    rcases hs.2 with h | ⟨g, h2, h3⟩
    · exact .inl h
    · exact .inr ⟨g, h2, Nat.le_trans h1.size h3⟩⟩
theorem Wr.kp0 {w w' : World} {q : Nat} {u : Value} {bs : List UInt8} (h : Wr w q u bs) (hk : Kp [] w w') : Wr w' q u bs := h.kp hk (by simp) (fun _ _ => by simp)
/-- What was made new reads as it did, while the writer is written to. -/
theorem rd_beside {w1 w2 w' : World} {e : TypeId} {q n : Nat} {u u' v : Value} {bs : List UInt8} {xs : List Value} (ho : Ow w2 e 1 v n xs) (hf : ∀ g, v.ownBlock = some g → w1.heap.size ≤ g) (hw : Wr w1 q u bs) (hs : WSt q u u' w2 w') : Rd w' 1 v n xs :=
  (Rd.of_own ho).kp hs.1 (fun g hg hm => by
    have h1 := hf g hg
    rcases List.mem_cons.1 hm with h | h
    · have := hw.1.lt; omega
    · have := ow_lt hw.2 (g := g) (by simpa using h); omega)

-- PUTS
end Go.Proofs.Ytdmdnphbheomoaa
/- 'puts', the other kinds. -/
namespace Go.Proofs.Ytdmdnphbheomoaa
open Go.RowKit

/-- Out of 64 bits to a signed number and back. -/
theorem tou64_wrap (x : Nat) (h : x < 18446744073709551616) : tou64 (wrap64 (x : Int)) = x := by
  unfold wrap64 tou64; omega

theorem run_hash {P : Program} {W : World} {g : Nat} {t : TypeId} {cs : Array Value} {h : List UInt8} (ty : TypeId) (d : TypeDesc) (hb : Blk W g t cs) (hh : (cs.toList.drop 2).take 32 = bv h) (hu : P.underlying ty = some d) (hd : aggB d = true) (hi : (P.info? ty).map (·.size) = some 32) (hl : h.length = 32) :
    (Instr.loadAt ty (.pointer (some ⟨g, 2, none⟩))).run P W = .ok (.agg (bv h).toArray) W := by
  refine run_loadAt_agg W ⟨g, 2, none⟩ ty (bv h) d (fun j u hu' => ?_) hu hd (by rw [hi, bv_length, hl])
  rw [Addr.add_lit, hb.cell]
  rw [← hh, List.getElem?_take] at hu'
  split at hu'
  · rw [List.getElem?_drop] at hu'
    simpa using hu'
  · cases hu'
theorem rd_hash {W : World} {g : Nat} {t : TypeId} {cs : Array Value} {h : List UInt8} (hb : Blk W g t cs) (hh : (cs.toList.drop 2).take 32 = bv h) (hl : h.length = 32) : Rd W 1 (.slice (some ⟨g, 2, none⟩) 32 32) 32 (bv h) :=
  ⟨by rw [bv_length, hl], _, 32, rfl, Nat.le_refl _, by simp [maxLen], (fun h => by cases h), (fun ad had j u hu' => by
    cases had
    rw [Addr.add_lit, hb.cell]
    rw [← hh, List.getElem?_take] at hu'
    split at hu'
    · rw [List.getElem?_drop] at hu'
      simpa using hu'
    · cases hu')⟩

end Go.Proofs.Ytdmdnphbheomoaa
/- 'puts', the kinds that lend. -/
namespace Go.Proofs.Ytdmdnphbheomoaa
open Go.RowKit

/-- What was lent reads as what was lent. -/
theorem rd_lent {w : World} {e : TypeId} {g c n : Nat} {bs : List UInt8} (h : Ow w e 1 (.slice (some ⟨g, 0, none⟩) (n + 2) c) (n + 2) (bv (bs ++ [165, 166]))) (hl : bs.length = n) : Ow w e 1 (.slice (some ⟨g, 0, none⟩) n c) n (bv bs) := by
  have h1 := ow_take h (m := n) (by omega) (by omega)
  rwa [bv_append, Nat.mul_one, List.take_append_of_le_length (by rw [bv_length, hl]; exact Nat.le_refl _), List.take_of_length_le (by rw [bv_length, hl]; exact Nat.le_refl _)] at h1

end Go.Proofs.Ytdmdnphbheomoaa
/- 'puts', all kinds; its loop. -/
namespace Go.Proofs.Ytdmdnphbheomoaa
open Go.RowKit

end Go.Proofs.Ytdmdnphbheomoaa
/- WireWrites: what comes in; what the call holds. -/
namespace Go.Proofs.Ytdmdnphbheomoaa
open Go.RowKit

/-- What the first i of them write. -/
def encs (ps : List PutD) (i : Nat) : List UInt8 := ((ps.take i).map PutD.enc).flatten
theorem encs_zero (ps : List PutD) : encs ps 0 = [] := by simp [encs]
theorem encs_succ (ps : List PutD) (i : Nat) (p : PutD) (h : ps[i]? = some p) : encs ps (i + 1) = encs ps i ++ p.enc := by
  unfold encs
  rw [List.take_add_one, h]
  simp
theorem encs_over (ps : List PutD) (i : Nat) (h : ps.length ≤ i) : encs ps (i + 1) = encs ps i := by
  unfold encs
  rw [List.take_of_length_le h, List.take_of_length_le (by omega)]

/-- Element i of a slice of Puts. -/
structure PutAt (w : World) (ad : Addr) (i : Nat) (p : PutD) (cs : Array Value) (B : Value) : Prop where
  c : PutC cs p B
  at_ : ∀ j u, cs.toList[j]? = some u → w.cell? ((ad.add (i * 36)).add j) = some u
  b : Rd w 1 B p.b.length (bv p.b)
/-- A slice of Puts. -/
structure PutsIn (w : World) (v : Value) (ps : List PutD) : Prop where
  form : ∃ A c, v = .slice A ps.length c ∧ ps.length ≤ c ∧ c ≤ maxLen ∧ (A = none → ps = []) ∧ ∀ ad, A = some ad → ∀ i p, ps[i]? = some p → ∃ cs B, PutAt w ad i p cs B
theorem cell_old {w w' : World} {p : Addr} {u : Value} (h : w.cell? p = some u) (hk : Kp [] w w') : w'.cell? p = some u := by
  have hlt : p.block < w.heap.size := by
    rcases Nat.lt_or_ge p.block w.heap.size with h' | h'
    · exact h'
    · simp [World.cell?, Array.getElem?_eq_none h'] at h
  rw [World.cell?_of_block (hk.block p.block hlt (by simp))]; exact h
theorem PutAt.old {w w' : World} {ad : Addr} {i : Nat} {p : PutD} {cs : Array Value} {B : Value} (h : PutAt w ad i p cs B) (hk : Kp [] w w') : PutAt w' ad i p cs B :=
  ⟨h.c, fun j u hu => cell_old (h.at_ j u hu) hk, rd_old h.b hk⟩
theorem PutAt.lt {w : World} {ad : Addr} {i : Nat} {p : PutD} {cs : Array Value} {B : Value} (h : PutAt w ad i p cs B) : ∀ g, B.ownBlock = some g → p.b ≠ [] → g < w.heap.size := by
  intro g hg hne
  obtain ⟨_, A, c, h2, _, _, h5, h6⟩ := h.b
  rw [h2] at hg
  cases A with
  | none => simp [Value.ownBlock] at hg
  | some ad =>
    simp [Value.ownBlock] at hg
    obtain ⟨x, xs, hx⟩ := List.exists_cons_of_ne_nil hne
    have h := h6 ad rfl 0 (.int .u8 x.toNat) (by rw [hx]; rfl)
    rcases Nat.lt_or_ge g w.heap.size with h' | h'
    · exact h'
    · exfalso
      have hb : (ad.add 0).block = g := by rw [← hg]; rfl
      simp [World.cell?, hb, Array.getElem?_eq_none h'] at h

def sel {α : Type} (k : Nat) (x y : α) : α := if k = 0 then x else y

theorem sel_in {w : World} {A B : Option Addr} {ca cb : Nat} {ps qs : List PutD} (ha : PutsIn w (.slice A ps.length ca) ps) (hb : PutsIn w (.slice B qs.length cb) qs) (k : Nat) :
    ∃ Ar cr, sel k (Value.slice A ps.length ca) (Value.slice B qs.length cb) = .slice Ar (sel k ps qs).length cr ∧ PutsIn w (.slice Ar (sel k ps qs).length cr) (sel k ps qs) := by
  unfold sel
  split
  · exact ⟨A, ca, rfl, ha⟩
  · exact ⟨B, cb, rfl, hb⟩
theorem sel_encs (ps qs : List PutD) (i k : Nat) (hk : k < 2) : sel k (encs ps (if 0 < k then i + 1 else i)) (encs qs (if 1 < k then i + 1 else i)) = encs (sel k ps qs) i := by
  have : k = 0 ∨ k = 1 := by omega
  rcases this with rfl | rfl <;> simp [sel]
theorem sel_cell {α : Type} (x y : α) (k : Nat) (hk : k < 2) : (#[x, y])[k]? = some (sel k x y) := by
  have : k = 0 ∨ k = 1 := by omega
  rcases this with rfl | rfl <;> rfl
theorem sel_ind {α : Type} (P : α → Prop) {x y : α} (k : Nat) (hx : P x) (hy : P y) : P (sel k x y) := by unfold sel; split <;> assumption
theorem Held.old_ne {w0 w : World} {l1 l2 : List Res} {q : Nat} {u : Value} {bs : List UInt8} (S : Held w0 w (l1 ++ wrR q u bs :: l2)) {g : Nat} (h : g < w0.heap.size) : g ∉ q :: u.ownBlock.toList := fun hm => by
  have := S.base (wrR q u bs) (by simp) g hm
  omega
end Go.Proofs.Ytdmdnphbheomoaa
/- WireReads: the reference's reader. -/
namespace Go.Proofs.Ytdmdnphbheomoaa
open Go.RowKit

set_option maxHeartbeats 400000 in
theorem r_signed (p : Nat) (v : Value) (a : Nat) (bs : List UInt8) (hk : a + 8 ≤ bs.length) (w : World) (h : Rr w p v a bs) :
    Calls Try.prog 48 #[.pointer (some ⟨p, 0, none⟩)] w fun e w' => e = .returned (.tuple #[.int .i64 (wrap64 (num ((bs.drop a).take 8))), .int .i64 0]) ∧ Kp [p] w w' ∧ Rr w' p v (a + 8) bs := by
  go_enter Try.func48, Try.ntmps48
  go_wp2_with (go_at_call 70; refine (take_u64 p v a bs w h hk).mono ?_; rintro e w' ⟨rfl, k1, h1⟩)
  go_ret2
  exact ⟨rfl, k1, h1⟩
set_option maxHeartbeats 400000 in
theorem r_signed_end (p : Nat) (v : Value) (a : Nat) (bs : List UInt8) (hk : bs.length < a + 8) (w : World) (h : Rr w p v a bs) :
    Calls Try.prog 48 #[.pointer (some ⟨p, 0, none⟩)] w fun e w' => e = .returned (.tuple #[.int .i64 0, .int .i64 110]) ∧ Kp [] w w' := by
  go_enter Try.func48, Try.ntmps48
  go_wp2_with (go_at_call 70; refine (take_u64_end p v a bs w h hk).mono ?_; rintro e w' ⟨rfl, k1⟩)
  go_ret2
  exact ⟨rfl, k1⟩
end Go.Proofs.Ytdmdnphbheomoaa
/- WireReads: Raw, List. -/
namespace Go.Proofs.Ytdmdnphbheomoaa
open Go.RowKit

theorem eg_raw_in : ∀ args w, (callFunc 75 args).run Try.prog w = .ok (.enter 75 args) w := fun _ _ => by kernel_rfl
set_option maxRecDepth 100000 in
set_option maxHeartbeats 800000 in
theorem raw_in (g : Nat) (x0 x : Value) (k : Nat) (bs : List UInt8) (w : World) (hx : Rd w 1 x k (bv bs)) (hk : k ≤ 140737488355328) (hg : Blk w g 25 #[x0]) :
    Calls Try.prog 75 #[x, .pointer (some ⟨g, 0, none⟩)] w fun e w' => e = .returned (.int .i64 0) ∧ ∃ v, Ow w' 5 1 v k (bv bs) ∧ Blk w' g 25 #[v] ∧ Kp [g] w w' ∧ ∀ b, v.ownBlock = some b → w.heap.size ≤ b := by
  go_enter Try.func75, Try.ntmps75
  go_wp2_with fail
  refine (clone_any x bs k w hx hk).mono ?_
  rintro e w1 ⟨v1, rfl, o1, k1, f1⟩
  have hg1 := hg.kp k1 (by simp)
  have hc1 := hg1.cell 0
  have hz1 := hg1.frozen 0
  have hl1 := hg1.lt
  simp at hc1
  obtain ⟨A1, c1, rfl, _, _⟩ := ow_form o1
  have Hg1 := Lib.hid hg1
  clear hg1
  go_wp2
  go_ret
  refine ⟨rfl, _, ow_kp o1 ((Kp.refl [g] _).setCell (.inl (by simp)) _) (fun b hb hm => ?_), by simpa using Hg1.out.set_ 0 _, (k1.more (by simp)).setCell (.inl (by simp)) _, f1⟩
  have h1 := f1 b hb
  have h2 := hg.lt
  simp at hm
  omega

set_option maxRecDepth 100000 in
set_option maxHeartbeats 800000 in
theorem r_raw (p : Nat) (v : Value) (a : Nat) (bs : List UInt8) (k : Nat) (w : World) (h : Rr w p v a bs) (hk : a + k ≤ bs.length) :
    Calls Try.prog 69 #[.pointer (some ⟨p, 0, none⟩), .int .i64 k] w fun e w' => ∃ u, e = .returned (.tuple #[u, .int .i64 0]) ∧ Ow w' 5 1 u k (bv ((bs.drop a).take k)) ∧ Kp [p] w w' ∧ Rr w' p v (a + k) bs ∧ ∀ b, u.ownBlock = some b → w.heap.size ≤ b := by
  have hp := h.blk.lt
  have hlen := h.len
  have hnext : Calls Try.prog 65 #[.pointer (some ⟨p, 0, none⟩), .int .i64 k, .func (.func 75) #[] #[.pointer (some ⟨w.heap.size, 0, none⟩)]] (w.alloc (.cells #[.slice none 0 0] 25))
      fun e w' => e = .returned (.int .i64 0) ∧ ∃ u, w'.cell? ⟨w.heap.size, 0, none⟩ = some u ∧ Ow w' 5 1 u k (bv ((bs.drop a).take k)) ∧ Kp [p] w w' ∧ Rr w' p v (a + k) bs ∧ ∀ b, u.ownBlock = some b → w.heap.size ≤ b :=
    next_ok p v a bs k hk _ _ _ (h.alloc _) _ eg_raw_in (fun A c W hkp hr hrd => by
      have hb : Blk W w.heap.size 25 #[.slice none 0 0] := (Blk.new w _ _).kp hkp (by simp; omega)
      have k1 : Kp [p] w W := ((Kp.refl [p] w).alloc _).trans hkp (fun g hg => .inl hg)
      refine (raw_in w.heap.size _ _ k _ W hrd (by omega) hb).mono ?_
      rintro e w' ⟨rfl, u, hu, hb', hkk, hf⟩
      refine ⟨rfl, u, by simpa using hb'.cell 0, hu, k1.trans hkk (fun g hg => .inr (by simp at hg; omega)), hr.kp hkk (by simp; omega) (fun g hg hm => by simp at hm; subst hm; have := h.vlt _ hg; omega), fun b hb => ?_⟩
      have := hf b hb
      have := k1.size
      omega)
  have Hn := Lib.hid hnext
  clear hnext
  generalize (bs.drop a).take k = cs at *
  go_enter Try.func69, Try.ntmps69
  go_wp2_with (first
    | (go_at_call 65; refine Hn.out.mono ?_; rintro e w' ⟨rfl, u, hc, hu, hkp, hr, hf⟩; obtain ⟨A1, c1, rfl, _, _⟩ := ow_form hu))
  go_ret2
  exact ⟨_, rfl, hu, hkp, hr, hf⟩

set_option maxRecDepth 100000 in
set_option maxHeartbeats 800000 in
theorem r_raw_end (p : Nat) (v : Value) (a : Nat) (bs : List UInt8) (k : Int) (w : World) (h : Rr w p v a bs) (hk : (bs.length : Int) - a < k) :
    Calls Try.prog 69 #[.pointer (some ⟨p, 0, none⟩), .int .i64 k] w fun e w' => e = .returned (.tuple #[.slice none 0 0, .int .i64 110]) ∧ Kp [] w w' := by
  have hn := next_end p v a bs k hk (.func (.func 75) #[] #[.pointer (some ⟨w.heap.size, 0, none⟩)]) _ (h.alloc (.cells #[.slice none 0 0] 25))
  have Hn := Lib.hid hn
  have hk0 : ¬ k < 0 := by have := h.le; omega
  clear hn
  go_enter Try.func69, Try.ntmps69
  go_wp2_with (first
    | (go_at_call 65; refine Hn.out.mono ?_; rintro e w' ⟨rfl, nq, rfl⟩; have hc : ((w.alloc (.cells #[.slice none 0 0] 25)).drewN nq).cell? ⟨w.heap.size, 0, none⟩ = some (.slice none 0 0) := by simp))
  go_ret2
  exact ⟨rfl, ((Kp.refl [] w).alloc _).drewN _⟩

set_option maxHeartbeats 800000 in
theorem r_raw_arg (p : Nat) (k : Int) (w : World) (hk : k < 0) :
    Calls Try.prog 69 #[.pointer (some ⟨p, 0, none⟩), .int .i64 k] w fun e w' => e = .returned (.tuple #[.slice none 0 0, .int .i64 2]) ∧ w = w' := by
  go_enter Try.func69, Try.ntmps69
  go_wp2
  go_ret2
  exact ⟨rfl, rfl⟩

end Go.Proofs.Ytdmdnphbheomoaa
/- WireReads: the reference's Raw; List. -/
namespace Go.Proofs.Ytdmdnphbheomoaa
open Go.RowKit

end Go.Proofs.Ytdmdnphbheomoaa
/- WireReads: List. -/
namespace Go.Proofs.Ytdmdnphbheomoaa
open Go.RowKit

theorem r_leftn (p : Nat) (v : Value) (a : Nat) (bs : List UInt8) (m : Nat) (hm : bs.length = a + m) (w : World) (h : Rr w p v a bs) :
    Calls Try.prog 68 #[.pointer (some ⟨p, 0, none⟩)] w fun e w' => e = .returned (.int .i64 m) ∧ ∃ n, w' = w.drewN n := by
  have := r_left p v a bs w h
  rwa [show (bs.length : Int) - a = m by omega] at this

set_option maxRecDepth 100000 in
set_option maxHeartbeats 1000000 in
theorem wlist_in (p gm gr go : Nat) (v x x0 : Value) (a m most : Nat) (bs cs : List UInt8) (w : World) (h : Rr w p v a bs) (hm : bs.length = a + m) (hmost : most ≤ 9223372036854775807) (hcs : cs.length ≤ 8)
    (hx : Rd w 1 x cs.length (bv cs)) (hgm : Blk w gm 3 #[.int .i64 most]) (hgr : Blk w gr 76 #[.pointer (some ⟨p, 0, none⟩)]) (hgo : Blk w go 25 #[x0]) (hne : p ≠ go) (hvo : v.ownBlock ≠ some go)
    (h1 : num cs ≤ most) (h2 : num cs ≤ m) :
    Calls Try.prog 66 #[x, .pointer (some ⟨gm, 0, none⟩), .pointer (some ⟨gr, 0, none⟩), .pointer (some ⟨go, 0, none⟩)] w fun e w' =>
      e = .returned (.int .i64 0) ∧ ∃ u, Ow w' 5 1 u (num cs) (bv ((bs.drop a).take (num cs))) ∧ Blk w' go 25 #[u] ∧ Kp [p, go] w w' ∧ Rr w' p v (a + num cs) bs ∧ ∀ b, u.ownBlock = some b → w.heap.size ≤ b := by
  have hnum := number_any x cs hcs w hx
  have hlen := h.len
  have hcm := hgm.cell 0
  have hcr := hgr.cell 0
  simp at hcm hcr
  have hraw := r_raw p v a bs (num cs)
  generalize num cs = N at *
  have Hraw := Lib.hid hraw
  have Hnum := Lib.hid hnum
  have hN : ¬ (most < N) := by omega
  have hN2 : ¬ (m < N) := by omega
  clear hraw hnum
  go_enter Try.func66, Try.ntmps66
  go_wp2_with (first
    | (go_at_call 67; refine Hnum.out.mono ?_; rintro e w' ⟨rfl, rfl⟩)
    | (go_at_call 68; refine (r_leftn p v a bs m hm w h).mono ?_; rintro e w' ⟨rfl, nq, rfl⟩))
  refine (Hraw.out (w.drewN nq) (h.drewN nq) (by omega)).mono ?_
  rintro e w2 ⟨u, rfl, o2, k2, r2, f2⟩
  have hgo2 : Blk w2 go 25 #[x0] := (hgo.drewN nq).kp k2 (by simpa using Ne.symm hne)
  have hc2 := hgo2.cell 0
  have hz2 := hgo2.frozen 0
  have hl2 := hgo2.lt
  simp at hc2
  obtain ⟨A2, c2, rfl, _, _⟩ := ow_form o2
  have Hgo2 := Lib.hid hgo2
  clear hgo2
  go_wp2
  go_ret
  have hgol := hgo.lt
  refine ⟨rfl, _, ow_kp o2 ((Kp.refl [go] _).setCell (.inl (by simp)) _) (fun b hb hm => ?_), by simpa using Hgo2.out.set_ 0 _, ?_, r2.set (Ne.symm hne) hvo 0 _, f2⟩
  · have := f2 b hb
    simp at hm this
    omega
  · exact ((((Kp.refl [p, go] w).drewN nq).trans k2 (fun g hg => .inl (by simp at hg; simp [hg]))).setCell (.inl (by simp)) _)

set_option maxRecDepth 100000 in
set_option maxHeartbeats 1000000 in
theorem list_in_long (gm gr go : Nat) (x : Value) (most : Nat) (cs : List UInt8) (w : World) (hmost : most ≤ 9223372036854775807) (hcs : cs.length ≤ 8)
    (hx : Rd w 1 x cs.length (bv cs)) (hgm : Blk w gm 3 #[.int .i64 most]) (h1 : most < num cs) :
    Calls Try.prog 66 #[x, .pointer (some ⟨gm, 0, none⟩), .pointer (some ⟨gr, 0, none⟩), .pointer (some ⟨go, 0, none⟩)] w fun e w' => e = .returned (.int .i64 3) ∧ w = w' := by
  have hnum := number_any x cs hcs w hx
  have hcm := hgm.cell 0
  simp at hcm
  generalize num cs = N at *
  have Hnum := Lib.hid hnum
  clear hnum
  go_enter Try.func66, Try.ntmps66
  go_wp2_with (first
    | (go_at_call 67; refine Hnum.out.mono ?_; rintro e w' ⟨rfl, rfl⟩))
  go_ret
  exact ⟨rfl, rfl⟩

set_option maxRecDepth 100000 in
set_option maxHeartbeats 1000000 in
theorem list_in_end (p gm gr go : Nat) (v x : Value) (a m most : Nat) (bs cs : List UInt8) (w : World) (h : Rr w p v a bs) (hm : bs.length = a + m) (hmost : most ≤ 9223372036854775807) (hcs : cs.length ≤ 8)
    (hx : Rd w 1 x cs.length (bv cs)) (hgm : Blk w gm 3 #[.int .i64 most]) (hgr : Blk w gr 76 #[.pointer (some ⟨p, 0, none⟩)])
    (h1 : num cs ≤ most) (h2 : m < num cs) :
    Calls Try.prog 66 #[x, .pointer (some ⟨gm, 0, none⟩), .pointer (some ⟨gr, 0, none⟩), .pointer (some ⟨go, 0, none⟩)] w fun e w' => e = .returned (.int .i64 110) ∧ ∃ n, w' = w.drewN n := by
  have hnum := number_any x cs hcs w hx
  have hlen := h.len
  have hcm := hgm.cell 0
  have hcr := hgr.cell 0
  simp at hcm hcr
  generalize num cs = N at *
  have Hnum := Lib.hid hnum
  have hN : ¬ (most < N) := by omega
  clear hnum
  go_enter Try.func66, Try.ntmps66
  go_wp2_with (first
    | (go_at_call 67; refine Hnum.out.mono ?_; rintro e w' ⟨rfl, rfl⟩)
    | (go_at_call 68; refine (r_leftn p v a bs m hm w h).mono ?_; rintro e w' ⟨rfl, nq, rfl⟩))
  go_ret
  exact ⟨rfl, nq, rfl⟩
end Go.Proofs.Ytdmdnphbheomoaa
/- WireReads: the reader's List. -/
namespace Go.Proofs.Ytdmdnphbheomoaa
open Go.RowKit

theorem eg_list_in : ∀ args w, (callFunc 66 args).run Try.prog w = .ok (.enter 66 args) w := fun _ _ => by kernel_rfl
/-- The three blocks that List makes. -/
def listW (w : World) (p most : Nat) : World := ((w.alloc (.cells #[.pointer (some ⟨p, 0, none⟩)] 76)).alloc (.cells #[.int .i64 most] 3)).alloc (.cells #[.slice none 0 0] 25)
theorem listW_kp (w : World) (p most : Nat) : Kp [] w (listW w p most) := (((Kp.refl [] w).alloc _).alloc _).alloc _
theorem listW_size (w : World) (p most : Nat) : (listW w p most).heap.size = w.heap.size + 1 + 1 + 1 := by simp [listW]
theorem listW_blks (w : World) (p most : Nat) : Blk (listW w p most) w.heap.size 76 #[.pointer (some ⟨p, 0, none⟩)] ∧ Blk (listW w p most) (w.heap.size + 1) 3 #[.int .i64 most] ∧ Blk (listW w p most) (w.heap.size + 1 + 1) 25 #[.slice none 0 0] := by
  refine ⟨((Blk.new w _ _).alloc _).alloc _, ?_, ?_⟩
  · have := Blk.new (w.alloc (.cells #[.pointer (some ⟨p, 0, none⟩)] 76)) 3 #[.int .i64 most]
    rw [World.size_alloc] at this
    exact this.alloc _
  · have := Blk.new ((w.alloc (.cells #[.pointer (some ⟨p, 0, none⟩)] 76)).alloc (.cells #[.int .i64 most] 3)) 25 #[.slice none 0 0]
    rwa [World.size_alloc, World.size_alloc] at this

set_option maxRecDepth 100000 in
set_option maxHeartbeats 1000000 in
theorem r_list (p : Nat) (v : Value) (a k most : Nat) (bs : List UInt8) (hk1 : 1 ≤ k) (hk4 : k ≤ 4) (hmost : most ≤ 9223372036854775807) (hk : a + k ≤ bs.length) (w : World) (h : Rr w p v a bs)
    (h1 : num ((bs.drop a).take k) ≤ most) (h2 : a + k + num ((bs.drop a).take k) ≤ bs.length) :
    Calls Try.prog 47 #[.pointer (some ⟨p, 0, none⟩), .int .i64 k, .int .i64 most] w fun e w' =>
      ∃ u, e = .returned (.tuple #[u, .int .i64 0]) ∧ Ow w' 5 1 u (num ((bs.drop a).take k)) (bv ((bs.drop (a + k)).take (num ((bs.drop a).take k)))) ∧ Kp [p] w w' ∧ Rr w' p v (a + k + num ((bs.drop a).take k)) bs ∧ ∀ b, u.ownBlock = some b → w.heap.size ≤ b := by
  have hp := h.blk.lt
  have hvl := h.vlt
  have hcl : ((bs.drop a).take k).length = k := by rw [List.length_take, List.length_drop]; omega
  have hnext : Calls Try.prog 65 #[.pointer (some ⟨p, 0, none⟩), .int .i64 k, .func (.func 66) #[] #[.pointer (some ⟨w.heap.size + 1, 0, none⟩), .pointer (some ⟨w.heap.size, 0, none⟩), .pointer (some ⟨w.heap.size + 1 + 1, 0, none⟩)]] (listW w p most)
      fun e w' => e = .returned (.int .i64 0) ∧ ∃ u, w'.cell? ⟨w.heap.size + 1 + 1, 0, none⟩ = some u ∧ Ow w' 5 1 u (num ((bs.drop a).take k)) (bv ((bs.drop (a + k)).take (num ((bs.drop a).take k)))) ∧ Kp [p] w w' ∧ Rr w' p v (a + k + num ((bs.drop a).take k)) bs ∧ ∀ b, u.ownBlock = some b → w.heap.size ≤ b :=
    next_ok p v a bs k hk _ _ _ (h.kp' (listW_kp w p most)) _ eg_list_in (fun A c W hkp hr hrd => by
      obtain ⟨b1, b2, b3⟩ := listW_blks w p most
      have k1 : Kp [p] w W := ((listW_kp w p most).more (T := [p]) (by simp)).trans hkp (fun g hg => .inl hg)
      refine (wlist_in p (w.heap.size + 1) w.heap.size (w.heap.size + 1 + 1) v _ _ (a + k) (bs.length - (a + k)) most bs ((bs.drop a).take k) W hr (by omega) hmost (by omega) (by rw [hcl]; exact hrd) (b2.kp hkp (by simp; omega)) (b1.kp hkp (by simp; omega)) (b3.kp hkp (by simp; omega)) (by omega) (fun e => by have := hvl _ e; omega) h1 (by omega)).mono ?_
      rintro e w' ⟨rfl, u, hu, hb', hkk, hr', hf⟩
      refine ⟨rfl, u, by simpa using hb'.cell 0, hu, k1.trans hkk (fun g hg => ?_), hr', fun b hb => ?_⟩
      · simp at hg
        rcases hg with rfl | rfl
        · exact .inl (by simp)
        · exact .inr (by omega)
      · have := hf b hb
        have := k1.size
        omega)
  have Hn := Lib.hid hnext
  clear hnext
  generalize num ((bs.drop a).take k) = N at *
  go_enter Try.func47, Try.ntmps47
  go_wp2_with (first
    | (go_at_call 65; refine Hn.out.mono ?_; rintro e w' ⟨rfl, u, hc, hu, hkp, hr, hf⟩; obtain ⟨A1, c1, rfl, _, _⟩ := ow_form hu))
  go_ret2
  exact ⟨_, rfl, hu, hkp, hr, hf⟩

set_option maxRecDepth 100000 in
set_option maxHeartbeats 1000000 in
/-- Refused behind the number: the place is as it was. -/
theorem r_list_no (p : Nat) (v : Value) (a k most : Nat) (bs : List UInt8) (er : Int) (hk1 : 1 ≤ k) (hk4 : k ≤ 4) (hmost : most ≤ 9223372036854775807) (hk : a + k ≤ bs.length) (w : World) (h : Rr w p v a bs)
    (h1 : (er = 3 ∧ most < num ((bs.drop a).take k)) ∨ (er = 110 ∧ num ((bs.drop a).take k) ≤ most ∧ bs.length < a + k + num ((bs.drop a).take k))) :
    Calls Try.prog 47 #[.pointer (some ⟨p, 0, none⟩), .int .i64 k, .int .i64 most] w fun e w' => e = .returned (.tuple #[.slice none 0 0, .int .i64 er]) ∧ Kp [p] w w' ∧ Rr w' p v a bs := by
  have hp := h.blk.lt
  have hle := h.le
  have hvl := h.vlt
  have hcl : ((bs.drop a).take k).length = k := by rw [List.length_take, List.length_drop]; omega
  have her : er ≠ 0 := by omega
  have hnext : Calls Try.prog 65 #[.pointer (some ⟨p, 0, none⟩), .int .i64 k, .func (.func 66) #[] #[.pointer (some ⟨w.heap.size + 1, 0, none⟩), .pointer (some ⟨w.heap.size, 0, none⟩), .pointer (some ⟨w.heap.size + 1 + 1, 0, none⟩)]] (listW w p most)
      fun e w' => e = .returned (.int .i64 er) ∧ (w'.cell? ⟨w.heap.size + 1 + 1, 0, none⟩ = some (.slice none 0 0) ∧ Kp [p] w w' ∧ Rr w' p v a bs) :=
    next_no p v a bs k hk _ _ _ (h.kp' (listW_kp w p most)) er her (fun w' => w'.cell? ⟨w.heap.size + 1 + 1, 0, none⟩ = some (.slice none 0 0) ∧ Kp [p] w w' ∧ Rr w' p v a bs) eg_list_in (fun A c W hkp hr hrd => by
      obtain ⟨b1, b2, b3⟩ := listW_blks w p most
      have k1 : Kp [p] w W := ((listW_kp w p most).more (T := [p]) (by simp)).trans hkp (fun g hg => .inl hg)
      have c1 := b1.kp hkp (by simp; omega)
      have c2 := b2.kp hkp (by simp; omega)
      have c3 := b3.kp hkp (by simp; omega)
      have fin : ∀ n, Kp [p] (listW w p most) (W.drewN n) ∧ Blk (W.drewN n) p 103 #[v, .int .i64 ((a : Int) + k)] ∧ (((W.drewN n).setCell ⟨p, 1, none⟩ (.int .i64 a)).cell? ⟨w.heap.size + 1 + 1, 0, none⟩ = some (.slice none 0 0) ∧ Kp [p] w ((W.drewN n).setCell ⟨p, 1, none⟩ (.int .i64 a)) ∧ Rr ((W.drewN n).setCell ⟨p, 1, none⟩ (.int .i64 a)) p v a bs) := fun n => by
        have hb : Blk (W.drewN n) p 103 #[v, .int .i64 ((a : Int) + k)] := by have := hr.blk; rw [Int.natCast_add] at this; exact this
        have ks : Kp [p] (W.drewN n) ((W.drewN n).setCell ⟨p, 1, none⟩ (.int .i64 a)) := (Kp.refl [p] _).setCell (.inl (by simp)) _
        have c3' : Blk (W.drewN n) (w.heap.size + 1 + 1) 25 #[.slice none 0 0] := c3
        exact ⟨hkp.drewN n, hb, by simpa using (c3'.kp ks (by simp; omega)).cell 0, (k1.drewN n).trans ks (fun g hg => .inl hg), (hr.drewN n).moved ks (setCell1 hb) hle⟩
      rcases h1 with ⟨rfl, h1⟩ | ⟨rfl, h1, h2⟩
      · refine (list_in_long (w.heap.size + 1) w.heap.size (w.heap.size + 1 + 1) _ most ((bs.drop a).take k) W hmost (by omega) (by rw [hcl]; exact hrd) c2 h1).mono ?_
        rintro e w' ⟨rfl, rfl⟩
        exact ⟨rfl, fin 0⟩
      · refine (list_in_end p (w.heap.size + 1) w.heap.size (w.heap.size + 1 + 1) v _ (a + k) (bs.length - (a + k)) most bs ((bs.drop a).take k) W hr (by omega) hmost (by omega) (by rw [hcl]; exact hrd) c2 c1 h1 (by omega)).mono ?_
        rintro e w' ⟨rfl, n, rfl⟩
        exact ⟨rfl, fin n⟩)
  have Hn := Lib.hid hnext
  clear hnext h1 her
  go_enter Try.func47, Try.ntmps47
  go_wp2_with (first
    | (go_at_call 65; refine Hn.out.mono ?_; rintro e w' ⟨rfl, hc, hkp, hr⟩))
  go_ret2
  exact ⟨rfl, hkp, hr⟩

set_option maxRecDepth 100000 in
set_option maxHeartbeats 1000000 in
theorem r_list_end (p : Nat) (v : Value) (a k most : Nat) (bs : List UInt8) (hk1 : 1 ≤ k) (hk4 : k ≤ 4) (hk : bs.length < a + k) (w : World) (h : Rr w p v a bs) :
    Calls Try.prog 47 #[.pointer (some ⟨p, 0, none⟩), .int .i64 k, .int .i64 most] w fun e w' => e = .returned (.tuple #[.slice none 0 0, .int .i64 110]) ∧ Kp [] w w' := by
  have hle := h.le
  have hn := next_end p v a bs k (by omega) (.func (.func 66) #[] #[.pointer (some ⟨w.heap.size + 1, 0, none⟩), .pointer (some ⟨w.heap.size, 0, none⟩), .pointer (some ⟨w.heap.size + 1 + 1, 0, none⟩)]) _ (h.kp' (listW_kp w p most))
  have Hn := Lib.hid hn
  have hc3 : ∀ nq, ((listW w p most).drewN nq).cell? ⟨w.heap.size + 1 + 1, 0, none⟩ = some (.slice none 0 0) := fun nq => by simpa using (listW_blks w p most).2.2.cell 0
  have Hc3 := Lib.hid hc3
  clear hn hc3
  go_enter Try.func47, Try.ntmps47
  go_wp2_with (first
    | (go_at_call 65; refine Hn.out.mono ?_; rintro e w' ⟨rfl, nq, rfl⟩; have hc := Hc3.out nq))
  go_ret2
  exact ⟨rfl, (listW_kp w p most).drewN _⟩

set_option maxRecDepth 100000 in
set_option maxHeartbeats 1000000 in
theorem r_list_arg (p : Nat) (k most : Int) (hk : k < 1 ∨ 4 < k ∨ most < 0) (w : World) :
    Calls Try.prog 47 #[.pointer (some ⟨p, 0, none⟩), .int .i64 k, .int .i64 most] w fun e w' => e = .returned (.tuple #[.slice none 0 0, .int .i64 2]) ∧ Kp [] w w' := by
  have hk : k < 1 ∨ (¬ k < 1 ∧ 4 < k) ∨ (¬ k < 1 ∧ ¬ 4 < k ∧ most < 0) := by omega
  rcases hk with hk | ⟨hk0, hk⟩ | ⟨hk0, hk1, hk⟩
  all_goals
    go_enter Try.func47, Try.ntmps47
    go_wp2
    go_ret2
    exact ⟨rfl, ((Kp.refl [] w).alloc _).alloc _⟩
end Go.Proofs.Ytdmdnphbheomoaa
/- entry.Read. -/
namespace Go.Proofs.Ytdmdnphbheomoaa
open Go.RowKit
/-- A slice of texts grown by one text's slice. -/
theorem held_app_text {w0 w w' : World} {l1 l2 : List Res} {v v' x : Value} {n : Nat} {Bs : List Value} (S : Held w0 w (l1 ++ rowR 25 1 v n Bs :: l2)) (o : Ow w' 25 1 v' (n + 1) (Bs ++ [x])) (g : w.grownBy w' v.ownBlock) (h : v'.ownBlock = v.ownBlock ∨ v'.ownBlock = some w.heap.size) :
    Held w0 w' (l1 ++ rowR 25 1 v' (n + 1) (Bs ++ [x]) :: l2) := S.grow o g h
set_option maxRecDepth 100000 in
set_option maxHeartbeats 2000000 in
theorem lay_ok (g4 g5 p : Nat) (v u : Value) (f : Int) (a k s : Nat) (bs : List UInt8) (Bs : List Value) (T : List Res) (w0 w : World) (hk : k ≤ 1073741824) (ha : a + 2 ≤ bs.length) (hs : num ((bs.drop a).take 2) = s) (h1 : s ≤ 4096) (h2 : a + 2 + s ≤ bs.length)
    (S : Held w0 w (rrR p v a bs :: blkR g4 76 #[.pointer (some ⟨p, 0, none⟩)] :: blkR g5 24 #[.int .i64 f, u] :: rowR 25 1 u k Bs :: T)) :
    Calls Try.prog 46 #[.pointer (some ⟨g4, 0, none⟩), .pointer (some ⟨g5, 0, none⟩)] w fun e w' => e = .returned (.bool true) ∧ ∃ u' B, Held w0 w' (rrR p v (a + 2 + s) bs :: blkR g4 76 #[.pointer (some ⟨p, 0, none⟩)] :: blkR g5 24 #[.int .i64 f, u'] :: rowR 25 1 u' (k + 1) (Bs ++ [B]) :: rowR 5 1 B s (bv ((bs.drop (a + 2)).take s)) :: T) := by
  obtain ⟨i0, hi, hz0, hz1, hz2⟩ := info_parts Try.infoBytes
  have HS := Lib.hid S
  have Hs := Lib.hid hs
  obtain ⟨c1, _, _⟩ := Blk.c1 (S.at_ (l1 := [_]))
  clear S hs
  go_enter Try.func46, Try.ntmps46
  go_wp2_with fail
  refine (r_list p v a 2 4096 bs (by decide) (by decide) (by decide) ha _ (HS.out.at_ (l1 := [])) (by rw [Hs.out]; exact h1) (by rw [Hs.out]; exact h2)).mono ?_
  rw [Hs.out]
  rintro e w1 ⟨B, rfl, o1, k1, r1, f1⟩
  obtain ⟨AB, cB, rfl, _, _⟩ := ow_form o1
  have S1 := (HS.out.rturn (l1 := []) r1 k1)
  have S2 := Lib.hid (show Held w0 w1 (rowR 5 1 (.slice AB s cB) s (bv ((bs.drop (a + 2)).take s)) :: rrR p v (a + 2 + s) bs :: blkR g4 76 #[.pointer (some ⟨p, 0, none⟩)] :: blkR g5 24 #[.int .i64 f, u] :: rowR 25 1 u k Bs :: T) from by
    refine ⟨S1.k, fun r hr => ?_, fun r hr => ?_, List.pairwise_cons.2 ⟨fun r hr b hb hb' => ?_, S1.apart⟩⟩
    · rcases List.mem_cons.1 hr with rfl | hr
      · exact o1
      · exact S1.ok r hr
    · rcases List.mem_cons.1 hr with rfl | hr
      · exact fun b hb => Nat.le_trans HS.out.k.size (f1 b (by simpa [rowR] using hb))
      · exact S1.base r hr
    · have h3 := f1 b (by simpa [rowR] using hb)
      rcases List.mem_cons.1 hr with rfl | hr
      · have := (HS.out.at_ (l1 := [])); have := (rrR p v a bs).lt w this b hb'; omega
      · have := r.lt w (HS.out.ok r (List.mem_cons_of_mem _ hr)) b hb'; omega)
  clear S1 o1 k1 r1 f1
  obtain ⟨d0, d1, _, _, _⟩ := Blk.c2 (S2.out.at_ (l1 := [_, _, _]))
  have S3 := Lib.hid (S2.out.alloc (.cells #[.slice AB s cB] 25))
  have HR := Lib.hid (rd_new w1 25 (.slice AB s cB))
  clear c1
  go_wp2_with (at_builtin; refine wpList_app _ rfl (.tmp 11) (.tmp 13) _ rfl 25 i0 _ 1 24 Try.underlying22 hi hz0 hz1 hz2 rfl (by decide) u k Bs rfl (S3.out.at_ (l1 := [_, _, _, _])) (.slice (some ⟨w1.heap.size, 0, none⟩) 1 1) 1 [.slice AB s cB] rfl HR.out (by simp [Value.oneCell']) (by unfold maxLen; omega) (by omega) ?_; intro v7 w7 o7 g7 h7; have S7 := Lib.hid (S3.out.grow (l1 := [_, _, _, _]) o7 g7 h7); obtain ⟨A7, c7, hv7, hcc, _⟩ := ow_form o7; subst hv7; obtain ⟨d0, d1, d2, d3, d4⟩ := Blk.c2 (S7.out.at_ (l1 := [_, _, _])); clear o7 g7 h7)
  go_ret
  have S8 := S7.out.set (l1 := [_, _, _]) 1 (.slice A7 (k + 1) c7)
  refine ⟨rfl, .slice A7 (k + 1) c7, .slice AB s cB, S8.perm ?_⟩
  exact (List.Perm.swap _ _ _).trans (List.Perm.cons _ ((List.Perm.swap _ _ _).trans (List.Perm.cons _ ((List.Perm.swap _ _ _).trans (List.Perm.cons _ (List.Perm.swap _ _ _))))))
theorem list_no15 (p : Nat) (v : Value) (a s : Nat) (bs : List UInt8) (w : World) (h : Rr w p v a bs) (hs : num ((bs.drop a).take 2) = s) (hno : bs.length < a + 2 ∨ (a + 2 ≤ bs.length ∧ (4096 < s ∨ bs.length < a + 2 + s))) :
    Calls Try.prog 47 #[.pointer (some ⟨p, 0, none⟩), .int .i64 2, .int .i64 4096] w fun e w1 => ∃ er : Int, er ≠ 0 ∧ e = .returned (.tuple #[.slice none 0 0, .int .i64 er]) ∧ Kp [p] w w1 ∧ Rr w1 p v a bs := by
  rcases hno with h1 | ⟨h1, h2⟩
  · refine (r_list_end p v a 2 4096 bs (by decide) (by decide) h1 w h).mono ?_
    rintro e w1 ⟨rfl, k⟩
    exact ⟨110, by decide, rfl, k.more (by simp), h.kp' k⟩
  · by_cases h3 : 4096 < s
    · refine (r_list_no p v a 2 4096 bs 3 (by decide) (by decide) (by decide) h1 w h (.inl ⟨rfl, by rw [hs]; exact h3⟩)).mono ?_
      rintro e w1 ⟨rfl, k, r⟩
      exact ⟨3, by decide, rfl, k, r⟩
    · refine (r_list_no p v a 2 4096 bs 110 (by decide) (by decide) (by decide) h1 w h (.inr ⟨rfl, by rw [hs]; omega, by rw [hs]; omega⟩)).mono ?_
      rintro e w1 ⟨rfl, k, r⟩
      exact ⟨110, by decide, rfl, k, r⟩
set_option maxRecDepth 100000 in
set_option maxHeartbeats 2000000 in
theorem lay_no (g4 g5 p : Nat) (v u : Value) (f : Int) (a k s : Nat) (bs : List UInt8) (Bs : List Value) (T : List Res) (w0 w : World) (hk : k ≤ 1073741824) (hs : num ((bs.drop a).take 2) = s) (hno : bs.length < a + 2 ∨ (a + 2 ≤ bs.length ∧ (4096 < s ∨ bs.length < a + 2 + s)))
    (S : Held w0 w (rrR p v a bs :: blkR g4 76 #[.pointer (some ⟨p, 0, none⟩)] :: blkR g5 24 #[.int .i64 f, u] :: rowR 25 1 u k Bs :: T)) :
    Calls Try.prog 46 #[.pointer (some ⟨g4, 0, none⟩), .pointer (some ⟨g5, 0, none⟩)] w fun e w' => e = .returned (.bool false) ∧ Held w0 w' T := by
  obtain ⟨i0, hi, hz0, hz1, hz2⟩ := info_parts Try.infoBytes
  have HS := Lib.hid S
  have HL := Lib.hid (list_no15 p v a s bs w (S.at_ (l1 := [])) hs hno)
  obtain ⟨c1, _, _⟩ := Blk.c1 (S.at_ (l1 := [_]))
  clear S hs hno
  go_enter Try.func46, Try.ntmps46
  go_wp2_with fail
  refine HL.out.mono ?_
  rintro e w1 ⟨er, her, rfl, k1, r1⟩
  have hz : (er == 0) = false := by simpa using her
  have S2 := Lib.hid (HS.out.rturn (l1 := []) r1 k1)
  obtain ⟨d0, d1, _, _, _⟩ := Blk.c2 (S2.out.at_ (l1 := [_, _]))
  have S3 := Lib.hid (S2.out.alloc (.cells #[.slice none 0 0] 25))
  have HR := Lib.hid (rd_new w1 25 (.slice none 0 0))
  clear c1 k1 r1 HL
  go_wp2_with (at_builtin; refine wpList_app _ rfl (.tmp 11) (.tmp 13) _ rfl 25 i0 _ 1 24 Try.underlying22 hi hz0 hz1 hz2 rfl (by decide) u k Bs rfl (S3.out.at_ (l1 := [_, _, _])) (.slice (some ⟨w1.heap.size, 0, none⟩) 1 1) 1 [.slice none 0 0] rfl HR.out (by simp [Value.oneCell']) (by unfold maxLen; omega) (by omega) ?_; intro v7 w7 o7 g7 h7; have S7 := Lib.hid (S3.out.grow (l1 := [_, _, _]) o7 g7 h7); obtain ⟨A7, c7, hv7, hcc, _⟩ := ow_form o7; subst hv7; obtain ⟨d0, d1, d2, d3, d4⟩ := Blk.c2 (S7.out.at_ (l1 := [_, _])); clear o7 g7 h7)
  go_ret
  have S8 := S7.out.set (l1 := [_, _]) 1 (.slice A7 (k + 1) c7)
  exact ⟨rfl, S8.drop.drop.drop.drop⟩
def RB (b : List UInt8) : Int × List (List UInt8) := (readB b).getD (0, [])
def RE (b : List UInt8) : Nat := if (readB b).isSome then 0 else 250
theorem RB_none {b : List UInt8} (h : readB b = none) : RB b = (0, []) ∧ RE b = 250 := by unfold RB RE; rw [h]; exact ⟨rfl, rfl⟩
theorem RB_some {b : List UInt8} {f : Int} {L : List (List UInt8)} (h : readB b = some (f, L)) : RB b = (f, L) ∧ RE b = 0 := by unfold RB RE; rw [h]; exact ⟨rfl, rfl⟩
def ReadPost15 (k : IntKind) (b : List UInt8) (w : World) (e : Ending) (w' : World) : Prop :=
  ∃ v Bs, e = .returned (.tuple #[.agg #[.int .i64 (RB b).1, v], .int k (RE b : Int)]) ∧ (RB b).2.length = Bs.length ∧ Held w w' (rowR 25 1 v (RB b).2.length Bs :: textR (RB b).2 Bs)
theorem cnt_lt (b : List UInt8) : cntB b < 65536 := by
  have h := num_lt ((b.drop 8).take 2)
  have hl : ((b.drop 8).take 2).length ≤ 2 := List.length_take_le _ _
  unfold cntB
  have : 256 ^ ((b.drop 8).take 2).length ≤ 256 ^ 2 := Nat.pow_le_pow_right (by decide) hl
  omega
def FRR (g2 : Nat) (U : Nat → Value) : Array Value := #[U 0, U 1, .pointer (some ⟨g2, 0, none⟩), U 3, U 4, U 5, U 6, U 7, U 8, U 9, U 10, U 11, U 12, U 13, U 14, U 15, U 16, U 17, U 18, U 19, U 20, U 21, U 22, U 23, U 24, U 25, U 26, U 27, U 28, U 29, U 30, U 31, U 32, U 33, U 34, U 35, U 36, U 37, U 38, U 39, U 40, U 41, U 42, U 43, U 44, U 45]
/-- What holds where entry.Read jumps to its end. -/
def JR (w : World) (b : List UInt8) (g2 : Nat) (a : Act) (W : World) : Prop :=
  (a.defers = [] ∧ a.tmps = FRR g2 (fun i => a.tmps.getD i undef)) ∧ Held w W [blkR g2 24 #[.int .i64 0, .slice none 0 0]] ∧ readB b = none
theorem readPost_none {k : IntKind} {b : List UInt8} {w W : World} {L : List Res} (h : readB b = none) (S : Held w W L) : ReadPost15 k b w (.returned (.tuple #[.agg #[.int .i64 0, .slice none 0 0], .int k 250])) W := by
  obtain ⟨h1, h2⟩ := RB_none h
  refine ⟨.slice none 0 0, [], by rw [h1, h2]; rfl, by rw [h1]; rfl, ?_⟩
  rw [h1]
  exact (S.sub (List.nil_sublist _)).rownew (World.ownsRow_nil _ _ _ _) (Kp.refl [] W) (by simp [Value.ownBlock])
theorem jump_ret {l : Nat} {J : Act → World → Prop} {Q : Exit → Act → World → Prop} {a : Act} {w : World} (h : Q .ret a w) : Exit.jump l J Q .ret a w := h
theorem jump_goto {l : Nat} {J : Act → World → Prop} {Q : Exit → Act → World → Prop} {a : Act} {w : World} (h : J a w) : Exit.jump l J Q (.goto l) a w := ⟨rfl, h⟩
set_option maxRecDepth 100000 in
set_option maxHeartbeats 4000000 in
theorem read15_any (x : Value) (b : List UInt8) (w : World) (hx : Rd w 1 x b.length (bv b)) (hn : b.length ≤ 140737488355200) :
    Calls Try.prog 19 #[x] w (ReadPost15 .i64 b w) := by
  have Hx := Lib.hid hx
  have S0 := Lib.hid ((Held.start w).newBlk 24 #[.int .i64 0, .slice none 0 0])
  clear hx
  go_enter Try.func19, Try.ntmps19
  go_wp2_with fail
  obtain ⟨g2, hg2⟩ : ∃ g2, w.heap.size = g2 := ⟨_, rfl⟩
  rw [hg2] at S0 ⊢
  refine wp_scope_jumps 0 (JR w b g2) (fun _ _ => 0) rfl ?first ?pass
  case pass =>
    rintro ⟨tmps, dfs⟩ W ⟨⟨hD, hT⟩, S, hno⟩
    simp only at hD hT
    subst hD
    generalize (fun i => tmps.getD i undef) = U at hT
    subst hT
    unfold FRR
    have HS := Lib.hid S
    have Hno := Lib.hid hno
    obtain ⟨c0, c1, c2, c3, c4⟩ := Blk.c2 (S.at_ (l1 := []))
    clear S hno S0
    go_wp2
    have S2 := (HS.out.set (l1 := []) 0 (.int .i64 0)).set (l1 := []) 1 (.slice none 0 0)
    obtain ⟨c0, c1, c2, c3, c4⟩ := Blk.c2 (S2.at_ (l1 := []))
    refine jump_ret ?_
    refine bodyPost_ret (v := .tuple #[.agg #[.int .i64 0, .slice none 0 0], .int .i64 250]) (by simp [results, Try.f19, go_sem, c0, c1]) rfl ?_
    exact readPost_none Hno.out S2
  case first =>
    go_wp2_with fail
    refine (new_reader x b _ (rd_old Hx.out S0.out.k) (by omega)).mono ?_
    rintro e w1 ⟨p, v, rfl, hp, hr, hv, k1⟩
    have S1 := ((S0.out.new (rrR p v 0 b) k1 hr (fun q hq => by
      rcases List.mem_cons.1 hq with rfl | hq
      · exact hp
      · exact hv q (by simpa using hq))).newBlk 76 #[.pointer (some ⟨p, 0, none⟩)]).newBlk 24 #[.int .i64 0, .slice none 0 0]
    rw [World.size_alloc] at S1
    clear hp hr hv k1
    go_wp2_with fail
    obtain ⟨g4, hg4⟩ : ∃ g4, w1.heap.size = g4 := ⟨_, rfl⟩
    obtain ⟨g5, hg5⟩ : ∃ g5, g4 + 1 = g5 := ⟨_, rfl⟩
    rw [hg4, hg5] at S1 ⊢
    obtain ⟨W1, hW1⟩ : ∃ W1, (w1.alloc (.cells #[.pointer (some ⟨p, 0, none⟩)] 76)).alloc (.cells #[.int .i64 0, .slice none 0 0] 24) = W1 := ⟨_, rfl⟩
    rw [hW1] at S1 ⊢
    have S1 := Lib.hid (show Held w W1 (rrR p v 0 b :: blkR g4 76 #[.pointer (some ⟨p, 0, none⟩)] :: blkR g5 24 #[.int .i64 0, .slice none 0 0] :: [blkR g2 24 #[.int .i64 0, .slice none 0 0]]) from
      S1.perm ((List.perm_append_comm (l₁ := [_, _]) (l₂ := [_])).append_right [_] |>.trans (List.Perm.cons _ (List.Perm.swap _ _ _))))
    clear hW1 hg5 hg4
    by_cases h8 : b.length < 8
    · have Hno := Lib.hid (readB_short (b := b) (by omega))
      refine (r_signed_end p v 0 b (by omega) _ (S1.out.at_ (l1 := []))).mono ?_
      rintro e w2 ⟨rfl, k2⟩
      have S2 := Lib.hid ((S1.out.kp k2).drop.drop.drop)
      clear k2
      go_wp2_with fail
      go_step3
      exact ⟨rfl, ⟨rfl, rfl⟩, S2.out, Hno.out⟩
    · refine (r_signed p v 0 b (by omega) _ (S1.out.at_ (l1 := []))).mono ?_
      obtain ⟨f, HF⟩ : ∃ f, Hid (sgn (b.take 8) = f) := ⟨_, Lib.hid rfl⟩
      rw [show wrap64 (num ((b.drop 0).take 8) : Int) = f from HF.out]
      rintro e w2 ⟨rfl, k2, r2⟩
      have S2 := S1.out.rturn (l1 := []) r2 k2
      clear k2 r2
      obtain ⟨c1, _, _⟩ := Blk.c1 (S2.at_ (l1 := [_]))
      obtain ⟨d0, d1, d2, d3, d4⟩ := Blk.c2 (S2.at_ (l1 := [_, _]))
      have S3 := S2.set (l1 := [_, _]) 0 (.int .i64 f)
      obtain ⟨c1, _, _⟩ := Blk.c1 (S3.at_ (l1 := [_]))
      have S3 := Lib.hid S3
      have hf : -9223372036854775808 ≤ f ∧ f ≤ 9223372036854775807 := by rw [← HF.out]; unfold sgn wrap64; omega
      clear S2
      go_wp2_with fail
      obtain ⟨W2, hW2⟩ : ∃ W2, w2.setCell ⟨g5, 0, none⟩ (.int .i64 f) = W2 := ⟨_, rfl⟩
      rw [hW2] at S3 c1 ⊢
      clear hW2 d0 d1 d2 d3 d4
      by_cases h10 : b.length < 10
      · have Hno := Lib.hid (readB_short (b := b) h10)
        refine (take_u16_end p v 8 b _ (S3.out.at_ (l1 := [])) (by omega)).mono ?_
        rintro e w3 ⟨rfl, k3⟩
        have S4 := Lib.hid ((S3.out.kp k3).drop.drop.drop)
        clear k3
        go_wp2_with fail
        go_step3
        exact ⟨rfl, ⟨rfl, rfl⟩, S4.out, Hno.out⟩
      · have h10' : 10 ≤ b.length := by omega
        refine (take_u16 p v 8 b _ (S3.out.at_ (l1 := [])) (by omega)).mono ?_
        have hcn := cnt_lt b
        obtain ⟨n, HN⟩ : ∃ n, Hid (cntB b = n) := ⟨_, Lib.hid rfl⟩
        rw [HN.out] at hcn
        rw [show num ((b.drop 8).take 2) = n from HN.out]
        rintro e w3 ⟨rfl, k3, r3⟩
        have S4 := Lib.hid (S3.out.rturn (l1 := []) r3 k3)
        clear k3 r3 c1
        go_wp2
        go_loopw [30] (fun i wr => ∃ (k at_ : Nat) (L : List (List UInt8)) (u : Value) (Bs : List Value), k ≤ n ∧ i = .int .u16 k ∧ Hid (stN b k = some (L, at_)) ∧ Bs.length = k ∧ L.length = k ∧ Held w wr (rrR p v at_ b :: blkR g4 76 #[.pointer (some ⟨p, 0, none⟩)] :: blkR g5 24 #[.int .i64 f, u] :: rowR 25 1 u k Bs :: blkR g2 24 #[.int .i64 0, .slice none 0 0] :: textR L Bs)) (fun i _ => n - (intOf i).toNat)
        case atStart =>
          refine ⟨0, 10, [], .slice none 0 0, [], by omega, rfl, Lib.hid rfl, rfl, rfl, ?_⟩
          have := (S4.out.rownew (World.ownsRow_nil _ 0 25 1) (Kp.refl [] _) (by simp [Value.ownBlock]))
          exact this.perm ((List.Perm.swap _ _ _).trans (List.Perm.cons _ ((List.Perm.swap _ _ _).trans (List.Perm.cons _ (List.Perm.swap _ _ _)))))
        case round =>
          clear S4
          obtain ⟨k, at_, L, u, Bs, hk, rfl, Hst, hBs, hLk, S⟩ := hrel
          have HS := Lib.hid S
          have HBs := Lib.hid hBs
          have HLk := Lib.hid hLk
          clear S hBs hLk
          by_cases hlt : k < n
          · obtain ⟨s, Hs⟩ : ∃ s, Hid (num ((b.drop at_).take 2) = s) := ⟨_, Lib.hid rfl⟩
            have Hsu := Lib.hid (stN_succ Hst.out)
            by_cases hg : at_ + 2 ≤ b.length ∧ s ≤ 4096 ∧ at_ + 2 + s ≤ b.length
            · have hsn : Hid (stN b (k + 1) = some (L ++ [(b.drop (at_ + 2)).take s], at_ + 2 + s)) := Lib.hid (by
                rw [Hsu.out, Hs.out, if_neg (by omega), if_neg (by omega)])
              go_wp2_with fail
              refine (lay_ok g4 g5 p v u f at_ k s b Bs _ w _ (by omega) hg.1 Hs.out hg.2.1 hg.2.2 HS.out).mono ?_
              rintro e w4 ⟨rfl, u', B, S5⟩
              have S5 := Lib.hid S5
              go_wp2
              go_roundw
              case rel =>
                refine ⟨k + 1, at_ + 2 + s, _, u', Bs ++ [B], by omega, by go_num, hsn, by simp [HBs.out], by simp [HLk.out], ?_⟩
                rw [textR_snoc _ _ _ _ (by rw [HLk.out, HBs.out])]
                have hl : ((b.drop (at_ + 2)).take s).length = s := by rw [List.length_take, List.length_drop]; omega
                rw [hl]
                refine S5.out.perm (List.Perm.cons _ (List.Perm.cons _ (List.Perm.cons _ (List.Perm.cons _ ?_))))
                exact (List.Perm.swap _ _ _).trans (List.Perm.cons _ (List.perm_append_singleton _ _).symm)
              case measure => simp [intOf]; omega
            · have Hno : Hid (readB b = none) := Lib.hid (by
                by_cases h1 : b.length < at_ + 2
                · exact readB_stop h10' (show k + 1 ≤ cntB b by rw [HN.out]; omega) (by rw [Hsu.out, if_pos h1])
                · by_cases h2 : b.length < at_ + 2 + s
                  · exact readB_stop h10' (show k + 1 ≤ cntB b by rw [HN.out]; omega) (by rw [Hsu.out, if_neg h1, Hs.out, if_pos h2])
                  · exact readB_long h10' (show k < cntB b by rw [HN.out]; omega) Hst.out (by rw [Hs.out]; omega))
              go_wp2_with fail
              refine (lay_no g4 g5 p v u f at_ k s b Bs _ w _ (by omega) Hs.out (by omega) HS.out).mono ?_
              rintro e w4 ⟨rfl, S5⟩
              have S5 := Lib.hid (S5.sub (.cons_cons _ (List.nil_sublist _)))
              go_wp2_with fail
              go_step3
              exact ⟨rfl, ⟨rfl, rfl⟩, S5.out, Hno.out⟩
          · obtain rfl : k = n := by omega
            have hend : readB b = if at_ = b.length ∧ chk f L = 0 then some (f, L) else none := by
              have := readB_end h10' (L := L) (at_ := at_) (by rw [HN.out]; exact Hst.out)
              rwa [HF.out] at this
            have Hend := Lib.hid hend
            have hle : at_ ≤ b.length := (stN_form h10' _ _ _ Hst.out).2.2.1
            obtain ⟨cc, _, _⟩ := Blk.c1 (HS.out.at_ (l1 := [_]))
            clear hend
            go_wp2_with fail
            refine (r_end p v at_ b _ (HS.out.at_ (l1 := []))).mono ?_
            by_cases he : at_ < b.length
            · have Hno := Lib.hid (show readB b = none from by rw [Hend.out, if_neg]; rintro ⟨h, _⟩; omega)
              rw [if_pos he]
              rintro e w4 ⟨rfl, n4, rfl⟩
              have S5 := Lib.hid (((HS.out.kp ((Kp.refl [] wr).drewN n4)).drop.drop.drop.drop).sub (.cons_cons _ (List.nil_sublist _)))
              obtain ⟨c0, c1, c2, c3, c4⟩ := Blk.c2 (S5.out.at_ (l1 := []))
              go_wp2
              go_step3
              go_wp2
              have S6 := (S5.out.set (l1 := []) 0 (.int .i64 0)).set (l1 := []) 1 (.slice none 0 0)
              obtain ⟨c0, c1, c2, c3, c4⟩ := Blk.c2 (S6.at_ (l1 := []))
              refine jump_ret ?_
              refine bodyPost_ret (v := .tuple #[.agg #[.int .i64 0, .slice none 0 0], .int .i64 250]) (by simp [results, Try.f19, go_sem, c0, c1]) rfl ?_
              exact readPost_none Hno.out S6
            · obtain rfl : at_ = b.length := by omega
              rw [if_neg he]
              rintro e w4 ⟨rfl, n4, rfl⟩
              have S5 := Lib.hid (HS.out.kp ((Kp.refl [] wr).drewN n4))
              have hTx : Txs (wr.drewN n4) u L := texts_of (by rw [HLk.out, HBs.out]) (L1 := [_, _, _]) (by rw [HLk.out]; exact S5.out) (fun r hr => List.mem_cons_of_mem _ hr)
              have HTx := Lib.hid hTx
              obtain ⟨Au, cu, hu, _, _⟩ := ow_form (S5.out.at_ (l1 := [_, _, _]))
              subst hu
              obtain ⟨d0, d1, d2, d3, d4⟩ := Blk.c2 (S5.out.at_ (l1 := [_, _]))
              clear hTx
              go_wp2_with fail
              refine (check_any f hf _ L _ HTx.out).mono ?_
              rintro e w5 ⟨rfl, k5⟩
              have S6 := Lib.hid (S5.out.kp k5)
              obtain ⟨d0, d1, d2, d3, d4⟩ := Blk.c2 (S6.out.at_ (l1 := [_, _]))
              obtain ⟨c0, c1, c2, c3, c4⟩ := Blk.c2 (S6.out.at_ (l1 := [_, _, _, _]))
              clear k5
              by_cases hc : chk f L = 0
              · have HC := Lib.hid (RB_some (f := f) (L := L) (show readB b = some (f, L) by rw [Hend.out]; simp [hc]))
                have hc' : ((chk f L : Nat) : Int) = 0 := by omega
                rw [hc']
                clear hc hc'
                go_wp2
                have S7 := (S6.out.set (l1 := [_, _, _, _]) 0 (.int .i64 f)).set (l1 := [_, _, _, _]) 1 (.slice Au k cu)
                obtain ⟨c0, c1, c2, c3, c4⟩ := Blk.c2 (S7.at_ (l1 := [_, _, _, _]))
                refine jump_ret ?_
                refine bodyPost_ret (v := .tuple #[.agg #[.int .i64 f, .slice Au k cu], .int .i64 0]) (by simp [results, Try.f19, go_sem, c0, c1]) rfl ?_
                refine ⟨.slice Au k cu, Bs, by rw [HC.out.1, HC.out.2]; rfl, by rw [HC.out.1, HLk.out, HBs.out], ?_⟩
                rw [HC.out.1]
                simp only [HLk.out]
                exact S7.drop.drop.drop.sub (.cons_cons _ (.cons _ (List.Sublist.refl _)))
              · have Hno := Lib.hid (show readB b = none from by rw [Hend.out, if_neg]; rintro ⟨_, h⟩; exact hc h)
                have hc' : ¬ ((chk f L : Nat) : Int) = 0 := by omega
                go_wp2
                go_step3
                go_wp2
                have S7 := (S6.out.set (l1 := [_, _, _, _]) 0 (.int .i64 0)).set (l1 := [_, _, _, _]) 1 (.slice none 0 0)
                obtain ⟨c0, c1, c2, c3, c4⟩ := Blk.c2 (S7.at_ (l1 := [_, _, _, _]))
                refine jump_ret ?_
                refine bodyPost_ret (v := .tuple #[.agg #[.int .i64 0, .slice none 0 0], .int .i64 250]) (by simp [results, Try.f19, go_sem, c0, c1]) rfl ?_
                exact readPost_none Hno.out S7
end Go.Proofs.Ytdmdnphbheomoaa
/- The reference's Read. -/
namespace Go.Proofs.Ytdmdnphbheomoaa
open Go.RowKit
set_option maxRecDepth 100000 in
set_option maxHeartbeats 2000000 in
theorem first15_any (x : Value) (b : List UInt8) (w : World) (hx : Rd w 1 x b.length (bv b)) (h8 : 8 ≤ b.length) :
    Calls Try.prog 51 #[x] w fun e w' => e = .returned (.int .i64 (sgn (b.take 8))) ∧ w = w' := by
  obtain ⟨A, c, rfl, hnc, hcm, hA, hat⟩ := rd_get2 hx
  unfold maxLen at hcm
  obtain ⟨ad, rfl⟩ : ∃ ad, A = some ad := by
    cases A with
    | none => have := hA rfl; omega
    | some ad => exact ⟨ad, rfl⟩
  have Hat := Lib.hid (hat ad rfl)
  clear hx hA hat
  go_enter Try.func51, Try.ntmps51
  go_wp2
  go_loop [3, 4] (fun n t => ∃ j : Nat, j ≤ 8 ∧ t = .int .i64 j ∧ n = .int .u64 (num (b.take j))) (fun _ t => 8 - (intOf t).toNat)
  case atStart => exact ⟨0, Nat.zero_le _, rfl, rfl⟩
  case round =>
    obtain ⟨j, hj, rfl, rfl⟩ := hrel
    by_cases hlt : j < 8
    · obtain ⟨q, n, hq, hn, hcell, hnext, hnow⟩ : ∃ q n : Nat, q < 256 ∧ n < 72057594037927936 ∧ w.cell? (ad.add j) = some (.int .u8 (q : Int)) ∧ num (b.take (j + 1)) = 256 * n + q ∧ num (b.take j) = n := by
        refine ⟨b[j].toNat, num (b.take j), b[j].toNat_lt, ?_, Hat.out j (by omega), num_take b j (by omega), rfl⟩
        have h1 := num_lt (b.take j)
        rw [List.length_take, Nat.min_eq_left (by omega)] at h1
        have : 256 ^ j ≤ 256 ^ 7 := Nat.pow_le_pow_right (by omega) (by omega)
        omega
      rw [hnow]
      have Hnext := Lib.hid hnext
      have hlb : j < b.length := by omega
      clear hnext hnow
      go_wp2
      go_round
      case rel => exact ⟨j + 1, by omega, by go_num, by rw [Hnext.out]; simp; omega⟩
      case measure => simp [intOf]; omega
    · obtain rfl : j = 8 := by omega
      go_wp2
      go_ret
      exact ⟨rfl, rfl⟩
set_option maxRecDepth 100000 in
set_option maxHeartbeats 4000000 in
theorem rread15_any (x : Value) (b : List UInt8) (w : World) (hx : Rd w 1 x b.length (bv b)) (hn : b.length ≤ 140737488355200) :
    Calls Try.prog 20 #[x] w (ReadPost15 .i64 b w) := by
  have Hx := Lib.hid hx
  obtain ⟨A, c, rfl, hnc, hcm, hA, hat⟩ := rd_get2 hx
  unfold maxLen at hcm
  have HA := Lib.hid hA
  have Hat := Lib.hid hat
  have S0 := Lib.hid ((Held.start w).newBlk 24 #[.int .i64 0, .slice none 0 0])
  clear hx hA hat
  by_cases h10 : b.length < 10
  · have Hno := Lib.hid (readB_short h10)
    obtain ⟨c0, c1, c2, c3, c4⟩ := Blk.c2 (S0.out.at_ (l1 := []))
    go_enter Try.func20, Try.ntmps20
    go_wp2
    refine bodyPost_ret (v := .tuple #[.agg #[.int .i64 0, .slice none 0 0], .int .i64 250]) (by simp [results, Try.f20, go_sem, c0, c1]) rfl ?_
    exact readPost_none Hno.out S0.out
  · have h10' : 10 ≤ b.length := by omega
    obtain ⟨ad, rfl⟩ : ∃ ad, A = some ad := by
      cases A with
      | none => have := HA.out rfl; omega
      | some ad => exact ⟨ad, rfl⟩
    obtain ⟨f, HF⟩ : ∃ f, Hid (sgn (b.take 8) = f) := ⟨_, Lib.hid rfl⟩
    have hf : -9223372036854775808 ≤ f ∧ f ≤ 9223372036854775807 := by rw [← HF.out]; unfold sgn wrap64; omega
    go_enter Try.func20, Try.ntmps20
    go_wp2_with fail
    refine (first15_any _ b _ (rd_old Hx.out S0.out.k) (by omega)).mono ?_
    rintro e w' ⟨rfl, rfl⟩
    rw [HF.out]
    have S1 := Lib.hid (S0.out.newBlk 24 #[.int .i64 f, .slice none 0 0])
    rw [World.size_alloc] at S1
    go_wp2
    obtain ⟨g2, hg2⟩ : ∃ g2, w.heap.size = g2 := ⟨_, rfl⟩
    obtain ⟨g4, hg4⟩ : ∃ g4, g2 + 1 = g4 := ⟨_, rfl⟩
    rw [hg2, hg4] at S1 ⊢
    obtain ⟨W1, hW1⟩ : ∃ W1, (w.alloc (.cells #[.int .i64 0, .slice none 0 0] 24)).alloc (.cells #[.int .i64 f, .slice none 0 0] 24) = W1 := ⟨_, rfl⟩
    rw [hW1] at S1 ⊢
    clear hW1 hg2 hg4
    have Hcell := Lib.hid (fun V (kk : Kp [] w V) i (hi : i < b.length) => cell_kept (Hat.out ad rfl i hi) kk)
    have HC : ∀ at_, at_ + 2 ≤ b.length → ∃ q r : Nat, q < 256 ∧ r < 256 ∧ Hid (∀ V, Kp [] w V → V.cell? (ad.add at_) = some (.int .u8 (q : Int)) ∧ V.cell? (ad.add (at_ + 1)) = some (.int .u8 (r : Int))) ∧ Hid (256 * q + r = num ((b.drop at_).take 2)) := fun at_ h => by
      refine ⟨b[at_].toNat, b[at_ + 1].toNat, b[at_].toNat_lt, b[at_ + 1].toNat_lt, Lib.hid (fun V kk => ⟨Hcell.out V kk at_ (by omega), Hcell.out V kk (at_ + 1) (by omega)⟩), Lib.hid ?_⟩
      rw [List.drop_eq_getElem_cons (by omega), List.drop_eq_getElem_cons (i := at_ + 1) (by omega), List.take_succ_cons, List.take_succ_cons, List.take_zero]
      simp [num]
    have HC := Lib.hid HC
    obtain ⟨q8, q9, hq8, hq9, H89, Hqq⟩ := HC.out 8 h10'
    obtain ⟨n, HN⟩ : ∃ n, Hid (cntB b = n) := ⟨_, Lib.hid rfl⟩
    have Hqn : Hid (256 * q8 + q9 = n) := Lib.hid (by rw [← HN.out]; exact Hqq.out)
    have hl8 : 8 < b.length := by omega
    have hl9 : 9 < b.length := by omega
    clear Hqq
    refine wp_region_lexf [] [] (fun V : World => Held w V [blkR g4 24 #[.int .i64 f, .slice none 0 0], blkR g2 24 #[.int .i64 0, .slice none 0 0]]) (by kernel_rfl) (by kernel_rfl) (S1.out.kp ((Kp.refl [] _).drew)) (fun σ hne fw hf hsur => ?_); have Hsur := Lib.hid hsur; clear hsur
    have d8 : ∀ y, (fw y).cell? { block := ad.block, off := ad.off + 8 } = some (.int .u8 (q8 : Int)) := fun y => by have := (H89.out _ (hf y).k).1; first | exact this | simpa [Addr.add] using this
    have d9 : ∀ y, (fw y).cell? { block := ad.block, off := ad.off + 9 } = some (.int .u8 (q9 : Int)) := fun y => by have := (H89.out _ (hf y).k).2; first | exact this | simpa [Addr.add] using this
    clear hf
    go_wp2_with (first | (refine lex_qq Hsur.out rfl rfl rfl ?_; intro K hK; go_big_quiet_op; go_big_quiet_on) | (refine lex_skipk rfl ?_; intro K hK; go_simp; refine hK _ _ ?_; clear hK K) | (refine lex_e rfl rfl ?_; intro K hK; go_step) | (refine lex_nil ?_))
    rw [show (256 * (q8 : Int) + (q9 : Int)) = (n : Int) from by have := Hqn.out; omega]
    have S2 := Lib.hid ((S1.out.kp ((Kp.refl [] _).drew)).rownew (World.ownsRow_nil _ 0 25 1) (Kp.refl [] _) (by simp [Value.ownBlock]))
    have hcn := cnt_lt b
    rw [HN.out] at hcn
    generalize W1.drew = W2 at *
    clear S1 H89 hq8 hq9 Hqn
    go_loopw [6, 7] (fun a i wr => ∃ (k at_ : Nat) (L : List (List UInt8)) (u : Value) (Bs : List Value), k ≤ n ∧ a = .int .i64 at_ ∧ i = .int .i64 k ∧ at_ ≤ b.length ∧ Hid (stN b k = some (L, at_)) ∧ Bs.length = k ∧ L.length = k ∧ Held w wr (blkR g4 24 #[.int .i64 f, u] :: rowR 25 1 u k Bs :: blkR g2 24 #[.int .i64 0, .slice none 0 0] :: textR L Bs)) (fun _ i _ => n - (intOf i).toNat)
    case atStart => exact ⟨0, 10, [], .slice none 0 0, [], by omega, rfl, rfl, h10', Lib.hid rfl, rfl, rfl, S2.out.perm (List.Perm.swap _ _ _)⟩
    case round =>
      clear S2
      obtain ⟨k, at_, L, u, Bs, hk, rfl, rfl, hal, Hst, hBs, hLk, S⟩ := hrel
      have HS := Lib.hid S
      have HBs := Lib.hid hBs
      have HLk := Lib.hid hLk
      obtain ⟨Au, cu, hu, _, _⟩ := ow_form (S.at_ (l1 := [_]))
      subst hu
      obtain ⟨c0, c1, c2, c3, c4⟩ := Blk.c2 (S.at_ (l1 := [_, _]))
      obtain ⟨d0, d1, d2, d3, d4⟩ := Blk.c2 (S.at_ (l1 := []))
      clear S hBs hLk
      by_cases hlt : k < n
      · have Hsu := Lib.hid (stN_succ Hst.out)
        by_cases h1 : b.length < at_ + 2
        · have Hno : Hid (readB b = none) := Lib.hid (readB_stop h10' (show k + 1 ≤ cntB b by rw [HN.out]; omega) (by rw [Hsu.out, if_pos h1]))
          have h1' : (b.length : Int) < (at_ : Int) + 2 := by omega
          go_wp2
          have S7 := (HS.out.set (l1 := [_, _]) 0 (.int .i64 0)).set (l1 := [_, _]) 1 (.slice none 0 0)
          obtain ⟨c0, c1, c2, c3, c4⟩ := Blk.c2 (S7.at_ (l1 := [_, _]))
          refine bodyPost_ret (v := .tuple #[.agg #[.int .i64 0, .slice none 0 0], .int .i64 250]) (by simp [results, Try.f20, go_sem, c0, c1]) rfl ?_
          exact readPost_none Hno.out S7
        · have h1' : ¬ (b.length : Int) < (at_ : Int) + 2 := by omega
          obtain ⟨q, r, hq, hr, Hqr, Hnm⟩ := HC.out at_ (by omega)
          obtain ⟨s, Hs⟩ : ∃ s, Hid (num ((b.drop at_).take 2) = s) := ⟨_, Lib.hid rfl⟩
          have Hqs : Hid (256 * q + r = s) := Lib.hid (by rw [← Hs.out]; exact Hnm.out)
          have hla : at_ < b.length := by omega
          have hlb : at_ + 1 < b.length := by omega
          have hidx : ((at_ : Int) + 1).toNat = at_ + 1 := by omega
          clear Hnm
          by_cases h2 : b.length < at_ + 2 + s
          · have Hno : Hid (readB b = none) := Lib.hid (readB_stop h10' (show k + 1 ≤ cntB b by rw [HN.out]; omega) (by rw [Hsu.out, if_neg h1, Hs.out, if_pos h2]))
            have h2' : (b.length : Int) < (at_ : Int) + 2 + (256 * (q : Int) + (r : Int)) := by have := Hqs.out; omega
            have TS := Lib.hid (HS.out.kp ((Kp.refl [] _).drew))
            obtain ⟨c0, c1, c2, c3, c4⟩ := Blk.c2 (TS.out.at_ (l1 := [_, _]))
            go_wp2
            refine wp_region_lexf [] [] (fun V : World => Held w V (blkR g4 24 #[.int .i64 f, .slice Au k cu] :: rowR 25 1 (.slice Au k cu) k Bs :: blkR g2 24 #[.int .i64 0, .slice none 0 0] :: textR L Bs)) (by kernel_rfl) (by kernel_rfl) TS.out (fun σ hne fw hf hsur => ?_); have Hsur := Lib.hid hsur; clear hsur
            have e8 := fun y => (Hqr.out _ (hf y).k).1
            have e9 : ∀ y, (fw y).cell? { block := ad.block, off := ad.off + (at_ + 1) } = some (.int .u8 (r : Int)) := fun y => by have := (Hqr.out _ (hf y).k).2; first | exact this | simpa [Addr.add] using this
            clear hf
            go_wp2_with (first | (refine lex_qq Hsur.out rfl rfl rfl ?_; intro K hK; go_big_quiet_op; go_big_quiet_on) | (refine lex_skipk rfl ?_; intro K hK; go_simp; refine hK _ _ ?_; clear hK K) | (refine lex_e rfl rfl ?_; intro K hK; go_step) | (refine lex_nil ?_))
            have S7 := ((HS.out.set (l1 := [_, _]) 0 (.int .i64 0)).set (l1 := [_, _]) 1 (.slice none 0 0)).kp ((Kp.refl [] _).drew)
            obtain ⟨c0, c1, c2, c3, c4⟩ := Blk.c2 (S7.at_ (l1 := [_, _]))
            refine bodyPost_ret (v := .tuple #[.agg #[.int .i64 0, .slice none 0 0], .int .i64 250]) (by simp [results, Try.f20, go_sem, c0, c1]) rfl ?_
            exact readPost_none Hno.out S7
          · have hsn : Hid (stN b (k + 1) = some (L ++ [(b.drop (at_ + 2)).take s], at_ + 2 + s)) := Lib.hid (by rw [Hsu.out, if_neg h1, Hs.out, if_neg h2])
            have h2' : ¬ (b.length : Int) < (at_ : Int) + 2 + (256 * (q : Int) + (r : Int)) := by have := Hqs.out; omega
            obtain ⟨xs, Hxs⟩ : ∃ xs, Hid ((b.drop (at_ + 2)).take s = xs) := ⟨_, Lib.hid rfl⟩
            have hxl : xs.length = s := by rw [← Hxs.out, List.length_take, List.length_drop]; omega
            obtain ⟨A9, c9, run9', rd9, _⟩ := cut_lh (some ad) b.length c (at_ + 2) s ((at_ : Int) + 2) ((at_ : Int) + 2 + (256 * (q : Int) + (r : Int))) (by omega) (by have := Hqs.out; omega) (by omega) hnc
            have run9 := Lib.hid run9'
            have RX : Hid (∀ V, Kp [] w V → Rd V 1 (.slice A9 s c9) s (bv xs)) := Lib.hid (fun V kk => by rw [← Hxs.out]; exact rd9 V b (rd_old Hx.out kk))
            have TS := Lib.hid (HS.out.kp ((Kp.refl [] _).drew))
            have Hxl := Lib.hid hxl
            clear rd9 run9' hxl
            go_wp2
            refine wp_region_lexf [] [] (fun V : World => Held w V (blkR g4 24 #[.int .i64 f, .slice Au k cu] :: rowR 25 1 (.slice Au k cu) k Bs :: blkR g2 24 #[.int .i64 0, .slice none 0 0] :: textR L Bs)) (by kernel_rfl) (by kernel_rfl) TS.out (fun σ hne fw hf hsur => ?_); have Hsur := Lib.hid hsur; clear hsur
            have e8 := fun y => (Hqr.out _ (hf y).k).1
            have e9 : ∀ y, (fw y).cell? { block := ad.block, off := ad.off + (at_ + 1) } = some (.int .u8 (r : Int)) := fun y => by have := (Hqr.out _ (hf y).k).2; first | exact this | simpa [Addr.add] using this
            clear hf
            go_wp2_with (first | (refine lex_qq Hsur.out rfl rfl rfl ?_; intro K hK; go_big_quiet_op; go_big_quiet_on) | (refine lex_skipk rfl ?_; intro K hK; go_simp; refine hK _ _ ?_; clear hK K) | (refine lex_e rfl rfl ?_; intro K hK; go_step) | (refine lex_nil ?_))
            generalize wr.drew = wS at *
            clear HS
            have HS := TS
            -- SEP rread15
            refine wp_region_sep (Γ := Unit) 3 [0, 1, 2, 3, 4, 5, 6, 7, 8, 9, 10, 11, 12, 13, 14, 17]
              (fun i vs gs => match i with | 0 => vs 0 = .pointer (some ⟨g4, 1, none⟩) | 1 => vs 1 = .slice Au k cu | 2 => vs 2 = .slice (some ad) b.length c | 3 => vs 3 = .int .i64 (at_ : Int) | 4 => vs 4 = .int .i64 ((at_ : Int) + 2) | 5 => vs 5 = .int .i64 (at_ : Int) | 6 => vs 6 = .int .i64 ((at_ : Int) + 2) | 7 => vs 7 = .int .i64 (256 * (q : Int) + (r : Int)) | 8 => vs 8 = .int .i64 ((at_ : Int) + 2 + (256 * (q : Int) + (r : Int))) | 9 => vs 9 = .slice A9 s c9 | 10 => ∃ A c, vs 10 = .slice A s c | 12 => ∃ A c, vs 12 = .slice A (k + 1) c | 13 => vs 13 = .pointer (some ⟨g4, 1, none⟩) | _ => True)
              (fun i vs gs => match i with | 10 => [rowR 5 1 (vs 10) s (bv xs)] | 11 => [rowR 25 1 (vs 11) 1 [vs 10]] | 12 => [rowR 25 1 (vs 12) (k + 1) (Bs ++ [vs 10])] | 14 => [blkR g4 24 #[.int .i64 f, vs 12]] | 15 => [blkR g4 24 #[.int .i64 f, .slice Au k cu]] | 16 => [rowR 25 1 (.slice Au k cu) k Bs] | 17 => blkR g2 24 #[.int .i64 0, .slice none 0 0] :: textR L Bs | _ => [])
              (fun i => match i with | 12 => [16] | 14 => [15] | _ => []) (fun i => match i with | 1 => [15] | 12 => [11] | _ => []) HS.out (by kernel_rfl) (by kernel_rfl) (by kernel_rfl) (by kernel_rfl) (fun i => match i with | 0 => [0] | 1 => [1] | 2 => [2] | 3 => [3] | 4 => [4] | 5 => [5] | 6 => [6] | 7 => [7] | 8 => [8] | 9 => [9] | 10 => [10] | 11 => [10, 11] | 12 => [10, 12] | 13 => [13] | 14 => [12] | _ => []) (by kernel_rfl) ?_ (by kernel_rfl) ?_ ?_ ?_
            · intro s vs vs' gs gs' h
              iterate 18 (rcases s with _ | s; · (first | exact ⟨rfl, id⟩ | (simp only [List.mem_cons, List.not_mem_nil, or_false, forall_eq_or_imp, forall_eq] at h; simp [h])))
              exact ⟨rfl, id⟩
            · simp only [List.range, List.range.loop, List.flatMap_cons, List.flatMap_nil, List.append_nil, List.cons_append, List.nil_append]
              exact List.Perm.refl _
            · refine ⟨?_, ?_, ?_, ?_, ?_, ?_, ?_, ?_, ?_, ?_, ?_, ?_, ?_, ?_, ?_, trivial⟩
              · intro vs gs A' W LF hA S hR hd hu K hK
                replace hK := hK default
                have e4 : A'.tmps[4]?.getD undef = .pointer (some ⟨g4, 0, none⟩) := slot_is hA (by kernel_rfl) (Nat.le_of_ble_eq_true (by kernel_rfl)) (by kernel_rfl)
                go_step
                exact hK _ _ S rfl
              · intro vs gs A' W LF hA S hR hd hu K hK
                replace hK := hK default
                have f0 : vs 0 = .pointer (some ⟨g4, 1, none⟩) := hd 0 (by kernel_rfl)
                have e58 : A'.tmps[58]?.getD undef = vs 0 := slot_is hA (by kernel_rfl) (Nat.le_of_ble_eq_true (by kernel_rfl)) (by kernel_rfl)
                rw [f0] at e58
                obtain ⟨q0, q1, q2, q3, q4⟩ := Blk.c2 (S.ok (blkR g4 24 #[.int .i64 f, .slice Au k cu]) (hR 15 (List.mem_singleton.2 rfl) _ (List.mem_singleton.2 rfl)))
                go_step
                exact hK _ _ S rfl
              · intro vs gs A' W LF hA S hR hd hu K hK
                replace hK := hK default
                have e0 : A'.tmps[0]?.getD undef = .slice (some ad) b.length c := slot_is hA (by kernel_rfl) (Nat.le_of_ble_eq_true (by kernel_rfl)) (by kernel_rfl)
                go_step
                exact hK _ _ S rfl
              · intro vs gs A' W LF hA S hR hd hu K hK
                replace hK := hK default
                have e6 : A'.tmps[6]?.getD undef = .int .i64 (at_ : Int) := slot_is hA (by kernel_rfl) (Nat.le_of_ble_eq_true (by kernel_rfl)) (by kernel_rfl)
                go_step
                exact hK _ _ S rfl
              · intro vs gs A' W LF hA S hR hd hu K hK
                replace hK := hK default
                have f3 : vs 3 = .int .i64 (at_ : Int) := hd 3 (by kernel_rfl)
                have e61 : A'.tmps[61]?.getD undef = vs 3 := slot_is hA (by kernel_rfl) (Nat.le_of_ble_eq_true (by kernel_rfl)) (by kernel_rfl)
                rw [f3] at e61
                go_step
                exact hK _ _ S rfl
              · intro vs gs A' W LF hA S hR hd hu K hK
                replace hK := hK default
                have e6 : A'.tmps[6]?.getD undef = .int .i64 (at_ : Int) := slot_is hA (by kernel_rfl) (Nat.le_of_ble_eq_true (by kernel_rfl)) (by kernel_rfl)
                go_step
                exact hK _ _ S rfl
              · intro vs gs A' W LF hA S hR hd hu K hK
                replace hK := hK default
                have f5 : vs 5 = .int .i64 (at_ : Int) := hd 5 (by kernel_rfl)
                have e63 : A'.tmps[63]?.getD undef = vs 5 := slot_is hA (by kernel_rfl) (Nat.le_of_ble_eq_true (by kernel_rfl)) (by kernel_rfl)
                rw [f5] at e63
                go_step
                exact hK _ _ S rfl
              · intro vs gs A' W LF hA S hR hd hu K hK
                replace hK := hK default
                have e8 : A'.tmps[8]?.getD undef = .int .i64 (256 * (q : Int) + (r : Int)) := slot_is hA (by kernel_rfl) (Nat.le_of_ble_eq_true (by kernel_rfl)) (by kernel_rfl)
                go_step
                exact hK _ _ S rfl
              · intro vs gs A' W LF hA S hR hd hu K hK
                replace hK := hK default
                have f6 : vs 6 = .int .i64 ((at_ : Int) + 2) := hd 6 (by kernel_rfl)
                have e64 : A'.tmps[64]?.getD undef = vs 6 := slot_is hA (by kernel_rfl) (Nat.le_of_ble_eq_true (by kernel_rfl)) (by kernel_rfl)
                rw [f6] at e64
                have f7 : vs 7 = .int .i64 (256 * (q : Int) + (r : Int)) := hd 7 (by kernel_rfl)
                have e65 : A'.tmps[65]?.getD undef = vs 7 := slot_is hA (by kernel_rfl) (Nat.le_of_ble_eq_true (by kernel_rfl)) (by kernel_rfl)
                rw [f7] at e65
                go_step
                exact hK _ _ S rfl
              · intro vs gs A' W LF hA S hR hd hu K hK
                replace hK := hK default
                have f2 : vs 2 = .slice (some ad) b.length c := hd 2 (by kernel_rfl)
                have e60 : A'.tmps[60]?.getD undef = vs 2 := slot_is hA (by kernel_rfl) (Nat.le_of_ble_eq_true (by kernel_rfl)) (by kernel_rfl)
                rw [f2] at e60
                have f4 : vs 4 = .int .i64 ((at_ : Int) + 2) := hd 4 (by kernel_rfl)
                have e62 : A'.tmps[62]?.getD undef = vs 4 := slot_is hA (by kernel_rfl) (Nat.le_of_ble_eq_true (by kernel_rfl)) (by kernel_rfl)
                rw [f4] at e62
                have f8 : vs 8 = .int .i64 ((at_ : Int) + 2 + (256 * (q : Int) + (r : Int))) := hd 8 (by kernel_rfl)
                have e66 : A'.tmps[66]?.getD undef = vs 8 := slot_is hA (by kernel_rfl) (Nat.le_of_ble_eq_true (by kernel_rfl)) (by kernel_rfl)
                rw [f8] at e66
                have q := run9.out
                go_step
                exact hK _ _ S rfl
              · intro vs gs A' W LF hA S hR hd hu K hK
                replace hK := hK default
                have f9 : vs 9 = .slice A9 s c9 := hd 9 (by kernel_rfl)
                have e67 : A'.tmps[67]?.getD undef = vs 9 := slot_is hA (by kernel_rfl) (Nat.le_of_ble_eq_true (by kernel_rfl)) (by kernel_rfl)
                rw [f9] at e67
                refine op_app_nil (.const (.slice none 0 0)) (.tmp 67) 25 5 rfl Try.infoU8 Try.underlying25 rfl (by decide) rfl S (.slice A9 s c9) s (bv xs) (by simpa [Act.eval] using e67) (RX.out _ S.k) (bv_one _) (by unfold maxLen; omega) (by omega) (fun v' w' S' => hK v' w' S' ?_)
                obtain ⟨A1, c1, h1, _⟩ := ow_form (S'.at_ (l1 := []))
                exact ⟨A1, c1, h1⟩
              · intro vs gs A' W LF hA S hR hd hu K hK
                replace hK := hK default
                have f10 : ∃ A c, vs 10 = .slice A s c := hd 10 (by kernel_rfl)
                have e68 : A'.tmps[68]?.getD undef = vs 10 := slot_is hA (by kernel_rfl) (Nat.le_of_ble_eq_true (by kernel_rfl)) (by kernel_rfl)
                obtain ⟨A1, c1, hq⟩ := f10
                rw [hq] at e68
                go_step
                have S2 := S.rownew (ow_new W 25 1 1 #[.slice A1 s c1] rfl (by decide)) ((Kp.refl [] W).alloc _) (fun g hg => Nat.le_of_eq (Option.some.inj hg))
                rw [← hq] at S2 ⊢
                exact hK _ _ S2 trivial
              · intro vs gs A' W LF hA S hR hd hu K hK
                replace hK := hK default
                have f1 : vs 1 = .slice Au k cu := hd 1 (by kernel_rfl)
                have e59 : A'.tmps[59]?.getD undef = vs 1 := slot_is hA (by kernel_rfl) (Nat.le_of_ble_eq_true (by kernel_rfl)) (by kernel_rfl)
                rw [f1] at e59
                have e69 : A'.tmps[69]?.getD undef = vs 11 := slot_is hA (by kernel_rfl) (Nat.le_of_ble_eq_true (by kernel_rfl)) (by kernel_rfl)
                have hone : (vs 10).oneCell' = true := by obtain ⟨A, c, h⟩ := (hd 10 (by kernel_rfl) : ∃ A c, vs 10 = .slice A s c); rw [h]; rfl
                refine op_app (.tmp 59) (.tmp 69) 22 25 rfl Try.infoBytes Try.underlying22 rfl (by decide) (.slice Au k cu) k Bs (by simpa [Act.eval] using e59) S (vs 11) 1 [vs 10] (by simpa [Act.eval] using e69) (rd_of_row (e := 25) S (List.mem_cons_of_mem _ (hR 11 (List.mem_singleton.2 rfl) _ (List.mem_singleton.2 rfl)))) (by simpa using hone) (by unfold maxLen; omega) (by omega) (fun v' w' S' => hK v' w' S' ?_)
                obtain ⟨A1, c1, h1, _⟩ := ow_form (S'.at_ (l1 := []))
                exact ⟨A1, c1, h1⟩
              · intro vs gs A' W LF hA S hR hd hu K hK
                replace hK := hK default
                have e4 : A'.tmps[4]?.getD undef = .pointer (some ⟨g4, 0, none⟩) := slot_is hA (by kernel_rfl) (Nat.le_of_ble_eq_true (by kernel_rfl)) (by kernel_rfl)
                go_step
                exact hK _ _ S rfl
              · intro vs gs A' W LF hA S hR hd hu K hK
                replace hK := hK default
                have f13 : vs 13 = .pointer (some ⟨g4, 1, none⟩) := hd 13 (by kernel_rfl)
                have e71 : A'.tmps[71]?.getD undef = vs 13 := slot_is hA (by kernel_rfl) (Nat.le_of_ble_eq_true (by kernel_rfl)) (by kernel_rfl)
                rw [f13] at e71
                have f12 : ∃ A c, vs 12 = .slice A (k + 1) c := hd 12 (by kernel_rfl)
                have e70 : A'.tmps[70]?.getD undef = vs 12 := slot_is hA (by kernel_rfl) (Nat.le_of_ble_eq_true (by kernel_rfl)) (by kernel_rfl)
                have S1 : Held w W (blkR g4 24 #[.int .i64 f, .slice Au k cu] :: LF) := S
                obtain ⟨q0, q1, q2, q3, q4⟩ := Blk.c2 (S1.at_ (l1 := []))
                obtain ⟨A1, c1, hq⟩ := f12
                rw [hq] at e70
                go_step
                refine hK undef _ ?_ trivial
                show Held w _ (blkR g4 24 #[.int .i64 f, vs 12] :: LF)
                rw [hq]
                exact S1.set (l1 := []) 1 (.slice A1 (k + 1) c1)
            · intro vs gs W S hp
              have S : Held w W (rowR 5 1 (vs 10) s (bv xs) :: rowR 25 1 (vs 11) 1 [vs 10] :: rowR 25 1 (vs 12) (k + 1) (Bs ++ [vs 10]) :: blkR g4 24 #[.int .i64 f, vs 12] :: blkR g2 24 #[.int .i64 0, .slice none 0 0] :: textR L Bs) := by simpa only [List.flatMap_cons, List.flatMap_nil, List.append_nil, List.nil_append, List.cons_append, List.append_assoc] using S
              have p0 : vs 0 = .pointer (some ⟨g4, 1, none⟩) := hp 0 (Nat.le_of_ble_eq_true rfl)
              have p1 : vs 1 = .slice Au k cu := hp 1 (Nat.le_of_ble_eq_true rfl)
              have p2 : vs 2 = .slice (some ad) b.length c := hp 2 (Nat.le_of_ble_eq_true rfl)
              have p3 : vs 3 = .int .i64 (at_ : Int) := hp 3 (Nat.le_of_ble_eq_true rfl)
              have p4 : vs 4 = .int .i64 ((at_ : Int) + 2) := hp 4 (Nat.le_of_ble_eq_true rfl)
              have p5 : vs 5 = .int .i64 (at_ : Int) := hp 5 (Nat.le_of_ble_eq_true rfl)
              have p6 : vs 6 = .int .i64 ((at_ : Int) + 2) := hp 6 (Nat.le_of_ble_eq_true rfl)
              have p7 : vs 7 = .int .i64 (256 * (q : Int) + (r : Int)) := hp 7 (Nat.le_of_ble_eq_true rfl)
              have p8 : vs 8 = .int .i64 ((at_ : Int) + 2 + (256 * (q : Int) + (r : Int))) := hp 8 (Nat.le_of_ble_eq_true rfl)
              have p9 : vs 9 = .slice A9 s c9 := hp 9 (Nat.le_of_ble_eq_true rfl)
              have p13 : vs 13 = .pointer (some ⟨g4, 1, none⟩) := hp 13 (Nat.le_of_ble_eq_true rfl)
              have HS2 := Lib.hid S
              obtain ⟨A1, c1', h12⟩ : ∃ A c, vs 12 = .slice A (k + 1) c := hp 12 (Nat.le_of_ble_eq_true rfl)
              have H12 := Lib.hid h12
              clear S hp h12
              simp only [putAll, p0, p1, p2, p3, p4, p5, p6, p7, p8, p9, p13, Act.put, List.setIfInBounds_toArray, List.set_cons_succ, List.set_cons_zero]
              go_wp2
              go_roundw
              case rel =>
                refine ⟨k + 1, at_ + 2 + s, _, vs 12, Bs ++ [vs 10], by omega, by congr 1; have := Hqs.out; omega, by go_num, by omega, hsn, by simp [HBs.out], by simp [HLk.out], ?_⟩
                rw [textR_snoc _ _ _ _ (by rw [HLk.out, HBs.out]), Hxs.out]
                rw [Hxl.out]
                exact (HS2.out.sub (.cons_cons _ (.cons _ (List.Sublist.refl _)))).perm ((List.perm_append_singleton _ _).symm.trans (List.Perm.swap _ _ _))
              case measure => simp [intOf]; omega
            -- END rread15
      · obtain rfl : k = n := by omega
        have hend : readB b = if at_ = b.length ∧ chk f L = 0 then some (f, L) else none := by
          have := readB_end h10' (L := L) (at_ := at_) (by rw [HN.out]; exact Hst.out)
          rwa [HF.out] at this
        have Hend := Lib.hid hend
        clear hend
        by_cases he : at_ = b.length
        · have hTx : Txs wr (.slice Au k cu) L := texts_of (by rw [HLk.out, HBs.out]) (L1 := [_]) (by rw [HLk.out]; exact HS.out) (fun r hr => List.mem_cons_of_mem _ hr)
          have HTx := Lib.hid hTx
          subst he
          clear hTx
          go_wp2_with fail
          refine (rcheck_any f hf _ L _ HTx.out).mono ?_
          rintro e w5 ⟨rfl, k5⟩
          have S6 := Lib.hid (HS.out.kp k5)
          obtain ⟨d0, d1, d2, d3, d4⟩ := Blk.c2 (S6.out.at_ (l1 := []))
          obtain ⟨c0, c1, c2, c3, c4⟩ := Blk.c2 (S6.out.at_ (l1 := [_, _]))
          clear k5
          by_cases hc : chk f L = 0
          · have HC := Lib.hid (RB_some (f := f) (L := L) (show readB b = some (f, L) by rw [Hend.out]; simp [hc]))
            have hc' : ((chk f L : Nat) : Int) = 0 := by omega
            rw [hc']
            clear hc hc'
            go_wp2
            have S7 := (S6.out.set (l1 := [_, _]) 0 (.int .i64 f)).set (l1 := [_, _]) 1 (.slice Au k cu)
            obtain ⟨c0, c1, c2, c3, c4⟩ := Blk.c2 (S7.at_ (l1 := [_, _]))
            refine bodyPost_ret (v := .tuple #[.agg #[.int .i64 f, .slice Au k cu], .int .i64 0]) (by simp [results, Try.f20, go_sem, c0, c1]) rfl ?_
            refine ⟨.slice Au k cu, Bs, by rw [HC.out.1, HC.out.2]; rfl, by rw [HC.out.1, HLk.out, HBs.out], ?_⟩
            rw [HC.out.1]
            simp only [HLk.out]
            exact S7.drop.sub (.cons_cons _ (.cons _ (List.Sublist.refl _)))
          · have Hno := Lib.hid (show readB b = none from by rw [Hend.out, if_neg]; rintro ⟨_, h⟩; exact hc h)
            have hc' : ¬ ((chk f L : Nat) : Int) = 0 := by omega
            go_wp2
            have S7 := (S6.out.set (l1 := [_, _]) 0 (.int .i64 0)).set (l1 := [_, _]) 1 (.slice none 0 0)
            obtain ⟨c0, c1, c2, c3, c4⟩ := Blk.c2 (S7.at_ (l1 := [_, _]))
            refine bodyPost_ret (v := .tuple #[.agg #[.int .i64 0, .slice none 0 0], .int .i64 250]) (by simp [results, Try.f20, go_sem, c0, c1]) rfl ?_
            exact readPost_none Hno.out S7
        · have he' : ¬ (at_ : Int) = (b.length : Int) := by omega
          have Hno := Lib.hid (show readB b = none from by rw [Hend.out, if_neg]; rintro ⟨h, _⟩; exact he h)
          clear he
          go_wp2
          have S7 := (HS.out.set (l1 := [_, _]) 0 (.int .i64 0)).set (l1 := [_, _]) 1 (.slice none 0 0)
          obtain ⟨c0, c1, c2, c3, c4⟩ := Blk.c2 (S7.at_ (l1 := [_, _]))
          refine bodyPost_ret (v := .tuple #[.agg #[.int .i64 0, .slice none 0 0], .int .i64 250]) (by simp [results, Try.f20, go_sem, c0, c1]) rfl ?_
          exact readPost_none Hno.out S7
end Go.Proofs.Ytdmdnphbheomoaa
/- Take of entry and of the reference; SameBatch. -/
namespace Go.Proofs.Ytdmdnphbheomoaa
open Go.RowKit
def TB (b : List UInt8) : Int × List UInt8 := (takeO b).getD (0, [])
def TE (b : List UInt8) : Nat := if (takeO b).isSome then 0 else 250
theorem TB_none {b : List UInt8} (h : takeO b = none) : TB b = (0, []) ∧ TE b = 250 := by unfold TB TE; rw [h]; exact ⟨rfl, rfl⟩
theorem TB_some {b : List UInt8} {f : Int} {e : List UInt8} (h : takeO b = some (f, e)) : TB b = (f, e) ∧ TE b = 0 := by unfold TB TE; rw [h]; exact ⟨rfl, rfl⟩
def TakePost15 (k : IntKind) (b : List UInt8) (w : World) (e : Ending) (w' : World) : Prop :=
  ∃ u, e = .returned (.tuple #[.int .i64 (TB b).1, u, .int k (TE b : Int)]) ∧ NewB (TB b).2 w u w'
theorem takePost_none {k : IntKind} {b : List UInt8} {w W : World} (h : takeO b = none) (hk : Kp [] w W) : TakePost15 k b w (.returned (.tuple #[.int .i64 0, .slice none 0 0, .int k 250])) W := by
  obtain ⟨h1, h2⟩ := TB_none h
  exact ⟨.slice none 0 0, by rw [h1, h2]; rfl, by rw [h1]; exact NewB.nil _ _ hk⟩
/-- The reader's List, whatever comes of it. -/
theorem list_any15 (p : Nat) (v : Value) (a : Nat) (bs : List UInt8) (w : World) (h : Rr w p v a bs) :
    Calls Try.prog 47 #[.pointer (some ⟨p, 0, none⟩), .int .i64 2, .int .i64 4096] w fun e w1 => ∃ (u : Value) (er : Int), e = .returned (.tuple #[u, .int .i64 er]) ∧ Kp [p] w w1 := by
  by_cases hg : a + 2 ≤ bs.length ∧ num ((bs.drop a).take 2) ≤ 4096 ∧ a + 2 + num ((bs.drop a).take 2) ≤ bs.length
  · refine (r_list p v a 2 4096 bs (by decide) (by decide) (by decide) hg.1 w h hg.2.1 hg.2.2).mono ?_
    rintro e w1 ⟨u, rfl, _, k, _⟩
    exact ⟨u, 0, rfl, k⟩
  · refine (list_no15 p v a _ bs w h rfl (by omega)).mono ?_
    rintro e w1 ⟨er, _, rfl, k, _⟩
    exact ⟨_, er, rfl, k⟩
set_option maxRecDepth 100000 in
set_option maxHeartbeats 4000000 in
theorem take15_any (x : Value) (b : List UInt8) (w : World) (hx : Rd w 1 x b.length (bv b)) (hn : b.length ≤ 140737488355200) :
    Calls Try.prog 21 #[x] w (TakePost15 .i64 b w) := by
  have Hx := Lib.hid hx
  clear hx
  go_enter Try.func21, Try.ntmps21
  go_wp2_with fail
  refine (new_reader x b _ Hx.out (by omega)).mono ?_
  rintro e w1 ⟨p, v, rfl, hp, hr, hv, k1⟩
  have S1 := Lib.hid ((Held.start w).new (rrR p v 0 b) k1 hr (fun q hq => by
    rcases List.mem_cons.1 hq with rfl | hq
    · exact hp
    · exact hv q (by simpa using hq)))
  clear hp hr hv k1
  go_wp2_with fail
  by_cases h8 : b.length < 8
  · have Hno := Lib.hid (takeO_short (b := b) (by omega))
    refine (r_signed_end p v 0 b (by omega) _ (S1.out.at_ (l1 := []))).mono ?_
    rintro e w2 ⟨rfl, k2⟩
    have S2 := Lib.hid (S1.out.kp k2)
    go_wp2_with fail
    refine (list_any15 p v 0 b _ (S2.out.at_ (l1 := []))).mono ?_
    rintro e w3 ⟨u, er, rfl, k3⟩
    have K3 := Lib.hid (S2.out.k.trans k3 (fun g hg => .inr (S2.out.base (rrR p v 0 b) (by simp) g (by simp at hg; subst hg; simp [rrR]))))
    clear k2 k3
    go_wp2
    go_ret3
    exact takePost_none Hno.out K3.out
  · refine (r_signed p v 0 b (by omega) _ (S1.out.at_ (l1 := []))).mono ?_
    obtain ⟨f, HF⟩ : ∃ f, Hid (sgn (b.take 8) = f) := ⟨_, Lib.hid rfl⟩
    rw [show wrap64 (num ((b.drop 0).take 8) : Int) = f from HF.out]
    rintro e w2 ⟨rfl, k2, r2⟩
    have S2 := Lib.hid (S1.out.rturn (l1 := []) r2 k2)
    clear k2 r2
    obtain ⟨s, Hs⟩ : ∃ s, Hid (num ((b.drop 8).take 2) = s) := ⟨_, Lib.hid rfl⟩
    go_wp2_with fail
    by_cases hg : 10 ≤ b.length ∧ s ≤ 4096 ∧ 10 + s ≤ b.length
    · refine (r_list p v 8 2 4096 b (by decide) (by decide) (by decide) (by omega) _ (S2.out.at_ (l1 := [])) (by rw [Hs.out]; exact hg.2.1) (by rw [Hs.out]; exact hg.2.2)).mono ?_
      rw [Hs.out]
      rintro e w3 ⟨u, rfl, o3, k3, r3, f3⟩
      have K3 := Lib.hid (S2.out.k.trans k3 (fun g hg => .inr (S2.out.base (rrR p v 8 b) (by simp) g (by simp at hg; subst hg; simp [rrR]))))
      have R3 := Lib.hid r3
      obtain ⟨Au, cu, rfl, _, _⟩ := ow_form o3
      have N3 : Hid (NewB ((b.drop 10).take s) w (.slice Au s cu) w3) := Lib.hid (by
        have hl : ((b.drop 10).take s).length = s := by rw [List.length_take, List.length_drop]; omega
        refine ⟨by rw [hl]; exact o3, K3.out, fun g hg => Nat.le_trans S2.out.k.size (f3 g hg)⟩)
      clear o3 k3 r3 f3
      go_wp2_with fail
      refine (r_end p v (8 + 2 + s) b _ R3.out).mono ?_
      by_cases he : 10 + s < b.length
      · have Hno := Lib.hid (show takeO b = none from by rw [takeO_def hg.1, Hs.out, if_neg]; rintro ⟨_, h, _⟩; omega)
        rw [if_pos (by omega)]
        rintro e w4 ⟨rfl, n4, rfl⟩
        have K4 := Lib.hid (K3.out.drewN n4)
        go_wp2
        go_ret3
        exact takePost_none Hno.out K4.out
      · rw [if_neg (by omega)]
        rintro e w4 ⟨rfl, n4, rfl⟩
        have hd : (b.drop 10).take s = b.drop 10 := List.take_of_length_le (by rw [List.length_drop]; omega)
        rw [hd] at N3
        have hsl : s = (b.drop 10).length := by rw [List.length_drop]; omega
        have HR := Lib.hid (N3.out.kp ((Kp.refl [] w3).drewN n4)).rd
        have HT := Lib.hid (takeO_def hg.1)
        rw [Hs.out, HF.out] at HT
        have N4 := Lib.hid (N3.out.kp ((Kp.refl [] w3).drewN n4))
        clear hd
        generalize b.drop 10 = d at *
        subst hsl
        go_wp2_with fail
        refine (may_any f _ d _ HR.out).mono ?_
        rintro e w5 ⟨rfl, rfl⟩
        by_cases hm : may f d = 0
        · have HC := Lib.hid (TB_some (f := f) (e := d) (by rw [HT.out, if_pos ⟨hg.2.1, by omega, hm⟩]))
          have hm' : ((may f d : Nat) : Int) = 0 := by omega
          rw [hm']
          clear hm hm'
          go_wp2
          go_ret3
          exact ⟨_, by rw [HC.out.1, HC.out.2]; rfl, by rw [HC.out.1]; exact N4.out⟩
        · have Hno := Lib.hid (show takeO b = none from by rw [HT.out, if_neg]; rintro ⟨_, _, h⟩; exact hm h)
          have hm' : ¬ ((may f d : Nat) : Int) = 0 := by omega
          go_wp2
          go_ret3
          exact takePost_none Hno.out N4.out.2.1
    · have Hno := Lib.hid (show takeO b = none from by
        by_cases h10 : b.length < 10
        · exact takeO_short h10
        · rw [takeO_def (by omega), Hs.out, if_neg]
          rintro ⟨h1, h2, _⟩
          omega)
      refine (list_no15 p v 8 s b _ (S2.out.at_ (l1 := [])) Hs.out (by omega)).mono ?_
      rintro e w3 ⟨er, her, rfl, k3, r3⟩
      have hz : (er == 0) = false := by simpa using her
      have hz2 : (er != 0) = true := by simpa using her
      have K3 := Lib.hid (S2.out.k.trans k3 (fun g hg => .inr (S2.out.base (rrR p v 8 b) (by simp) g (by simp at hg; subst hg; simp [rrR]))))
      clear k3 r3
      go_wp2
      go_ret3
      exact takePost_none Hno.out K3.out
set_option maxRecDepth 100000 in
set_option maxHeartbeats 4000000 in
theorem rtake15_any (x : Value) (b : List UInt8) (w : World) (hx : Rd w 1 x b.length (bv b)) (hn : b.length ≤ 140737488355200) :
    Calls Try.prog 22 #[x] w (TakePost15 .i64 b w) := by
  have Hx := Lib.hid hx
  obtain ⟨A, c, rfl, hnc, hcm, -⟩ := rd_get2 hx
  unfold maxLen at hcm
  clear hx
  by_cases h10 : b.length < 10
  · have Hno := Lib.hid (takeO_short h10)
    have h10' : (b.length : Int) < 10 := by omega
    go_enter Try.func22, Try.ntmps22
    go_wp2
    go_ret3
    exact takePost_none Hno.out (Kp.refl _ _)
  · have h10' : ¬ (b.length : Int) < 10 := by omega
    by_cases h41 : 4106 < b.length
    · have Hno := Lib.hid (show takeO b = none from by rw [takeO_def (by omega), if_neg]; rintro ⟨_, h, _⟩; omega)
      have h41' : (4106 : Int) < b.length := by omega
      go_enter Try.func22, Try.ntmps22
      go_wp2
      go_ret3
      exact takePost_none Hno.out (Kp.refl _ _)
    · have h41' : ¬ (4106 : Int) < b.length := by omega
      obtain ⟨f, HF⟩ : ∃ f, Hid (sgn (b.take 8) = f) := ⟨_, Lib.hid rfl⟩
      have HT := Lib.hid (takeO_by (b := b) (by omega))
      rw [HF.out] at HT
      obtain ⟨A1, c1, run1, rd1, _⟩ := cut_lo A b.length c 10 (b.drop 10).length (10 : Int) rfl (by rw [List.length_drop]; omega)
      have RX : Hid (∀ V, Kp [] w V → Rd V 1 (.slice A1 (b.drop 10).length c1) (b.drop 10).length (bv (b.drop 10))) := Lib.hid (fun V kk => by
        have := rd1 V b (rd_old Hx.out kk)
        rwa [List.take_of_length_le (by simp)] at this)
      have hdl : (b.drop 10).length ≤ 4096 := by rw [List.length_drop]; omega
      clear rd1
      generalize b.drop 10 = d at *
      go_enter Try.func22, Try.ntmps22
      go_wp2_with fail
      refine (first15_any _ b _ Hx.out (by omega)).mono ?_
      rintro e w' ⟨rfl, rfl⟩
      rw [HF.out]
      go_wp2_with (at_builtin; refine app_newB rfl (.const (.slice none 0 0)) (.tmp 20) rfl (.slice none 0 0) [] rfl (NewB.nil w w (Kp.refl _ _)) (.slice A1 d.length c1) d rfl (RX.out _ (Kp.refl _ _)) (by simp; omega) ?_; intro v3 w3 o3; rw [List.nil_append] at o3; have O3 := Lib.hid o3; obtain ⟨A3, c3, rfl⟩ := o3.form; clear o3)
      refine (rone_any f _ d _ O3.out.rd).mono ?_
      rintro e w4 ⟨u4, rfl, o4⟩
      have O4 := Lib.hid (O3.out.kp o4.2.1)
      have kv := strB o4.rd
      have kw := strB (rd_old Hx.out O4.out.2.1)
      by_cases hm : may f d = 0
      · have hm' : ((may f d : Nat) : Int) = 0 := by omega
        have HM := Lib.hid hm
        rw [hm']
        rw [outO_ok hm] at kv
        clear hm hm' o4
        by_cases hq : formO f d = b
        · have HC := Lib.hid (TB_some (f := f) (e := d) (by rw [HT.out, if_pos ⟨HM.out, hq⟩]))
          rw [hq] at kv
          clear hq
          go_wp2
          go_ret3
          exact ⟨_, by rw [HC.out.1, HC.out.2]; rfl, by rw [HC.out.1]; exact O4.out⟩
        · have Hno := Lib.hid (show takeO b = none from by rw [HT.out, if_neg]; rintro ⟨_, h⟩; exact hq h)
          have hkd : (formO f d == b) = false := beq_false_of_ne hq
          clear hq
          go_wp2
          go_ret3
          exact takePost_none Hno.out O4.out.2.1
      · have Hno := Lib.hid (show takeO b = none from by rw [HT.out, if_neg]; rintro ⟨h, _⟩; exact hm h)
        have hm' : ¬ ((may f d : Nat) : Int) = 0 := by omega
        clear o4
        go_wp2
        go_ret3
        exact takePost_none Hno.out O4.out.2.1
set_option maxRecDepth 100000 in
theorem sameb_any (f g : Int) (x y : Value) (L M : List (List UInt8)) (w : World) (hx : Txs w x L) (hy : Txs w y M) :
    Calls Try.prog 23 #[.agg #[.int .i64 f, x], .agg #[.int .i64 g, y]] w fun e w' => e = .returned (.bool (decide (f = g) && (L == M))) ∧ Kp [] w w' := by
  have Hx := Lib.hid hx
  have Hy := Lib.hid hy
  obtain ⟨A, c, rfl, -⟩ := hx.open_
  obtain ⟨B, d, rfl, -⟩ := hy.open_
  clear hx hy
  have k0 : Kp [] w ((w.alloc (.cells #[.int .i64 f, .slice A L.length c] 24)).alloc (.cells #[.int .i64 g, .slice B M.length d] 24)) := ((Kp.refl [] w).alloc _).alloc _
  have b1 := ((Blk.new w 24 #[.int .i64 f, .slice A L.length c]).alloc (.cells #[.int .i64 g, .slice B M.length d] 24))
  have b2 := Blk.new (w.alloc (.cells #[.int .i64 f, .slice A L.length c] 24)) 24 #[.int .i64 g, .slice B M.length d]
  rw [World.size_alloc] at b2
  have K0 := Lib.hid k0
  have B1 := Lib.hid b1
  have B2 := Lib.hid b2
  clear k0 b1 b2
  go_enter Try.func23, Try.ntmps23
  go_wp2_with fail
  refine (same15_any _ _ L M _ (Hx.out.kp0 K0.out) (Hy.out.kp0 K0.out)).mono ?_
  rintro e w1 ⟨rfl, k1⟩
  have K1 := Lib.hid (K0.out.trans k1 (by simp))
  obtain ⟨c1, -⟩ := Blk.c2 (B1.out.kp k1 (by simp))
  obtain ⟨d1, -⟩ := Blk.c2 (B2.out.kp k1 (by simp))
  clear k1
  obtain ⟨q, Hq⟩ : ∃ q, Hid ((L == M) = q) := ⟨_, Lib.hid rfl⟩
  rw [Hq.out]
  by_cases h : f = g
  · subst h
    have hz : (f == f) = true := beq_self_eq_true f
    go_wp2
    go_ret
    exact ⟨by simp [Hq.out], K1.out⟩
  · have hz : (f == g) = false := beq_false_of_ne h
    go_wp2
    go_ret
    exact ⟨by simp [h], K1.out⟩
end Go.Proofs.Ytdmdnphbheomoaa
/- The law's spoilt: texts that were told are written over, and grown. -/
namespace Go.Proofs.Ytdmdnphbheomoaa
open Go.RowKit
theorem bv_rep (n : Nat) (x : UInt8) : bv (List.replicate n x) = List.replicate n (.int .u8 (x.toNat : Int)) := by simp [bv]
set_option maxRecDepth 100000 in
set_option maxHeartbeats 4000000 in
theorem spoilt15_any {w0 : World} {T : List Res} (v : Value) (L : List (List UInt8)) (Bs : List Value) (w : World) (hB : L.length = Bs.length) (hb : ∀ l, l ∈ L → l.length ≤ 1073741824) (hl : L.length ≤ 1073741824)
    (S0 : Held w0 w (rowR 25 1 v L.length Bs :: (textR L Bs ++ T))) :
    Calls Try.prog 24 #[v] w fun e w' => e = .returned (.tuple #[]) ∧ Held w0 w' T := by
  obtain ⟨i1, hj, hy0, hy1, hy2⟩ := info_parts Try.infoU8
  obtain ⟨A, c, rfl, _, _⟩ := ow_form (S0.at_ (l1 := []))
  have Hb := Lib.hid hb
  have HB := Lib.hid hB
  have H0 := Lib.hid S0
  clear hb hB S0
  go_enter Try.func24, Try.ntmps24
  go_wp2
  go_loopw [2] (fun i wr => ∃ (k : Nat) (xs : List Value) (ts : List (List UInt8)) (Bt : List Value), k ≤ L.length ∧ i = .int .i64 k ∧ Hid (ts.length = L.length ∧ Bt.length = L.length ∧ ∀ j, k ≤ j → ts[j]? = L[j]? ∧ Bt[j]? = Bs[j]? ∧ xs[j]? = Bs[j]?) ∧ Held w0 wr (rowR 25 1 (.slice A L.length c) L.length xs :: (textR ts Bt ++ T))) (fun i _ => L.length - (intOf i).toNat)
  case atStart => exact ⟨0, Bs, L, Bs, Nat.zero_le _, rfl, Lib.hid ⟨rfl, HB.out.symm, fun j _ => ⟨rfl, rfl, rfl⟩⟩, H0.out⟩
  case round =>
    clear H0
    obtain ⟨k, xs, ts, Bt, hk, rfl, Hx, S⟩ := hrel
    by_cases hlt : k < L.length
    · obtain ⟨h1, h2, h3⟩ := Hx.out
      obtain ⟨f1, f2, f3⟩ := h3 k (Nat.le_refl _)
      have hB : Bs[k]? = some (Bs[k]'(by rw [← HB.out]; exact hlt)) := List.getElem?_eq_getElem _
      have hbl := Hb.out _ (List.getElem_mem hlt)
      rw [List.getElem?_eq_getElem hlt] at f1
      rw [hB] at f2 f3
      generalize Bs[k]'_ = B at *
      generalize L[k] = t at *
      obtain ⟨l1, l2, e, hset⟩ := textR_split ts Bt k t B f1 f2
      have Hset := Lib.hid hset
      rw [e, List.append_assoc, List.cons_append] at S
      have S1 : Hid (Held w0 wr ((rowR 25 1 (.slice A L.length c) L.length xs :: l1) ++ rowR 5 1 B t.length (bv t) :: (l2 ++ T))) := Lib.hid S
      obtain ⟨g, c', hv, _, _⟩ := ow_some (S.at_ (l1 := [])) (by omega)
      obtain ⟨Ab, cb, hBv, _, _⟩ := ow_form (S1.out.at_)
      subst hBv
      have hxl := (S.at_ (l1 := [])).1
      injection hv with hA hn hc
      subst hA
      have F3 := Lib.hid f3
      obtain ⟨wo, hwo⟩ : ∃ wo : World, wr = wo := ⟨_, rfl⟩
      subst hwo
      clear hn hc S h1 h2 h3 f1 f2 f3 hB e hset
      go_wp2
      go_loopw [3] (fun j wi => ∃ q : Nat, q ≤ t.length ∧ j = .int .i64 q ∧ Held w0 wi ((rowR 25 1 (.slice (some ⟨g, 0, none⟩) L.length c) L.length xs :: l1) ++ rowR 5 1 (.slice Ab t.length cb) t.length (List.replicate q (.int .u8 90) ++ (bv t).drop q) :: (l2 ++ T))) (fun j _ => t.length - (intOf j).toNat)
      case atStart => exact ⟨0, by omega, rfl, S1.out⟩
      case round =>
        clear S1
        obtain ⟨q, hq, rfl, S⟩ := hrel
        have hcell := (S.at_ (l1 := [])).cellAt k (by omega)
        rw [F3.out] at hcell
        have HS := Lib.hid S
        clear S
        by_cases hqt : q < t.length
        · obtain ⟨gb, cb', hv, _, _⟩ := ow_some HS.out.at_ (by omega)
          injection hv with hA hn hc
          subst hA
          clear hn hc
          have hrow := HS.out.at_
          have hc0 := hrow.cellAt q (by omega)
          have hlen := hrow.1
          rw [List.getElem?_append_right (by simp), List.length_replicate, Nat.sub_self, List.getElem?_drop, Nat.add_zero, List.getElem?_eq_getElem (by rw [bv_length]; exact hqt)] at hc0
          have hf0 := hrow.frozenAt q
          have hlw := ow_lt hrow (g := gb) rfl
          have S2 := Lib.hid (HS.out.rowset ((hrow.stored (g := gb) q (.int .u8 90)).1) ((Kp.refl [gb] _).setCell (p := ⟨gb, q, none⟩) (.inl (by simp)) (.int .u8 90)))
          rw [paint_step (bv t) (.int .u8 90) q (by rw [bv_length]; exact hqt)] at S2
          clear hrow hlen
          go_wp2
          go_roundw
          case rel => exact ⟨q + 1, by omega, by go_num, S2.out⟩
          case measure => simp [intOf]; omega
        · obtain rfl : q = t.length := by omega
          have S2 := HS.out
          rw [List.drop_of_length_le (by rw [bv_length]; omega), List.append_nil] at S2
          have S3 := Lib.hid (S2.alloc (.cells #[.int .u8 90, .int .u8 90, .int .u8 90] 5))
          clear S2
          go_wp2_with (at_builtin; refine wpList_app _ rfl (.tmp 30) (.tmp 31) _ rfl 5 i1 _ 1 1 Try.underlying25 hj hy0 hy1 hy2 rfl (by decide) (.slice Ab t.length cb) t.length (List.replicate t.length (.int .u8 90)) rfl S3.out.at_ (.slice (some ⟨wr.heap.size, 0, none⟩) 3 3) 3 (bv [90, 90, 90]) rfl (rd_lit wr 5 _ [90, 90, 90] rfl (by decide)) (bv_one _) (by unfold maxLen; omega) (by omega) ?_; intro v7 w7 o7 g7 h7; have S7 := Lib.hid (S3.out.grow o7 g7 h7); obtain ⟨A7, c7, hv7, _, _⟩ := ow_form o7; subst hv7; have hc1 := (S7.out.at_ (l1 := [])).cellAt k (by omega); rw [F3.out] at hc1; have hf1 := (S7.out.at_ (l1 := [])).frozenAt k; have hlw := ow_lt (S7.out.at_ (l1 := [])) (g := g) rfl; clear o7 g7 h7)
          have S8 := (S7.out.rowset (l1 := []) ((S7.out.at_ (l1 := [])).stored (g := g) k (.slice A7 (t.length + 3) c7)).1 ((Kp.refl [g] w7).setCell (p := ⟨g, k, none⟩) (.inl (by simp)) (.slice A7 (t.length + 3) c7)))
          have S8 := Lib.hid S8
          go_wp2
          go_roundw
          case rel =>
            obtain ⟨h1, h2, h3⟩ := Hx.out
            refine ⟨k + 1, xs.set k (.slice A7 (t.length + 3) c7), ts.set k (List.replicate (t.length + 3) 90), Bt.set k (.slice A7 (t.length + 3) c7), by omega, by go_num, Lib.hid ⟨by rw [List.length_set, h1], by rw [List.length_set, h2], fun j hj2 => ?_⟩, ?_⟩
            · obtain ⟨f1, f2, f3⟩ := h3 j (by omega)
              exact ⟨by rw [List.getElem?_set_ne (by omega)]; exact f1, by rw [List.getElem?_set_ne (by omega)]; exact f2, by rw [List.getElem?_set_ne (by omega)]; exact f3⟩
            · rw [Hset.out, List.append_assoc, List.cons_append, List.length_replicate]
              have e9 : bv (List.replicate (t.length + 3) 90) = List.replicate t.length (.int .u8 90) ++ bv [90, 90, 90] := by rw [bv_rep, ← List.replicate_append_replicate]; rfl
              rw [e9]
              exact S8.out
          case measure => simp [intOf]; omega
    · go_wp2
      go_end0
      exact ⟨rfl, S.sub (.cons _ (List.sublist_append_right _ _))⟩
end Go.Proofs.Ytdmdnphbheomoaa
/- The law's known of layer 15. -/
namespace Go.Proofs.Ytdmdnphbheomoaa
open Go.RowKit
def kL : List (List UInt8) := [[1, 2], []]
def kB : List UInt8 := [0, 0, 0, 0, 0, 0, 0, 7, 0, 2, 0, 2, 1, 2, 0, 0]
theorem kL_chk : chk 7 kL = 0 := by decide +kernel
theorem kL_form : formB 7 kL = kB := by decide +kernel
theorem kL_out : outB 7 kL = kB := by rw [outB_ok kL_chk, kL_form]
theorem kB_read : RB kB = (7, kL) ∧ RE kB = 0 := RB_some (by rw [← kL_form]; exact readB_of kL_chk)
set_option maxRecDepth 100000 in
set_option maxHeartbeats 2000000 in
theorem known15_true (w : World) : Calls Try.prog 10 #[] w fun e w' => e = .returned (.bool true) ∧ Kp [] w w' := by
  have r1 : Rd (w.alloc (.cells #[.int .u8 1, .int .u8 2] 5)) 1 (.slice (some ⟨w.heap.size, 0, none⟩) 2 2) 2 (bv [1, 2]) := rd_lit w 5 _ [1, 2] rfl (by decide)
  have t2 := txs2 25 (g := w.heap.size + 1) (by simp) r1 (show Rd (w.alloc (.cells #[.int .u8 1, .int .u8 2] 5)) 1 (.slice none 0 0) 0 (bv []) from Rd.nil _ _)
  have T2 := Lib.hid t2
  have K2 := Lib.hid (((Kp.refl [] w).alloc (.cells #[.int .u8 1, .int .u8 2] 5)).alloc (.cells #[.slice (some ⟨w.heap.size, 0, none⟩) 2 2, .slice none 0 0] 25))
  clear r1 t2
  go_enter Try.func10, Try.ntmps10
  go_wp2_with fail
  refine (put15_any 7 (by decide) _ kL _ T2.out).mono ?_
  rintro e w1 ⟨u1, rfl, o1⟩
  rw [kL_chk]
  rw [kL_out] at o1
  have N1 := Lib.hid (o1.base K2.out)
  obtain ⟨A1, c1, rfl⟩ := o1.form
  clear o1
  go_wp2_with fail
  refine (read15_any _ kB _ N1.out.rd (by decide)).mono ?_
  rintro e w2 ⟨v, Bs, rfl, hBs, S⟩
  rw [kB_read.1, kB_read.2] at *
  have hBs2 : Bs.length = 2 := hBs.symm
  obtain ⟨gv, cv, rfl, _, _⟩ := ow_some (S.at_ (l1 := [])) (by decide)
  obtain ⟨B0, B1, rfl⟩ : ∃ B0 B1, Bs = [B0, B1] := by
    match Bs, hBs2 with
    | [B0, B1], _ => exact ⟨B0, B1, rfl⟩
  have N2 := Lib.hid (N1.out.kp S.k)
  have S2 := Lib.hid (S.newBlk 24 #[.int .i64 7, .slice (some ⟨gv, 0, none⟩) 2 cv])
  have hc0 := (S2.out.at_ (l1 := [_])).cellAt 0 (by decide)
  have hr0 := Rd.of_own (S2.out.at_ (l1 := [_, _]) : Ow _ 5 1 B0 2 (bv [1, 2]))
  obtain ⟨b0, b1, -⟩ := Blk.c2 (S2.out.at_ (l1 := []))
  have kv := strB (N2.out.kp ((Kp.refl [] w2).alloc (.cells #[.int .i64 7, .slice (some ⟨gv, 0, none⟩) 2 cv] 24))).rd
  have kw := strB hr0
  have K3 := Lib.hid (N1.out.2.1.trans S2.out.k (by simp))
  clear hr0 S
  have hkb : (kB == [0, 0, 0, 0, 0, 0, 0, 7, 0, 2, 0, 2, 1, 2, 0, 0]) = true := by decide
  go_wp2
  go_ret
  exact ⟨rfl, K3.out⟩
end Go.Proofs.Ytdmdnphbheomoaa
