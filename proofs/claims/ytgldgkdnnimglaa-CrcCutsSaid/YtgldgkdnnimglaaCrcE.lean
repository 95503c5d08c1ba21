/- Walks of package crc: moves made. -/
import Derived.Test.YtgldgkdnnimglaaCrcD
namespace Go.Proofs.Ytgldgkdnnimglaa
open Go.RowKit

theorem Try.infoMoves : (Try.prog.info? 71).map (·.size) = some 32 := by kernel_rfl
theorem results_cell1 {P : Program} {fn : Func} {w : World} {tmps : Array Value} {a t g : Nat} {t' : TypeId} {cs : Array Value} {d : TypeDesc} (h : fn.results = #[.cell a t]) (ha : tmps.getD a undef = .pointer (some ⟨g, 0, none⟩)) (hb : Blk w g t' cs)
    (hu : P.underlying t = some d) (hd : aggB d = true) (hi : (P.info? t).map (·.size) = some cs.size) : (results fn tmps).run P w = .ok (.agg cs) w := by
  have hl : (loadCells ⟨g, 0, none⟩ cs.size).run P w = .ok cs w := by
    have := run_loadCells_list (P := P) w ⟨g, 0, none⟩ cs.toList hb.agg
    simpa using this
  cases hq : P.info? t with
  | none => simp [hq] at hi
  | some i =>
    have hs : i.size = cs.size := by simpa [hq] using hi
    simp only [Array.getD_eq_getD_getElem?] at ha
    simp [results, h, ha, loadVar, asAddr, Sem.run_bind, run_isAgg hu hd, sizeOf, typeInfo, hq, hs, hl]
theorem movA_one (L : List Nat) : ∀ u ∈ (movA L).toList, u.oneCell' = true := by
  intro u hu
  simp only [movA, List.mem_map] at hu
  obtain ⟨_, _, rfl⟩ := hu
  rfl
/-- The first i of f's moves, x, and noughts. -/
def mpart (f : Nat → Nat) (i x : Nat) : Array Value := movA ((List.range i).map f ++ x :: List.replicate (31 - i) 0)
def mzero (f : Nat → Nat) (i : Nat) : Array Value := movA ((List.range i).map f ++ List.replicate (32 - i) 0)
theorem mpart_size (f : Nat → Nat) {i : Nat} (h : i < 32) (x : Nat) : (mpart f i x).size = 32 := by
  rw [mpart, movA_size]; simp; omega
theorem mzero_size (f : Nat → Nat) {i : Nat} (h : i ≤ 32) : (mzero f i).size = 32 := by
  rw [mzero, movA_size]; simp; omega
theorem mzero_part (f : Nat → Nat) {i : Nat} (h : i < 32) : mzero f i = mpart f i 0 := by
  unfold mzero mpart
  rw [show 32 - i = (31 - i) + 1 from by omega, List.replicate_succ]
theorem mpart_next (f : Nat → Nat) (i : Nat) : mpart f i (f i) = mzero f (i + 1) := by
  unfold mzero mpart
  rw [List.range_succ, List.map_append, show 32 - (i + 1) = 31 - i from by omega, List.append_assoc]
  rfl
theorem mzero_all (f : Nat → Nat) : mzero f 32 = movA ((List.range 32).map f) := by unfold mzero; simp
theorem mzero_zero (f : Nat → Nat) : mzero f 0 = movA (List.replicate 32 0) := by unfold mzero; simp
theorem mpart_set (f : Nat → Nat) (i x y : Nat) : (mpart f i x).setIfInBounds i (.int .u32 (y : Int)) = mpart f i y := by
  unfold mpart movA
  apply Array.toList_inj.1
  rw [Array.toList_setIfInBounds]
  simp only [List.map_append, List.map_cons]
  rw [List.set_append_right _ _ (by simp)]
  simp
theorem mpart_get (f : Nat → Nat) (i x : Nat) : (mpart f i x)[i]? = some (.int .u32 (x : Int)) := by
  unfold mpart
  rw [movA_get _ i (by simp)]
  simp
/-- Two new blocks of noughts. -/
def movW (w : World) : World := (w.alloc (.cells (movA (List.replicate 32 0)) 71)).alloc (.cells (movA (List.replicate 32 0)) 71)
theorem movW_kp (w : World) : Kp [] w (movW w) := ((Kp.refl [] w).alloc _).alloc _
theorem movW_blks (w : World) : Blk (movW w) w.heap.size 71 (movA (List.replicate 32 0)) ∧ Blk (movW w) (w.heap.size + 1) 71 (movA (List.replicate 32 0)) := by
  refine ⟨(Blk.new _ _ _).alloc _, ?_⟩
  have := Blk.new (w.alloc (.cells (movA (List.replicate 32 0)) 71)) 71 (movA (List.replicate 32 0))
  simpa [movW] using this
/-- What stands while moves are made: the result's block, the moves' own. -/
structure Mk (w wr : World) (cs : Array Value) : Prop where
  k : Kp [] w wr
  b0 : Blk wr w.heap.size 71 (movA (List.replicate 32 0))
  b1 : Blk wr (w.heap.size + 1) 71 cs
theorem Mk.set {w wr : World} {f : Nat → Nat} {i x : Nat} (h : Mk w wr (mpart f i x)) (y : Nat) : Mk w (wr.setCell ⟨w.heap.size + 1, i, none⟩ (.int .u32 (y : Int))) (mpart f i y) := by
  refine ⟨h.k.setCell (.inr (by simp)) _, h.b0.far (by simp) _, ?_⟩
  have := h.b1.set_ i (.int .u32 (y : Int))
  rw [mpart_set f] at this
  exact this
theorem Mk.kp {w wr w' : World} {cs : Array Value} (h : Mk w wr cs) (hk : Kp [] wr w') : Mk w w' cs := ⟨h.k.trans hk (by simp), h.b0.kp hk (by simp), h.b1.kp hk (by simp)⟩
theorem Mk.start (w : World) (f : Nat → Nat) : Mk w (movW w) (mzero f 0) := by rw [mzero_zero]; exact ⟨movW_kp w, (movW_blks w).1, (movW_blks w).2⟩
theorem range_map_mat (f : Nat → Nat) : (List.range 32).map (fun i => f (2 ^ i)) = matOf f := rfl
theorem pow_lt_32 {i : Nat} (h : i < 32) : 2 ^ i < 4294967296 := Nat.pow_lt_pow_right (n := 32) (by omega) h
theorem shl_one {i : Nat} (h : i < 32) : IntKind.u32.wrap ((2 : Int) ^ i) = ((2 ^ i : Nat) : Int) := by
  rw [IntKind.wrap_u32']
  have := pow_lt_32 h
  rw [show (2 : Int) ^ i = ((2 ^ i : Nat) : Int) from by rw [Int.natCast_pow]; rfl]
  generalize 2 ^ i = B at *
  omega

set_option maxRecDepth 100000 in
set_option maxHeartbeats 1000000 in
theorem byByte_any (w : World) :
    Calls Try.prog 43 #[] w fun e w' => e = .returned (.agg (movA (matOf eight))) ∧ Kp [] w w' := by
  go_enter Try.func43, Try.ntmps43
  go_wp2
  have M0 := Mk.start w (fun i => eight (2 ^ i))
  go_loopw [2, 3] (fun _ t wr => ∃ i : Nat, i ≤ 32 ∧ t = .int .i64 i ∧ Mk w wr (mzero (fun i => eight (2 ^ i)) i)) (fun _ t _ => 32 - (intOf t).toNat)
  case atStart => exact ⟨0, by omega, rfl, M0⟩
  case round =>
    obtain ⟨i, hi, rfl, M⟩ := hrel
    by_cases hlt : i < 32
    · rw [mzero_part _ hlt] at M
      have hc := M.b1.cell i
      rw [mpart_get] at hc
      have hf := M.b1.frozen i
      have hz := M.b1.lt
      have hp := shl_one hlt
      have hd : decide ((i : Int) < 32) = true := by simpa using (by omega : (i : Int) < 32)
      go_wp2
      go_loopw [10] (fun t wr => ∃ j : Nat, j ≤ 8 ∧ t = .int .i64 j ∧ Mk w wr (mpart (fun i => eight (2 ^ i)) i (itn stp j (2 ^ i)))) (fun t _ => 8 - (intOf t).toNat)
      case atStart =>
        refine ⟨0, by omega, rfl, ?_⟩
        have := M.set (2 ^ i)
        exact this
      case round =>
        obtain ⟨j, hj, rfl, M2⟩ := hrel
        clear hc hf hz hp M M0
        have hc := M2.b1.cell i
        rw [mpart_get] at hc
        have hf := M2.b1.frozen i
        have hz := M2.b1.lt
        have hb : itn stp j (2 ^ i) < 4294967296 := itn_stp_lt j (pow_lt_32 hlt)
        by_cases hl8 : j < 8
        · go_wp2_with (go_at_call 50; refine (step_any _ hb _).mono ?_; rintro e w' ⟨rfl, rfl⟩)
          go_roundw
          case rel =>
            have := M2.set (itn stp (j + 1) (2 ^ i))
            rw [itn_succ] at this
            exact ⟨j + 1, by omega, by go_num, by rw [itn_succ]; exact this⟩
          case measure => simp [intOf]; omega
        · obtain rfl : j = 8 := by omega
          go_wp2
          go_roundw
          case rel =>
            have : Mk w wr (mpart (fun i => eight (2 ^ i)) i (eight (2 ^ i))) := M2
            rw [mpart_next] at this
            exact ⟨i + 1, by omega, by go_num, this⟩
          case measure => simp [intOf]; omega
    · obtain rfl : i = 32 := by omega
      clear M0
      rw [mzero_all, range_map_mat] at M
      have h1c : ∀ u ∈ (movA (matOf eight)).toList, u.oneCell' = true := movA_one _
      have hsz : (movA (matOf eight)).size = 32 := by rw [movA_size, matOf_length]
      generalize hcs : movA (matOf eight) = cs at *
      have Hcs := Lib.hid hcs
      clear hcs
      have Hsz := Lib.hid hsz
      have M' := Lib.hid M
      clear hsz M
      go_wp2_with (first
        | (refine wpList_load_agg rfl 71 (.tmp 1) rfl ⟨w.heap.size + 1, 0, none⟩ rfl cs.toList _ M'.out.b1.agg Try.underlying71 rfl (by rw [Try.infoMoves, Array.length_toList, Hsz.out]) ?_)
        | (refine wpList_store_agg rfl 71 (.tmp 0) (.tmp 20) rfl w.heap.size 0 rfl cs rfl 71 _ M'.out.b0 (by rw [Try.infoMoves, Hsz.out]) (by rw [movA_size, Hsz.out]; decide) h1c ?_; intro w2 c2 k2))
      rw [set_all _ _ (by rw [movA_size, Hsz.out]; decide)] at c2
      exact bodyPost_ret (results_cell1 (by rfl) rfl c2 Try.underlying71 rfl (by rw [Try.infoMoves, Hsz.out])) rfl ⟨by rw [Hcs.out], M'.out.k.trans k2 (by simp)⟩

set_option maxRecDepth 100000 in
set_option maxHeartbeats 1000000 in
theorem twice_any (g : Nat) (L : List Nat) (hL : Mov L) (w : World) (hb : Blk w g 71 (movA L)) :
    Calls Try.prog 45 #[.pointer (some ⟨g, 0, none⟩)] w fun e w' => e = .returned (.agg (movA (sqM L))) ∧ Kp [] w w' := by
  have hgl := hb.lt
  have Hb0 := Lib.hid hb
  clear hb
  have hsq : (List.range 32).map (fun i => ofL L (L.getD i 0)) = sqM L := by
    unfold sqM
    apply List.ext_getElem
    · simp [hL.1]
    · intro i h1 h2
      simp at h1
      have : i < L.length := by rw [hL.1]; exact h1
      simp [this]
  have Hsq := Lib.hid hsq
  clear hsq
  go_enter Try.func45, Try.ntmps45
  go_wp2
  have M0 := Mk.start w (fun i => ofL L (L.getD i 0))
  go_loopw [4, 5] (fun _ t wr => ∃ i : Nat, i ≤ 32 ∧ t = .int .i64 i ∧ Mk w wr (mzero (fun i => ofL L (L.getD i 0)) i)) (fun _ t _ => 32 - (intOf t).toNat)
  case atStart => exact ⟨0, by omega, rfl, M0⟩
  case round =>
    clear M0
    obtain ⟨i, hi, rfl, M⟩ := hrel
    by_cases hlt : i < 32
    · rw [mzero_part _ hlt] at M
      have hb1 := Hb0.out.kp M.k (by simp)
      have hli : i < L.length := by rw [hL.1]; exact hlt
      have hg := hb1.cell i
      rw [movA_get L i hli] at hg
      have hc := M.b1.cell i
      rw [mpart_get] at hc
      have hf := M.b1.frozen i
      have hz := M.b1.lt
      have hm := hL.2 i hli
      have Hgd := Lib.hid (show L.getD i 0 = L[i] by simp [hli])
      generalize L[i] = m at *
      go_wp2_with (go_at_call 44; refine (of_any g L hL m hm _ hb1).mono ?_; rintro e w' ⟨rfl, rfl⟩)
      go_roundw
      case rel =>
        have := M.set (ofL L m)
        have h2 : mpart (fun i => ofL L (L.getD i 0)) i (ofL L m) = mzero (fun i => ofL L (L.getD i 0)) (i + 1) := by
          rw [← Hgd.out]; exact mpart_next _ i
        rw [h2] at this
        exact ⟨i + 1, by omega, by go_num, this⟩
      case measure => simp [intOf]; omega
    · obtain rfl : i = 32 := by omega
      rw [mzero_all, Hsq.out] at M
      have h1c : ∀ u ∈ (movA (sqM L)).toList, u.oneCell' = true := movA_one _
      have hsz : (movA (sqM L)).size = 32 := by rw [movA_size, sqM, List.length_map, hL.1]
      generalize hcs : movA (sqM L) = cs at *
      have Hcs := Lib.hid hcs
      clear hcs
      have Hsz := Lib.hid hsz
      have M' := Lib.hid M
      clear hsz M
      go_wp2_with (first
        | (refine wpList_load_agg rfl 71 (.tmp 3) rfl ⟨w.heap.size + 1, 0, none⟩ rfl cs.toList _ M'.out.b1.agg Try.underlying71 rfl (by rw [Try.infoMoves, Array.length_toList, Hsz.out]) ?_)
        | (refine wpList_store_agg rfl 71 (.tmp 2) (.tmp 18) rfl w.heap.size 0 rfl cs rfl 71 _ M'.out.b0 (by rw [Try.infoMoves, Hsz.out]) (by rw [movA_size, Hsz.out]; decide) h1c ?_; intro w2 c2 k2))
      rw [set_all _ _ (by rw [movA_size, Hsz.out]; decide)] at c2
      exact bodyPost_ret (results_cell1 (by rfl) rfl c2 Try.underlying71 rfl (by rw [Try.infoMoves, Hsz.out])) rfl ⟨by rw [Hcs.out], M'.out.k.trans k2 (by simp)⟩

/-! ### Moves held against one another -/
section
variable {P : Program} (w : World)
theorem run_eqItems_u32 (d : Nat) (e : TypeId) (he : P.underlying e = some (.int .u32)) (L M : List Nat) : ∀ is : List Nat, (∀ i ∈ is, i < L.length ∧ i < M.length) →
    (Op.eqItems (d + 1) e 1 (movA L) (movA M) is).run P w = .ok (is.all fun i => L[i]? == M[i]?) w
  | [], _ => by simp [Op.eqItems]
  | i :: is, h => by
    have h1 := h i (by simp)
    have ih := run_eqItems_u32 d e he L M is (fun j hj => h j (by simp [hj]))
    have hp : ∀ l : List Nat, (hi : i < l.length) → (part e (movA l) i).run P w = .ok (.int .u32 (l[i] : Int)) w := fun l hi => by
      have hag : (isAgg e).run P w = .ok false w := by
        unfold isAgg
        rw [Sem.run_bind, run_underlying he w]
        rfl
      simp [part, Sem.run_bind, hag, movA_get l i hi]
    simp only [Op.eqItems, Nat.mul_one, Sem.run_bind, hp L h1.1, hp M h1.2, Result.andThen_ok, run_equalIn_int (w := w) d e .u32 .u32 _ _ he]
    by_cases e1 : L[i] = M[i]
    · simp [e1, ih, h1.1, h1.2]
    · have : ((L[i] : Int) == (M[i] : Int)) = false := by
        rw [beq_eq_false_iff_ne]
        intro hh
        exact e1 (by omega)
      simp [this, e1, h1.1, h1.2]
/-- Moves are the same as themselves. -/
theorem run_eq_mov (d : Nat) (t e : TypeId) (i : TypeInfo) (hu : P.underlying t = some (.array 32 e)) (hi : P.info? e = some i) (hs : P.cellsOf e = 1) (he : P.underlying e = some (.int .u32)) (L : List Nat) (ha : L.length = 32) :
    (Op.equalIn (d + 2) t (.agg (movA L)) (.agg (movA L))).run P w = .ok true w := by
  rw [run_equalIn_array w (d + 1) _ _ hu hi, hs, run_eqItems_u32 w d e he L L _ (fun i hi => by simp at hi; omega)]
  congr 1
  rw [List.all_eq_true]
  simp
end
theorem Try.infoU32 : ∃ i, Try.prog.info? 23 = some i := by
  cases h : Try.prog.info? 23 with
  | none => exact absurd h (by intro h; have : (Try.prog.info? 23).isSome = true := by kernel_rfl
                               rw [h] at this; cases this)
  | some i => exact ⟨i, rfl⟩
theorem Try.cellsU32 : Try.prog.cellsOf 23 = 1 := by kernel_rfl
theorem eq_mov (w : World) (L : List Nat) (h : L.length = 32) : (Op.equalIn 10000 71 (.agg (movA L)) (.agg (movA L))).run Try.prog w = .ok true w := by
  obtain ⟨i, hi⟩ := Try.infoU32
  exact run_eq_mov (P := Try.prog) w 9998 71 23 i Try.underlying71 hi Try.cellsU32 Try.underlying23 L h
end Go.Proofs.Ytgldgkdnnimglaa
