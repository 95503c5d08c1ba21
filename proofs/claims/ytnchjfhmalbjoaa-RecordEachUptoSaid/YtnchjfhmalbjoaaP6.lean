/- Several texts in one: RecCM, Zeros, RecSame, RecCut1, RecCut2, RecCut3. -/
import Derived.Test.YtnchjfhmalbjoaaP5
/- Rows of frames, cut, and with something behind: what scanning answers. -/
namespace Go.Proofs.Ytnchjfhmalbjoaa
open Go.RowKit

theorem frame_cons (kd : UInt8) (body : List UInt8) : frame kd body = kd :: (be 4 body.length ++ (body ++ le4 (crc (heads kd body)))) := by
  rw [frame_def]; simp [heads]
theorem rE_frame (kd : UInt8) (body rest : List UInt8) (hk : kd.toNat ≠ 0) (hn : body.length ≤ 8388608) :
    rE (frame kd body ++ rest) = 0 ∧ recOf (frame kd body ++ rest) = (kd, body) ∧ rS (frame kd body ++ rest) = body.length + 9 := by
  have hl := heads_length kd body
  have hfl := frame_length kd body
  have h1 : num ((frame kd body ++ rest).take 1) = kd.toNat := by rw [frame_cons]; simp [num]
  have h2 : rn (frame kd body ++ rest) = body.length := by
    unfold rn
    rw [frame_cons]
    simp only [List.cons_append, List.drop_succ_cons, List.drop_zero, List.append_assoc]
    rw [List.take_left' (be_length ..)]
    exact num_be_lt (k := 4) (by omega)
  have h3 : (frame kd body ++ rest).take (body.length + 5) = heads kd body := by rw [frame_def, List.append_assoc, List.take_left' hl]
  have h4 : ((frame kd body ++ rest).drop (body.length + 5)).take 4 = le4 (crc (heads kd body)) := by
    rw [frame_def, List.append_assoc, List.drop_left' hl, List.take_left' (le4_length _)]
  have h5 : ((frame kd body ++ rest).drop 5).take body.length = body := by
    rw [frame_cons]
    simp only [List.cons_append, List.drop_succ_cons, List.append_assoc]
    rw [List.drop_left' (be_length ..), List.take_left' rfl]
  have hE : rE (frame kd body ++ rest) = 0 := rE_0 (by rw [h1]; exact hk) (by omega) (by rw [List.length_append]; omega) (by rw [h2, h3, h4]; exact beq_self_eq_true _)
  obtain ⟨y1, y2, y3⟩ := rKBS_yes hE
  refine ⟨hE, ?_, by rw [y3, h2]⟩
  unfold recOf
  rw [y1, y2, h1, h2, h5]
  congr 1
  exact UInt8.toNat_inj.1 (by rw [UInt8.toNat_ofNat']; exact Nat.mod_eq_of_lt kd.toNat_lt)
theorem rE_part (kd : UInt8) (body : List UInt8) (m : Nat) (hk : kd.toNat ≠ 0) (hn : body.length ≤ 8388608) (h0 : 0 < m) (hm : m < body.length + 9) : rE ((frame kd body).take m) = 170 := by
  have hfl := frame_length kd body
  have hml : ((frame kd body).take m).length = m := by rw [List.length_take]; omega
  have h1 : num (((frame kd body).take m).take 1) = kd.toNat := by rw [List.take_take, Nat.min_eq_left (by omega)]; exact (frame_parts kd body (by omega)).1
  by_cases h5 : m < 5
  · exact rE_3 (by omega) (by rw [h1]; exact hk) (by omega)
  · have h2 : rn ((frame kd body).take m) = body.length := by
      have := (frame_parts kd body (by omega)).2.1
      unfold rn at this ⊢
      rw [List.drop_take, List.take_take, Nat.min_eq_left (by omega)]
      exact this
    exact rE_5 (by rw [h1]; exact hk) (by omega) (by omega) (by omega)
theorem frames_cons (r : Rec) (rs : List Rec) : frames (r :: rs) = frame r.1 r.2 ++ frames rs := by simp [frames]
theorem frames_split (rs : List Rec) (k : Nat) : frames rs = frames (rs.take k) ++ frames (rs.drop k) := by rw [← frames_append, List.take_append_drop]
theorem frames_ge (rs : List Rec) : rs.length ≤ (frames rs).length := by
  induction rs with
  | nil => exact Nat.le_refl _
  | cons r rs ih => rw [frames_cons, List.length_append, frame_length, List.length_cons]; omega
theorem frames_drop {rs : List Rec} {k : Nat} (h : k < rs.length) (tail : List UInt8) : (frames rs ++ tail).drop (frames (rs.take k)).length = frame rs[k].1 rs[k].2 ++ (frames (rs.drop (k + 1)) ++ tail) := by
  rw [frames_split rs k, List.append_assoc, List.drop_left' rfl, List.drop_eq_getElem_cons h, frames_cons, List.append_assoc]
theorem scN_frames (rs : List Rec) (hg : ∀ r, r ∈ rs → bad r = 0) (tail : List UInt8) : ∀ k, k ≤ rs.length → (scN (frames rs ++ tail) k).recs = rs.take k ∧ (scN (frames rs ++ tail) k).good = (frames (rs.take k)).length
  | 0, _ => by simp [scN, frames]
  | k + 1, hk => by
    obtain ⟨h1, h2⟩ := scN_frames rs hg tail k (by omega)
    have hlt : k < rs.length := by omega
    have hd := frames_drop hlt tail
    have hb := bad_zero (hg _ (List.getElem_mem hlt))
    obtain ⟨e1, e2, e3⟩ := rE_frame rs[k].1 rs[k].2 (frames (rs.drop (k + 1)) ++ tail) hb.1 hb.2
    have hle := congrArg List.length hd
    simp only [List.length_drop, List.length_append, frame_length] at hle
    have hgo : goes (frames rs ++ tail) (scN (frames rs ++ tail) k) := ⟨by rw [h2, List.length_append]; omega, by rw [h2, hd]; exact e1⟩
    rw [scN_succ hgo, h1, h2, hd, e2, e3]
    have hr : rs[k]? = some rs[k] := List.getElem?_eq_getElem hlt
    refine ⟨(take_succ_of hr).symm, ?_⟩
    show _ + _ = _
    rw [frames_take_succ hr, List.length_append, frame_length]
/-- A row of frames with something behind that is no frame. -/
theorem sc_frames (rs : List Rec) (hg : ∀ r, r ∈ rs → bad r = 0) (tail : List UInt8) (ht : tail = [] ∨ rE tail ≠ 0) :
    (sc (frames rs ++ tail)).recs = rs ∧ (sc (frames rs ++ tail)).good = (frames rs).length ∧ why (frames rs ++ tail) = if tail.length = 0 then 0 else rE tail := by
  obtain ⟨h1, h2⟩ := scN_frames rs hg tail rs.length (Nat.le_refl _)
  rw [List.take_length] at h1 h2
  have hd : (frames rs ++ tail).drop (scN (frames rs ++ tail) rs.length).good = tail := by rw [h2, List.drop_left' rfl]
  have hstop : ¬ goes (frames rs ++ tail) (scN (frames rs ++ tail) rs.length) := by
    rintro ⟨g1, g2⟩
    rw [hd] at g2
    rcases ht with rfl | ht
    · rw [h2, List.append_nil] at g1; omega
    · exact ht g2
  have hsc := sc_at (show rs.length ≤ (frames rs ++ tail).length by have := frames_ge rs; rw [List.length_append]; omega) hstop
  rw [hsc]
  refine ⟨h1, h2, ?_⟩
  by_cases h0 : tail.length = 0
  · rw [if_pos h0]
    exact why_end hsc (by rw [h2, List.length_append]; omega)
  · rw [if_neg h0, why_of hsc (by rw [h2, List.length_append]; omega), hd]
/-- A row of frames, cut: k frames are there whole. -/
theorem sc_cut (rs : List Rec) (hg : ∀ r, r ∈ rs → bad r = 0) (n k : Nat) (hn : n ≤ (frames rs).length) (hk : k ≤ rs.length) (h1 : (frames (rs.take k)).length ≤ n) (h2 : k = rs.length ∨ n < (frames (rs.take (k + 1))).length) :
    (sc ((frames rs).take n)).recs = rs.take k ∧ (sc ((frames rs).take n)).good = (frames (rs.take k)).length ∧ why ((frames rs).take n) = if (frames (rs.take k)).length = n then 0 else 170 := by
  obtain ⟨tail, he, htl, ht⟩ : ∃ tail, (frames rs).take n = frames (rs.take k) ++ tail ∧ tail.length = n - (frames (rs.take k)).length ∧ (tail = [] ∨ rE tail = 170) := by
    refine ⟨(frames (rs.drop k)).take (n - (frames (rs.take k)).length), ?_, ?_, ?_⟩
    · conv => lhs; rw [frames_split rs k, List.take_append, List.take_of_length_le h1]
    · rw [List.length_take]
      have := congrArg List.length (frames_split rs k)
      rw [List.length_append] at this
      omega
    · by_cases hkl : k < rs.length
      · have hr : rs[k]? = some rs[k] := List.getElem?_eq_getElem hkl
        have h3 : n < (frames (rs.take (k + 1))).length := h2.elim (fun h => absurd h (by omega)) id
        rw [frames_take_succ hr, List.length_append, frame_length] at h3
        rw [List.drop_eq_getElem_cons hkl, frames_cons, List.take_append_of_le_length (by rw [frame_length]; omega)]
        have hb := bad_zero (hg _ (List.getElem_mem hkl))
        by_cases h0 : n - (frames (rs.take k)).length = 0
        · left; rw [h0]; rfl
        · right; exact rE_part _ _ _ hb.1 hb.2 (by omega) (by omega)
      · left
        rw [List.drop_eq_nil_of_le (by omega)]
        simp [frames]
  have hgk : ∀ r, r ∈ rs.take k → bad r = 0 := fun r hr => hg r (List.mem_of_mem_take hr)
  obtain ⟨s1, s2, s3⟩ := sc_frames (rs.take k) hgk tail (ht.elim .inl (fun h => .inr (by rw [h]; decide)))
  rw [he]
  refine ⟨s1, s2, ?_⟩
  rw [s3, htl]
  by_cases h0 : (frames (rs.take k)).length = n
  · rw [if_pos h0, if_pos (by omega)]
  · rw [if_neg h0, if_neg (by omega)]
    rcases ht with h | h
    · rw [h] at htl; simp at htl; omega
    · exact h
theorem rE_zeros (k : Nat) (h : 0 < k) : rE (List.replicate k 0) = 171 := by
  refine rE_2 (by simp; omega) ?_
  cases k with
  | zero => omega
  | succ k => simp [List.replicate_succ, num]
end Go.Proofs.Ytnchjfhmalbjoaa
/- 'append(v, make([]byte, k)...)' onto a row of the call's own. -/
namespace Go.Proofs.Ytnchjfhmalbjoaa
open Go.RowKit
theorem zeroCells_u8 (k : Nat) : Builtin.zeroCells #[Value.int .u8 0] k = (List.replicate k (Value.int .u8 0)).toArray := by
  unfold Builtin.zeroCells
  apply Array.ext'
  simp only [Array.toList_map, List.toList_toArray]
  apply List.ext_getElem?
  intro i
  simp [List.getElem?_replicate, Nat.mod_one]
  by_cases h : i < k
  · simp [h]
  · simp [h]
theorem underlying_int_kind : Try.prog.underlying 3 = some (.int .i64) := Try.underlying3
theorem grown_row (w : World) (need cap : Nat) (xs : List Value) (hl : xs.length = need) (h1 : need ≤ cap) (h2 : cap ≤ maxLen) :
    Ow (w.drew.alloc (.cells (xs.toArray ++ Builtin.zeroCells #[.int .u8 0] (cap - need)) 5)) 5 1 (.slice (some ⟨w.heap.size, 0, none⟩) need cap) need xs := by
  refine ⟨by omega, .inr ⟨w.heap.size, cap, _, rfl, Nat.zero_le _, heap_alloc_new w.drew _, h1, h2, ?_, ?_⟩⟩
  · simp [size_zeroCells]; omega
  · rw [Array.toList_append, List.toList_toArray, Nat.mul_one, ← hl]
    exact List.take_left
theorem grown_by (w : World) (o : Obj) (row : Option Nat) : w.grownBy (w.drew.alloc o) row := ⟨rfl, rfl, rfl, by simp, fun k hk _ => Below.heap_alloc w.drew o k hk⟩
theorem run_app_zeros (w : World) (ty : TypeId) (v : Value) (n : Nat) (xs : List Value) (hown : Ow w 5 1 v n xs) (k : Nat) (hk : k ≤ 1073741824) (hn : n + k ≤ 140737488355328) :
    ∃ v' w', (Builtin.append_ #[23, 3] ty #[v, .int .i64 (k : Int)]).run Try.prog w = .ok v' w' ∧ Ow w' 5 1 v' (n + k) (xs ++ List.replicate k (.int .u8 0)) ∧ w.grownBy w' v.ownBlock ∧
      (v'.ownBlock = v.ownBlock ∨ v'.ownBlock = some w.heap.size) := by
  obtain ⟨i, hi, hz, hsz, hby⟩ := info_parts Try.infoU8
  have hwr : IntKind.i64.wrap (k : Int) = (k : Int) := IntWalk.i64_in _ (by omega)
  have hk0 : ¬ (k : Int) < 0 := by omega
  have hk48 : ¬ (281474976710656 < (k : Int)) := by omega
  have hl := hown.1
  rcases hown.2 with ⟨rfl, rfl⟩ | ⟨g, cap, cur, rfl, hbg, hg, hnc, hcm, hcs, htake⟩
  · have hx : xs = [] := List.eq_nil_of_length_eq_zero (by simpa using hl)
    subst hx
    by_cases h0 : k = 0
    · subst h0
      refine ⟨.slice none 0 0, w, ?_, World.ownsRow_nil _ _ _ _, World.grownBy.refl w _, .inl rfl⟩
      simp [Builtin.append_, run_underlying Try.underlying23, run_underlying underlying_int_kind, sizeOf, typeInfo, hi, hsz, hby, asInt, asIntOf, show IntKind.i64.wrap 0 = 0 from by decide]
    · have hne : ¬ k ≤ 0 := by omega
      have h63' : ¬ (9223372036854775807 < (k : Int)) := by omega
      have h48' : ¬ (281474976710656 < Builtin.nextslicecap k 0) := by rw [nextslicecap_zero (by omega)]; omega
      have hge := grownCap_ge w k 0 5
      have hcm := grownCap_le_maxLen w k 0 5 (by simp only [maxLen]; omega)
      have hr := grown_row w k _ (List.replicate k (Value.int .u8 0)) (List.length_replicate ..) hge hcm
      refine ⟨.slice (some ⟨w.heap.size, 0, none⟩) k (grownCap w k 0 5), _, ?_, by simpa using hr, grown_by w _ _, .inr rfl⟩
      simp [Builtin.append_, run_underlying Try.underlying23, run_underlying underlying_int_kind, sizeOf, typeInfo, zeroValue, hi, hz, hsz, hby, asInt, asIntOf, hwr, hk0, hk48, hne, h0, h63', h48', Question.forced, Builtin.firstCells, newRow, grownCap, Value.cells, zeroCells_u8]
  · by_cases hroom : n + k ≤ cap
    · have h1 : ∀ u ∈ List.replicate k (Value.int .u8 0), u.oneCell' = true := fun u hu => by rw [List.eq_of_mem_replicate hu]; rfl
      have hst := run_storeCells_at Try.prog g n 5 (List.replicate k (Value.int .u8 0)) 0 cur w hg (by simp; omega) h1
      simp only [Nat.add_zero] at hst
      have hs0 : ((cur.toList.take n ++ List.replicate k (Value.int .u8 0) ++ cur.toList.drop (n + (List.replicate k (Value.int .u8 0)).length)).toArray).size = cap * 1 := by
        simp only [List.size_toArray, List.length_append, List.length_take, List.length_drop, Array.length_toList, List.length_replicate]
        omega
      refine ⟨.slice (some ⟨g, 0, none⟩) (n + k) cap, w.setRow g (cur.toList.take n ++ List.replicate k (Value.int .u8 0) ++ cur.toList.drop (n + (List.replicate k (Value.int .u8 0)).length)).toArray, ?_, ⟨by simp; omega, .inr ⟨g, cap, _, rfl, hbg, setRow_heap w g cur _ 5 _ hg, hroom, hcm, hs0, ?_⟩⟩, ⟨rfl, rfl, rfl, by simp, fun j _ hj => setRow_other w g j _ (fun e => hj (by simp [Value.ownBlock, e]))⟩, .inl rfl⟩
      · by_cases h0 : k = 0
        · subst h0
          simp [Builtin.append_, run_underlying Try.underlying23, run_underlying underlying_int_kind, sizeOf, typeInfo, hi, hsz, hby, asInt, asIntOf, show IntKind.i64.wrap 0 = 0 from by decide, hnc, Addr.add_lit] at hst ⊢
          rw [hst]
          rfl
        · simp [Builtin.append_, run_underlying Try.underlying23, run_underlying underlying_int_kind, sizeOf, typeInfo, zeroValue, hi, hz, hsz, hby, asInt, asIntOf, hwr, hk0, hk48, h0, hroom, Value.cells, zeroCells_u8, Addr.add_lit]
          have := hst
          simp at this
          rw [this]
          rfl
      · rw [List.toList_toArray, Nat.mul_one, List.append_assoc]
        rw [Nat.mul_one] at htake
        rw [htake, ← List.append_assoc]
        refine List.take_left' (by simp; omega)
    · have hne : ¬ k = 0 := by omega
      have h63' : ¬ (9223372036854775807 < ((n : Int) + (k : Int))) := by omega
      have hfit := growslice_fits (old := cap) (show cap < n + k by omega) (show (n + k) * 1 ≤ 140737488355328 by omega)
      have h48' : ¬ (281474976710656 < Builtin.nextslicecap (n + k) cap) := by omega
      have hge := grownCap_ge w (n + k) cap 5
      have hcm' := grownCap_le_maxLen w (n + k) cap 5 (by simp only [maxLen]; omega)
      have hr := grown_row w (n + k) _ (xs ++ List.replicate k (Value.int .u8 0)) (by simp; omega) hge hcm'
      have holds : ∀ j u, xs[j]? = some u → w.drew.cell? ((⟨g, 0, none⟩ : Addr).add j) = some u := hown.cells (g := g) rfl
      have hfo := run_firstCells_some (P := Try.prog) w.drew 1 n ⟨g, 0, none⟩ n cap xs hl holds
      refine ⟨.slice (some ⟨w.heap.size, 0, none⟩) (n + k) (grownCap w (n + k) cap 5), _, ?_, hr, grown_by w _ _, .inr rfl⟩
      simp [Builtin.append_, run_underlying Try.underlying23, run_underlying underlying_int_kind, sizeOf, typeInfo, zeroValue, hi, hz, hsz, hby, asInt, asIntOf, hwr, hk0, hk48, hne, hroom, h63', h48', Question.forced, hfo, newRow, grownCap, Value.cells, zeroCells_u8]
      congr 2
      apply Array.ext'
      simp [zeroCells_u8, List.append_assoc, List.replicate_append_replicate]
/-- 'append(v, make([]byte, k)...)', as an operation; v a thing held. -/
theorem app_zeros {ops : Array Oper} {rest : List Oper} {o : Oper} {a : Act} {w : World} {Q : Exit → Act → World → Prop} (l1 : List Res) {w0 : World} {l2 : List Res} (hgd : o.guard = none) (s x : Operand)
    (ho : o.op = .call { callee := .builtin .append, args := #[s, x], argTypes := #[23, 3] })
    (v : Value) (xs : List UInt8) (hs : a.eval s = v) (S : Held w0 w (l1 ++ rowR 5 1 v xs.length (bv xs) :: l2))
    (k : Nat) (hx : a.eval x = .int .i64 (k : Int)) (hk : k ≤ 1073741824) (hb : xs.length + k ≤ 140737488355328)
    (h : ∀ v' w', Held w0 w' (l1 ++ rowR 5 1 v' (xs ++ List.replicate k 0).length (bv (xs ++ List.replicate k 0)) :: l2) → wpList Try.prog ops Q rest (a.put o.dst v') w') : wpList Try.prog ops Q (o :: rest) a w :=
  wpList_plain hgd fun K hK => by
    obtain ⟨v', w', hrun, h2, h3, h4⟩ := run_app_zeros w o.type v xs.length (bv xs) (S.at_) k hk hb
    have e : bv (xs ++ List.replicate k 0) = bv xs ++ List.replicate k (.int .u8 0) := by rw [bv_append]; simp [bv]
    unfold Oper.wp execOp
    simp only [ho, resolve, invoke, builtin, Sem.run_bind, Sem.run_pure, Result.andThen_ok, List.map_toArray, List.map_cons, List.map_nil, hs, hx, hrun]
    refine hK _ _ (h v' w' (S.grown ?_ (Kp.of_grown h3) h4))
    rw [e, List.length_append, List.length_replicate]
    exact h2
end Go.Proofs.Ytnchjfhmalbjoaa
/- The reference's SameRecords. -/
namespace Go.Proofs.Ytnchjfhmalbjoaa
open Go.RowKit
set_option maxRecDepth 100000 in
set_option maxHeartbeats 2000000 in
theorem samer_true (x y : Value) (rs : List Rec) (w : World) (hx : RecsIn w x rs) (hy : RecsIn w y rs) :
    Calls Try.prog 20 #[x, y] w fun e w' => e = .returned (.bool true) ∧ Kp [] w w' := by
  obtain ⟨A, c, rfl, hn1, hn2, hA, hat⟩ := hx.form
  obtain ⟨B, d, rfl, hm1, hm2, hB, hbt⟩ := hy.form
  have HA := Lib.hid hA
  have HB := Lib.hid hB
  have Hat := Lib.hid hat
  have Hbt := Lib.hid hbt
  clear hx hy hA hB hat hbt
  unfold maxLen at hn2 hm2
  go_enter Try.func20, Try.ntmps20
  go_wp2
  go_loopw [5] (fun i wr => ∃ k : Nat, k ≤ rs.length ∧ i = .int .i64 k ∧ Kp [] w wr) (fun i _ => rs.length - (intOf i).toNat)
  case atStart => exact ⟨0, Nat.zero_le _, rfl, Kp.refl _ _⟩
  case round =>
    obtain ⟨k, hk, rfl, hkp⟩ := hrel
    by_cases hlt : k < rs.length
    · obtain ⟨ad, rfl⟩ : ∃ ad, A = some ad := by
        cases A with
        | none => have := HA.out rfl; rw [this] at hlt; simp at hlt
        | some ad => exact ⟨ad, rfl⟩
      obtain ⟨bd, rfl⟩ : ∃ bd, B = some bd := by
        cases B with
        | none => have := HB.out rfl; rw [this] at hlt; simp at hlt
        | some ad => exact ⟨ad, rfl⟩
      have hr : rs[k]? = some rs[k] := List.getElem?_eq_getElem hlt
      obtain ⟨X, hX⟩ := Hat.out ad rfl k _ hr
      obtain ⟨Y, hY⟩ := Hbt.out bd rfl k _ hr
      obtain ⟨Ax, cx, rfl, -, -⟩ := rd_get hX.b
      obtain ⟨Ay, cy, rfl, -, -⟩ := rd_get hY.b
      clear hr
      generalize rs[k] = r at *
      obtain ⟨kd, body⟩ := r
      simp only at *
      have hq := kd.toNat_lt
      have HC : Hid (∀ V, Kp [] w V → V.cell? (ad.add (k * 2)) = some (.int .u8 (kd.toNat : Int)) ∧ V.cell? { block := (ad.add (k * 2)).block, off := (ad.add (k * 2)).off + 1 } = some (.slice Ax body.length cx) ∧ V.cell? (bd.add (k * 2)) = some (.int .u8 (kd.toNat : Int)) ∧ V.cell? { block := (bd.add (k * 2)).block, off := (bd.add (k * 2)).off + 1 } = some (.slice Ay body.length cy)) := Lib.hid (fun V kk => by
        have h0 := (hX.old kk).at_ 0 _ rfl
        have h1 := (hX.old kk).at_ 1 _ rfl
        have h2 := (hY.old kk).at_ 0 _ rfl
        have h3 := (hY.old kk).at_ 1 _ rfl
        rw [add_of_add, Nat.add_zero] at h0 h2
        exact ⟨h0, by first | exact h1 | simpa [World.cell?, Addr.add] using h1, h2, by first | exact h3 | simpa [World.cell?, Addr.add] using h3⟩)
      have RX := Lib.hid (fun (V : World) (kk : Kp [] w V) => (hX.old kk).b)
      have RY := Lib.hid (fun (V : World) (kk : Kp [] w V) => (hY.old kk).b)
      clear hX hY
      go_wp2
      refine wp_region_lexf [] [] (fun V : World => Kp [] w V) (by kernel_rfl) (by kernel_rfl) (hkp.drew) (fun σ hne f hf hsur => ?_); have Hsur := Lib.hid hsur; clear hsur
      have hfa := fun y => (HC.out _ (hf y)).1
      have hfb := fun y => (HC.out _ (hf y)).2.1
      have hfc := fun y => (HC.out _ (hf y)).2.2.1
      have hfd := fun y => (HC.out _ (hf y)).2.2.2
      clear hf
      go_wp2_with (first
        | (refine lex_qk (.string ⟨body.toArray⟩) rfl rfl (fun V hV => exec_conv rfl rfl (strB (RX.out V hV))) ?_; intro K hK; go_simp; refine hK _ _ ?_; clear hK K)
        | (refine lex_qk (.string ⟨body.toArray⟩) rfl rfl (fun V hV => exec_conv rfl rfl (strB (RY.out V hV))) ?_; intro K hK; go_simp; refine hK _ _ ?_; clear hK K)
        | (refine lex_qq Hsur.out rfl rfl rfl ?_; intro K hK; go_big_quiet_op; go_big_quiet_on) | (refine lex_skipk rfl ?_; intro K hK; go_simp; refine hK _ _ ?_; clear hK K) | (refine lex_e rfl rfl ?_; intro K hK; go_step) | (refine lex_nil ?_)
        | ((with_reducible apply And.intro); · (intro hl; first | (exact ls_absurd hl rfl) | exact hkp.drew)))
      go_roundw
      case rel => exact ⟨k + 1, by omega, by go_num, hkp.drew⟩
      case measure => simp [intOf]; omega
    · go_wp2
      go_ret
      exact ⟨rfl, hkp⟩
end Go.Proofs.Ytnchjfhmalbjoaa
/- RecordCuts: what the walk leans on. -/
namespace Go.Proofs.Ytnchjfhmalbjoaa
open Go.RowKit
theorem bodiesR_mem : ∀ (rs : List Rec) (Bs : List Value) (i : Nat) (r : Rec) (B : Value), rs[i]? = some r → Bs[i]? = some B → rowR 5 1 B r.2.length (bv r.2) ∈ bodiesR rs Bs
  | r0 :: rs, B0 :: Bs, 0, r, B, h1, h2 => by cases h1; cases h2; exact List.mem_cons_self ..
  | r0 :: rs, B0 :: Bs, i + 1, r, B, h1, h2 => List.mem_cons_of_mem _ (bodiesR_mem rs Bs i r B h1 h2)
  | [], _, _, _, _, h1, _ => by simp at h1
  | _ :: _, [], _, _, _, _, h2 => by simp at h2
theorem scan_recs {w w' : World} {v p : Value} {s : Sc} {Bs : List Value} (hB : s.recs.length = Bs.length) (S : Held w w' (scR v p s Bs)) : RecsIn w' v s.recs := by
  refine recsIn_row (S.at_ (l1 := [])) hB (fun i r B hr hb => ?_)
  have := S.ok _ (List.mem_cons_of_mem _ (List.mem_cons_of_mem _ (bodiesR_mem _ _ i r B hr hb)))
  exact Rd.of_own this
/-- Scan, where what it answers is known. -/
theorem scan_known (A : Option Addr) (c n : Nat) (b : List UInt8) (hbl : b.length = n) (hn : n ≤ 1073741824) (rs : List Rec) (gd wy : Nat) (h1 : (sc b).recs = rs) (h2 : (sc b).good = gd) (h3 : why b = wy) (W : World) (hx : Rd W 1 (.slice A n c) n (bv b)) :
    Calls Try.prog 19 #[.slice A n c] W fun e w' => ∃ Av cv Ap np cp, e = .returned (.agg #[.slice Av rs.length cv, .slice Ap np cp, .int .i64 (gd : Int), .int .i64 (wy : Int)]) ∧ Kp [] W w' ∧ RecsIn w' (.slice Av rs.length cv) rs := by
  subst hbl
  refine (scan_any A c b W hx (by omega) (by omega)).mono ?_
  rintro e w' ⟨v, p, Bs, rfl, hB, S⟩
  have hr := scan_recs hB S
  obtain ⟨Av, cv, rfl, _, _⟩ := ow_form (S.at_ (l1 := []))
  obtain ⟨Ap, cp, rfl, _, _⟩ := ow_form (S.at_ (l1 := [_]))
  rw [h2, h3, h1]
  rw [h1] at hr
  exact ⟨Av, cv, Ap, _, cp, rfl, S.k, hr⟩
theorem run_size_rec (w : World) : (sizeOf 25).run Try.prog w = .ok 2 w := by
  obtain ⟨i0, hi, hz0, hz1, hz2⟩ := info_parts Try.infoRec2
  simp [sizeOf, typeInfo, hi, hz1]
theorem cut_at_rec (w : World) (x : Value) (lo hi mx : Option Value) : (Instr.sliceAt 22 x lo hi mx).run Try.prog w = (Instr.slice 22 x lo hi mx).run Try.prog w := by
  simp [Instr.sliceAt, run_underlying Try.underlying22]
theorem elem_rec : Try.prog.elem 22 = 25 := by kernel_rfl
theorem und_rec : Try.prog.underlying 22 = some (.slice (Try.prog.elem 22)) := by rw [elem_rec]; exact Try.underlying22
theorem sliced_zero (A : Option Addr) (k c : Nat) : ∃ A' c', sliced A 0 k c 2 = .slice A' k c' ∧ k = k ∧ A' = A ∧ c' = c := by
  by_cases e : c = 0
  · exact ⟨A, c, by simp [sliced, e], rfl, rfl, rfl⟩
  · refine ⟨A, c, ?_, rfl, rfl, rfl⟩
    cases A with
    | none => simp [sliced, e]
    | some ad => simp [sliced, e, Addr.add]
/-- 'l[:k]'. -/
theorem cut_recs (A : Option Addr) (n c k : Nat) (h : Int) (hh : h = k) (hk : k ≤ n) (hc : n ≤ c) (w : World) : (Instr.sliceAt 22 (.slice A n c) none (some (.int .i64 h)) none).run Try.prog w = .ok (.slice A k c) w := by
  subst hh
  rw [cut_at_rec, run_slice_h w 22 A n c und_rec .i64 k (by omega) (by omega), elem_rec, run_size_rec]
  simp only [Result.andThen_ok, Int.toNat_natCast]
  obtain ⟨A', c', e, _, rfl, rfl⟩ := sliced_zero A k c
  rw [e]
theorem recs_take {W : World} {A : Option Addr} {c k : Nat} {rs : List Rec} (hk : k ≤ rs.length) (h : RecsIn W (.slice A rs.length c) rs) : RecsIn W (.slice A k c) (rs.take k) := by
  obtain ⟨A', c', e, h1, h2, h3, h4⟩ := h.form
  cases e
  have hl : (rs.take k).length = k := by rw [List.length_take]; omega
  refine ⟨⟨A, c, by rw [hl], by omega, h2, fun hA => by rw [h3 hA]; simp, fun ad had i r hr => h4 ad had i r ?_⟩⟩
  rw [List.getElem?_take] at hr
  split at hr
  · exact hr
  · cases hr
theorem rd_pre {W : World} {A : Option Addr} {n c k : Nat} {bs : List UInt8} (hk : k ≤ n) (h : Rd W 1 (.slice A n c) n (bv bs)) : Rd W 1 (.slice A k c) k (bv (bs.take k)) := by
  obtain ⟨hl, A', c', hv, h1, h2, h3, h4⟩ := h
  cases hv
  have hl2 : (bv bs).length = n := by omega
  rw [bv_length] at hl2
  refine ⟨by rw [bv_length, List.length_take]; omega, A, c, rfl, by omega, h2, (fun hA => by have := h3 hA; omega), fun ad had j u hu => h4 ad had j u ?_⟩
  rw [bv_get, List.getElem?_take] at hu
  rw [bv_get]
  split at hu
  · exact hu
  · cases hu
theorem and63 (n : Int) : ∃ k : Nat, k < 64 ∧ bits .and .i64 n 63 = (k : Int) := by
  have h : (BitVec.ofInt 64 n &&& BitVec.ofInt 64 63).toNat < 64 := by
    rw [BitVec.toNat_and]
    have := Nat.and_le_right (n := (BitVec.ofInt 64 n).toNat) (m := (BitVec.ofInt 64 63).toNat)
    have e : (BitVec.ofInt 64 63).toNat = 63 := by decide
    omega
  refine ⟨_, h, ?_⟩
  show IntKind.i64.wrap ((BitVec.ofInt 64 n &&& BitVec.ofInt 64 63).toNat : Int) = _
  exact IntWalk.i64_in _ (by omega)
theorem frames_take_mono (rs : List Rec) {i j : Nat} (h : i ≤ j) : (frames (rs.take i)).length ≤ (frames (rs.take j)).length := by
  have := frames_take_le (rs.take j) i
  rwa [List.take_take, Nat.min_eq_left h] at this
/-- How many frames are whole in the first n bytes. -/
theorem whole_at (rs : List Rec) (n : Nat) : ∃ k, k ≤ rs.length ∧ (frames (rs.take k)).length ≤ n ∧ (k = rs.length ∨ n < (frames (rs.take (k + 1))).length) := by
  have h : ∀ j, j ≤ rs.length → ∃ k, k ≤ j ∧ (frames (rs.take k)).length ≤ n ∧ (k = j ∨ n < (frames (rs.take (k + 1))).length) := by
    intro j
    induction j with
    | zero => intro _; exact ⟨0, Nat.le_refl _, by simp [frames], .inl rfl⟩
    | succ j ih =>
      intro hj
      obtain ⟨k, h1, h2, h3⟩ := ih (by omega)
      rcases h3 with rfl | h3
      · by_cases hn : (frames (rs.take (k + 1))).length ≤ n
        · exact ⟨k + 1, Nat.le_refl _, hn, .inl rfl⟩
        · exact ⟨k, by omega, h2, .inr (by omega)⟩
      · exact ⟨k, by omega, h2, .inr h3⟩
  exact h rs.length (Nat.le_refl _)
theorem rerr_good : ∀ {rs : List Rec}, rerr rs = 0 → ∀ r, r ∈ rs → bad r = 0
  | [], _, _, h => by cases h
  | r0 :: rs, h, r, hr => by
    unfold rerr at h
    by_cases h0 : bad r0 = 0
    · rw [if_pos h0] at h
      rcases List.mem_cons.1 hr with rfl | hr
      · exact h0
      · exact rerr_good h r hr
    · rw [if_neg h0] at h; exact absurd h h0
end Go.Proofs.Ytnchjfhmalbjoaa
/- RecordCuts: the walk. -/
namespace Go.Proofs.Ytnchjfhmalbjoaa
open Go.RowKit
set_option maxRecDepth 100000 in
set_option maxHeartbeats 1000000 in
theorem cuts_bad (rs : List Rec) (v : Value) (cut nz : Int) (w : World) (hv : RecsIn w v rs) (hfr : (frames rs).length ≤ 1073741000) (he : rerr rs ≠ 0) :
    Calls Try.prog 4 #[v, .int .i64 cut, .int .i64 nz] w fun e w' => e = .returned (.bool true) ∧ Kp [] w w' := by
  obtain ⟨A, c, rfl, hn1, hn2, hA, hat⟩ := hv.form
  have Hv := Lib.hid hv
  have HP := Lib.hid (fun (W : World) (u : Value) (h : RecsIn W u rs) => put_any u rs W h (by omega))
  have ho : outOf rs = [] := if_neg he
  unfold PutsPost at HP
  rw [ho] at HP
  have hee : ¬ ((rerr rs : Nat) : Int) = 0 := by omega
  generalize rerr rs = er at *
  clear hv hA hat ho he
  go_enter Try.func4, Try.ntmps4
  go_wp2_with (go_at_call 18; (with_reducible refine (known07_true _).mono ?_); rintro e w1 ⟨rfl, k1⟩)
  refine (HP.out w1 _ (Hv.out.old k1)).mono ?_
  rintro e w2 ⟨u, rfl, o2, k2, f2⟩
  obtain ⟨Au, cu, hu, _, _⟩ := ow_form o2
  subst hu
  have K2 := Lib.hid (k1.trans k2 (by simp))
  clear o2 k2 f2
  go_wp2_with (go_at_call 12; (with_reducible refine (num07_any _ _).mono ?_); rintro e w' ⟨rfl, rfl⟩)
  go_ret
  exact ⟨rfl, K2.out⟩

set_option maxRecDepth 100000 in
set_option maxHeartbeats 4000000 in
theorem cuts_good (rs : List Rec) (v : Value) (cut nz : Int) (hc : -9223372036854775808 ≤ cut ∧ cut ≤ 9223372036854775807) (hz : -9223372036854775808 ≤ nz ∧ nz ≤ 9223372036854775807) (w : World) (hv : RecsIn w v rs) (hl : rs.length ≤ 1073741824) (hfr : (frames rs).length ≤ 1073741000) (he : rerr rs = 0) :
    Calls Try.prog 4 #[v, .int .i64 cut, .int .i64 nz] w fun e w' => e = .returned (.bool true) ∧ Kp [] w w' := by
  obtain ⟨A, c, rfl, hn1, hn2, hA, hat⟩ := hv.form
  have Hv := Lib.hid hv
  have HA := Lib.hid hA
  have Hat := Lib.hid hat
  have HP := Lib.hid (fun (W : World) (u : Value) (h : RecsIn W u rs) => put_any u rs W h (by omega))
  have ho : outOf rs = frames rs := if_pos he
  have hg := rerr_good he
  unfold PutsPost at HP
  rw [ho, he] at HP
  unfold maxLen at hn2
  -- the numbers
  obtain ⟨a0, ha⟩ : ∃ a0, Int.tmod cut ((frames rs).length + 1) = a0 := ⟨_, rfl⟩
  have h1 := Int.tmod_lt_of_pos cut (show (0 : Int) < ((frames rs).length : Int) + 1 by omega)
  have h2 := Int.lt_tmod_of_pos cut (show (0 : Int) < ((frames rs).length : Int) + 1 by omega)
  rw [ha] at h1 h2
  obtain ⟨n, hn⟩ : ∃ n : Nat, (n : Int) = if a0 < 0 then a0 + (frames rs).length + 1 else a0 := ⟨(if a0 < 0 then a0 + (frames rs).length + 1 else a0).toNat, by split <;> omega⟩
  have hnl : n ≤ (frames rs).length := by split at hn <;> omega
  have Hn := Lib.hid hn
  clear hn
  obtain ⟨kz, hkz, hkb⟩ := and63 nz
  obtain ⟨k, hk1, hk2, hk3⟩ := whole_at rs n
  obtain ⟨s1, s2, s3⟩ := sc_cut rs hg n k hnl hk1 hk2 hk3
  obtain ⟨t1, t2, t3⟩ := sc_frames rs hg (List.replicate kz 0) (by
    by_cases h : kz = 0
    · left; rw [h]; rfl
    · right; rw [rE_zeros kz (by omega)]; decide)
  have ht3 : why (frames rs ++ List.replicate kz 0) = if kz = 0 then 0 else 171 := by
    rw [t3, List.length_replicate]
    by_cases h : kz = 0
    · rw [if_pos h, if_pos h]
    · rw [if_neg h, if_neg h]; exact rE_zeros kz (by omega)
  have HS1 := Lib.hid (fun (W : World) (A : Option Addr) (c : Nat) (h : Rd W 1 (.slice A n c) n (bv ((frames rs).take n))) => scan_known A c n _ (by rw [List.length_take]; omega) (by omega) _ _ _ s1 s2 s3 W h)
  have HS2 := Lib.hid (fun (W : World) (A : Option Addr) (c : Nat) (h : Rd W 1 (.slice A ((frames rs).length + kz) c) ((frames rs).length + kz) (bv (frames rs ++ List.replicate kz 0))) => scan_known A c ((frames rs).length + kz) _ (by simp) (by omega) _ _ _ t1 t2 ht3 W h)
  have hmono : Hid (∀ i, i ≤ k → (frames (rs.take i)).length ≤ (frames (rs.take k)).length) := Lib.hid (fun i hi => frames_take_mono rs hi)
  have hstep : Hid (∀ (i : Nat) (r : Rec), rs[i]? = some r → (frames (rs.take (i + 1))).length = (frames (rs.take i)).length + (r.2.length + 9) ∧ r.2.length ≤ 8388608) := Lib.hid (fun i r hr => ⟨by rw [frames_take_succ hr, List.length_append, frame_length], (bad_zero (hg r (List.mem_of_getElem? hr))).2⟩)
  have htl : (rs.take k).length = k := by rw [List.length_take]; omega
  rw [htl] at HS1
  generalize hgdk : (frames (rs.take k)).length = gk at *
  obtain ⟨wy, hwy⟩ : ∃ wy : Nat, (if gk = n then 0 else 170) = wy := ⟨_, rfl⟩
  rw [hwy] at HS1
  obtain ⟨wz, hwz⟩ : ∃ wz : Nat, (if kz = 0 then 0 else 171) = wz := ⟨_, rfl⟩
  rw [hwz] at HS2
  have Hgk := Lib.hid hgdk
  have Htl := Lib.hid htl
  clear hv hA hat ho he hg s1 s2 s3 t1 t2 t3 ht3 htl hgdk
  have hG0 : (frames (rs.take 0)).length = 0 := by simp [frames]
  have Hk3 := Lib.hid hk3
  clear hk3
  generalize hfrd : frames rs = fr at *
  have Hfrd := Lib.hid hfrd
  clear hfrd
  go_enter Try.func4, Try.ntmps4
  go_wp2_with (go_at_call 18; (with_reducible refine (known07_true _).mono ?_); rintro e w1 ⟨rfl, k1⟩)
  refine (HP.out w1 _ (Hv.out.old k1)).mono ?_
  rintro e w2 ⟨u, rfl, o2, k2, f2⟩
  obtain ⟨Au, cu, hu, hcu, hcm⟩ := ow_form o2
  subst hu
  unfold maxLen at hcm
  have K2 := Lib.hid (k1.trans k2 (by simp))
  have S2 : Hid (Held w w2 [rowR 5 1 (.slice Au fr.length cu) fr.length (bv fr)]) := Lib.hid (((Held.start w).kp k1).rownew o2 k2 f2)
  clear o2 k2 f2 k1
  go_wp2_with (go_at_call 12; (with_reducible refine (num07_any _ _).mono ?_); rintro e w' ⟨rfl, rfl⟩)
  all_goals
    first
      | (have e2 : a0 + (fr.length : Int) + 1 = (n : Int) := by rw [Hn.out, if_pos (by omega)]
         rw [e2, Int.toNat_natCast])
      | (have e2 : a0 = (n : Int) := by rw [Hn.out, if_neg (by omega)]
         rw [e2, Int.toNat_natCast])
    clear Hn ha h1 h2
    have R2 := (Rd.of_own (S2.out.at_ (l1 := [])))
    have R3 : Rd w2 1 (.slice Au n cu) n (bv (fr.take n)) := rd_pre hnl R2
    refine (HS1.out _ _ _ R3).mono ?_
    rintro e w3 ⟨A3, c3, P3, q3, d3, rfl, k3, r3⟩
    have K3 := Lib.hid (k3.alloc (.cells #[.slice A3 k c3, .slice P3 q3 d3, .int .i64 (gk : Int), .int .i64 (wy : Int)] 40))
    have S3 := Lib.hid (Held.start (w3.alloc (.cells #[.slice A3 k c3, .slice P3 q3 d3, .int .i64 (gk : Int), .int .i64 (wy : Int)] 40)))
    have B3 := Lib.hid (Blk.new w3 40 #[.slice A3 k c3, .slice P3 q3 d3, .int .i64 (gk : Int), .int .i64 (wy : Int)])
    have M3 := Lib.hid (r3.old ((Kp.refl [] w3).alloc (.cells #[.slice A3 k c3, .slice P3 q3 d3, .int .i64 (gk : Int), .int .i64 (wy : Int)] 40)))
    have RB3 := Lib.hid (rd_old R2 K3.out)
    clear k3 r3 R2 R3
    go_wp2_with (first
      | (at_builtin; refine app_new rfl (.const (.slice none 0 0)) (.tmp 46) rfl rfl S3.out (.slice Au fr.length cu) fr rfl RB3.out (by omega) ?_; intro v4 w4 S4'; obtain ⟨A4, c4, hv4, _, _⟩ := ow_form (S4'.at_ (l1 := [])); subst hv4; have S4 := Lib.hid S4'; clear S4')
      | (at_builtin; refine app_zeros [] rfl (.tmp 47) (.tmp 49) rfl (.slice A4 fr.length c4) fr rfl S4.out kz rfl (by omega) (by omega) ?_; intro v5 w5 S5'; rw [List.length_append, List.length_replicate] at S5'; obtain ⟨A5, c5, hv5, _, _⟩ := ow_form (S5'.at_ (l1 := [])); subst hv5; have S5 := Lib.hid S5'; clear S5'))
    refine (HS2.out _ _ _ (Rd.of_own (S5.out.at_ (l1 := [])))).mono ?_
    rintro e w6 ⟨A6, c6, P6, q6, d6, rfl, k6, r6⟩
    have K36 := (S5.out.k.trans k6 (by simp)).alloc (.cells #[.slice A6 rs.length c6, .slice P6 q6 d6, .int .i64 (fr.length : Int), .int .i64 (wz : Int)] 40)
    have B6 := Lib.hid (Blk.new w6 40 #[.slice A6 rs.length c6, .slice P6 q6 d6, .int .i64 (fr.length : Int), .int .i64 (wz : Int)])
    have BL := Lib.hid (B3.out.kp K36 (by simp))
    have ML := Lib.hid (M3.out.old K36)
    have RL := Lib.hid (rd_old RB3.out K36)
    have KL := Lib.hid ((K2.out.trans K3.out (by simp)).trans K36 (by simp))
    have M6 := Lib.hid (r6.old ((Kp.refl [] w6).alloc (.cells #[.slice A6 rs.length c6, .slice P6 q6 d6, .int .i64 (fr.length : Int), .int .i64 (wz : Int)] 40)))
    clear k6 r6 S5 S4 S3 B3 M3 RB3 K36 K3 S2 K2 HS1 HS2 hkz
    go_wp2
    generalize w3.heap.size = g3 at *
    generalize w6.heap.size = g6 at *
    generalize w6.alloc (.cells #[.slice A6 rs.length c6, .slice P6 q6 d6, .int .i64 (fr.length : Int), .int .i64 (wz : Int)] 40) = wL at *
    clear w3 w4 w5 w6
    go_loopw [12, 13, 14] (fun wh gd i wr => ∃ j : Nat, j ≤ k ∧ wh = .int .i64 j ∧ gd = .int .i64 ((frames (rs.take j)).length : Int) ∧ i = .int .i64 j ∧ wr = wL) (fun _ _ i _ => k - (intOf i).toNat)
    case atStart => exact ⟨0, Nat.zero_le _, rfl, by rw [hG0]; rfl, rfl, rfl⟩
    case round =>
      obtain ⟨j, hj, rfl, rfl, rfl, rfl⟩ := hrel
      have HA2 : Hid (j < rs.length → ∃ ad, A = some ad) := Lib.hid (fun hlt => by
        cases A with
        | none => have := HA.out rfl; rw [this] at hlt; simp at hlt
        | some ad => exact ⟨ad, rfl⟩)
      have HC : Hid (∀ ad, A = some ad → ∀ r, rs[j]? = some r → ∃ Ab cb, wr.cell? { block := (ad.add (j * 2)).block, off := (ad.add (j * 2)).off + 1 } = some (.slice Ab r.2.length cb)) := Lib.hid (fun ad had r hr => by
        obtain ⟨B, hB0⟩ := Hat.out ad had j r hr
        obtain ⟨Ab, cb, rfl, -, -⟩ := rd_get hB0.b
        have h1 := (hB0.old KL.out).at_ 1 _ rfl
        exact ⟨Ab, cb, by first | exact h1 | simpa [World.cell?, Addr.add] using h1⟩)
      by_cases hlt : j < k
      · obtain ⟨ad, rfl⟩ := HA2.out (by omega)
        have hr : rs[j]? = some rs[j] := List.getElem?_eq_getElem (by omega)
        obtain ⟨Ab, cb, hcell⟩ := HC.out ad rfl _ hr
        obtain ⟨hst, hbl⟩ := hstep.out j _ hr
        have hm := hmono.out (j + 1) (by omega)
        rw [hst] at hm
        have hjl : j < rs.length := by omega
        have Hst := Lib.hid hst
        clear hr HC HA2 hst
        generalize rs[j].2.length = bl at *
        generalize (frames (rs.take j)).length = q at *
        have HZ : Hid (∀ V : World, Calls Try.prog 14 #[.int .i64 (bl : Int)] V fun e w' => e = .returned (.int .i64 ((bl : Int) + 9)) ∧ V = w') := Lib.hid (fun V => by
          have := size_any (bl : Int) (by omega) V
          rwa [fsize_yes (by omega)] at this)
        go_wp2_with (go_at_call 14; (with_reducible refine (HZ.out _).mono ?_); rintro e w' ⟨rfl, rfl⟩)
        go_roundw
        case rel => exact ⟨j + 1, by omega, by go_num, by rw [Hst.out]; go_num, by go_num, trivial⟩
        case measure => simp [intOf]; omega
      · obtain rfl : j = k := by omega
        rw [Hgk.out]
        have HvL := Lib.hid (Hv.out.old KL.out)
        have hwyc : (gk = n ∧ wy = 0) ∨ (gk < n ∧ wy = 170) := by
          by_cases h : gk = n
          · left; rw [if_pos h] at hwy; exact ⟨h, hwy.symm⟩
          · right; rw [if_neg h] at hwy; exact ⟨by omega, hwy.symm⟩
        have hwzc : (kz = 0 ∧ wz = 0) ∨ (0 < kz ∧ wz = 171) := by
          by_cases h : kz = 0
          · left; rw [if_pos h] at hwz; exact ⟨h, hwz.symm⟩
          · right; rw [if_neg h] at hwz; exact ⟨by omega, hwz.symm⟩
        obtain ⟨b31, -, b33, b34, -⟩ := BL.out.c4
        have run1 := fun W => cut_recs A rs.length c j (j : Int) rfl hk1 hn1 W
        have T0 : Hid (Kp [] wr wr.drew) := Lib.hid ((Kp.refl [] wr).drew)
        clear hwy hwz hmono Hat Htl hG0 HA
        by_cases hkl : j < rs.length
        · obtain ⟨ad, rfl⟩ := HA2.out hkl
          have hr : rs[j]? = some rs[j] := List.getElem?_eq_getElem hkl
          obtain ⟨Ab, cb, hcell⟩ := HC.out ad rfl _ hr
          obtain ⟨hst, hbl⟩ := hstep.out j _ hr
          have hnx := Hk3.out.elim (fun h => absurd h (by omega)) id
          rw [hst, Hgk.out] at hnx
          clear hr HC HA2 hst Hk3 hstep Hgk
          generalize rs[j].2.length = bl at *
          have HZ : Hid (∀ V : World, Calls Try.prog 14 #[.int .i64 (bl : Int)] V fun e w' => e = .returned (.int .i64 ((bl : Int) + 9)) ∧ V = w') := Lib.hid (fun V => by
            have := size_any (bl : Int) (by omega) V
            rwa [fsize_yes (by omega)] at this)
          rcases hwyc with ⟨hq1, rfl⟩ | ⟨hq1, rfl⟩ <;> rcases hwzc with ⟨hq2, rfl⟩ | ⟨hq2, rfl⟩
          all_goals
            go_wp2_with (first | (go_at_call 14; (with_reducible refine (HZ.out _).mono ?_); rintro e w' ⟨rfl, rfl⟩) | (go_at_call 12; (with_reducible refine (num07_any _ _).mono ?_); rintro e w' ⟨rfl, rfl⟩))
            refine wp_region_lexf [5, 11, 28] [] (fun V : World => Kp [] wr V) (by kernel_rfl) (by kernel_rfl) T0.out (fun σ hne f hf hsur => ?_); have Hsur := Lib.hid hsur; clear hsur
            have q1 := fun y => (BL.out.kp (hf y) (by simp)).c4.1
            have q2 := fun y => (B6.out.kp (hf y) (by simp)).c4.1
            have q3 := fun y => (B6.out.kp (hf y) (by simp)).c4.2.2.1
            have q4 := fun y => (B6.out.kp (hf y) (by simp)).c4.2.2.2.1
            clear hf
            go_wp2_with (first
              | (refine lex_qq Hsur.out rfl rfl rfl ?_; intro K hK; go_big_quiet_op; go_big_quiet_on) | (refine lex_skipk rfl ?_; intro K hK; go_simp; refine hK _ _ ?_; clear hK K) | (refine lex_e rfl rfl ?_; intro K hK; go_step) | (refine lex_nil ?_)
              | (go_at_call 20; ((with_reducible refine (samer_true _ _ (rs.take j) _ (ML.out.old T0.out) (recs_take hk1 (HvL.out.old T0.out))).mono ?_); rintro e w7 ⟨rfl, k7⟩; have T7 := Lib.hid (T0.out.trans k7 (by simp)); clear k7))
              | (go_at_call 20; ((with_reducible refine (samer_true _ _ rs _ (M6.out.old T7.out) (HvL.out.old T7.out)).mono ?_); rintro e w8 ⟨rfl, k8⟩; have T8 := Lib.hid (T7.out.trans k8 (by simp)); have q5 := (B6.out.kp T8.out (by simp)).c4.1; clear k8))
              | (go_at_call 12; (with_reducible refine (num07_any _ _).mono ?_); rintro e w' ⟨rfl, rfl⟩)
              | ((with_reducible apply And.intro); · (intro hl; first | (exact ls_absurd hl rfl) | exact T8.out))
              | ((with_reducible apply And.intro); · (intro hl; first | (exact ls_absurd hl rfl) | exact T7.out)))
            refine (HP.out _ _ (M6.out.old T8.out)).mono ?_
            rintro e w9 ⟨u9, rfl, o9, k9, f9⟩
            obtain ⟨A9, c9, hu9, _, _⟩ := ow_form o9
            subst hu9
            have R9 := Lib.hid (Rd.of_own o9)
            have K9 := Lib.hid (T8.out.trans k9 (by simp))
            clear o9 k9 f9 q5
            go_wp2_with (first
              | (go_at_call 12; (with_reducible refine (num07_any _ _).mono ?_); rintro e w' ⟨rfl, rfl⟩)
              | (go_at_call 13; (with_reducible refine (same_true _ _ fr _ _ _ R9.out (rd_old RL.out K9.out)).mono ?_); rintro e w' ⟨rfl, rfl⟩))
            go_ret
            exact ⟨rfl, KL.out.trans K9.out (by simp)⟩
        · clear HC HA2
          obtain rfl : j = rs.length := by omega
          rcases hwyc with ⟨hq1, rfl⟩ | ⟨hq1, rfl⟩ <;> rcases hwzc with ⟨hq2, rfl⟩ | ⟨hq2, rfl⟩
          all_goals
            clear Hk3
            go_wp2_with (go_at_call 12; (with_reducible refine (num07_any _ _).mono ?_); rintro e w' ⟨rfl, rfl⟩)
            refine wp_region_lexf [5, 11, 28] [] (fun V : World => Kp [] wr V) (by kernel_rfl) (by kernel_rfl) T0.out (fun σ hne f hf hsur => ?_); have Hsur := Lib.hid hsur; clear hsur
            have q1 := fun y => (BL.out.kp (hf y) (by simp)).c4.1
            have q2 := fun y => (B6.out.kp (hf y) (by simp)).c4.1
            have q3 := fun y => (B6.out.kp (hf y) (by simp)).c4.2.2.1
            have q4 := fun y => (B6.out.kp (hf y) (by simp)).c4.2.2.2.1
            clear hf
            go_wp2_with (first
              | (refine lex_qq Hsur.out rfl rfl rfl ?_; intro K hK; go_big_quiet_op; go_big_quiet_on) | (refine lex_skipk rfl ?_; intro K hK; go_simp; refine hK _ _ ?_; clear hK K) | (refine lex_e rfl rfl ?_; intro K hK; go_step) | (refine lex_nil ?_)
              | (go_at_call 20; ((with_reducible refine (samer_true _ _ (rs.take rs.length) _ (ML.out.old T0.out) (recs_take hk1 (HvL.out.old T0.out))).mono ?_); rintro e w7 ⟨rfl, k7⟩; have T7 := Lib.hid (T0.out.trans k7 (by simp)); clear k7))
              | (go_at_call 20; ((with_reducible refine (samer_true _ _ rs _ (M6.out.old T7.out) (HvL.out.old T7.out)).mono ?_); rintro e w8 ⟨rfl, k8⟩; have T8 := Lib.hid (T7.out.trans k8 (by simp)); have q5 := (B6.out.kp T8.out (by simp)).c4.1; clear k8))
              | (go_at_call 12; (with_reducible refine (num07_any _ _).mono ?_); rintro e w' ⟨rfl, rfl⟩)
              | ((with_reducible apply And.intro); · (intro hl; first | (exact ls_absurd hl rfl) | exact T8.out))
              | ((with_reducible apply And.intro); · (intro hl; first | (exact ls_absurd hl rfl) | exact T7.out)))
            refine (HP.out _ _ (M6.out.old T8.out)).mono ?_
            rintro e w9 ⟨u9, rfl, o9, k9, f9⟩
            obtain ⟨A9, c9, hu9, _, _⟩ := ow_form o9
            subst hu9
            have R9 := Lib.hid (Rd.of_own o9)
            have K9 := Lib.hid (T8.out.trans k9 (by simp))
            clear o9 k9 f9 q5
            go_wp2_with (first
              | (go_at_call 12; (with_reducible refine (num07_any _ _).mono ?_); rintro e w' ⟨rfl, rfl⟩)
              | (go_at_call 13; (with_reducible refine (same_true _ _ fr _ _ _ R9.out (rd_old RL.out K9.out)).mono ?_); rintro e w' ⟨rfl, rfl⟩))
            go_ret
            exact ⟨rfl, KL.out.trans K9.out (by simp)⟩
end Go.Proofs.Ytnchjfhmalbjoaa
/- RecordCuts, where what it reads is of bounded bulk. -/
namespace Go.Proofs.Ytnchjfhmalbjoaa
open Go.RowKit
theorem cuts_upto (w : World) (rs : List Rec) (v : Value) (hv : RecsIn w v rs) (hb : RecsLe rs 1048576) (cut : Int) (hc : -9223372036854775808 ≤ cut ∧ cut ≤ 9223372036854775807) (nz : Int) (hz : -9223372036854775808 ≤ nz ∧ nz ≤ 9223372036854775807) :
    Calls Try.prog 4 #[v, .int .i64 cut, .int .i64 nz] w fun e w' => e = .returned (.bool true) ∧ Kp [] w w' := by
  have h1 := hb.n
  have h2 := hb.all
  by_cases he : rerr rs = 0
  · exact cuts_good rs v cut nz hc hz w hv (by omega) (by omega) he
  · exact cuts_bad rs v cut nz w hv (by omega) he
end Go.Proofs.Ytnchjfhmalbjoaa
