/- Several texts in one: EntV, EntW, SepIn, EntX, EntY. -/
import Derived.Test.YtdmdnphbheomoaaP7
/- Fits of entry: does a batch go with a log? -/
namespace Go.Proofs.Ytdmdnphbheomoaa
open Go.RowKit
theorem rd_frontv {W : World} {A : Option Addr} {n c k : Nat} {xs : List Value} (hk : k ≤ n) (h : Rd W 1 (.slice A n c) n xs) : Rd W 1 (.slice A k c) k (xs.take k) := by
  obtain ⟨hl, A', c', hv, h1, h2, h3, h4⟩ := h
  cases hv
  refine ⟨by rw [List.length_take]; omega, A, c, rfl, by omega, h2, (fun hA => by have := h3 hA; omega), fun ad had j u hu => h4 ad had j u ?_⟩
  rw [List.getElem?_take] at hu
  split at hu
  · exact hu
  · cases hu
theorem txs_len {W : World} {A : Option Addr} {n c : Nat} {L : List (List UInt8)} (h : Txs W (.slice A n c) L) : n = L.length ∧ n ≤ c ∧ L.length ≤ 9223372036854775807 := by
  obtain ⟨vs, ⟨_, A', c', hv, h1, h2, _⟩, _⟩ := h
  cases hv
  unfold maxLen at h2
  exact ⟨rfl, h1, by omega⟩
theorem txs_front {W : World} {A : Option Addr} {n c k : Nat} {L : List (List UInt8)} (hk : k ≤ n) (h : Txs W (.slice A n c) L) : Txs W (.slice A k c) (L.take k) := by
  obtain ⟨rfl, _⟩ := txs_len h
  obtain ⟨vs, hr, hel⟩ := h
  have hl : (L.take k).length = k := by rw [List.length_take]; omega
  refine ⟨vs.take k, by rw [hl]; exact rd_frontv hk hr, fun i hi => ?_⟩
  obtain ⟨u, h1, h2⟩ := hel i (by omega)
  refine ⟨u, by rw [List.getElem?_take, if_pos (by omega)]; exact h1, ?_⟩
  rw [List.getElem_take]
  exact h2
theorem cut_textsl (kd : IntKind) (A : Option Addr) (n c lo : Nat) (l : Int) (hl : l = lo) (hlo : lo ≤ n) : ∃ A' c', (∀ w, (Instr.sliceAt 22 (.slice A n c) (some (.int kd l)) none none).run Try.prog w = .ok (.slice A' (n - lo) c') w) ∧
    ∀ (W : World) (L : List (List UInt8)), Txs W (.slice A n c) L → Txs W (.slice A' (n - lo) c') (L.drop lo) := by
  subst hl
  have key : ∃ A' c', sliced A lo (lo + (n - lo)) c 1 = .slice A' (n - lo) c' ∧ ∀ (W : World) (xs : List Value), Rd W 1 (.slice A n c) n xs → Rd W 1 (.slice A' (n - lo) c') (n - lo) ((xs.drop lo).take (n - lo)) := by
    by_cases e : c = lo
    · exact ⟨A, c - lo, by simp [sliced, e], fun W xs h1 => h1.cut0 (a := lo) (k := n - lo) (by omega) e⟩
    · exact ⟨A.map (fun x => x.add lo), c - lo, by simp [sliced, e], fun W xs h1 => h1.cut (a := lo) (k := n - lo) (by omega) e⟩
  obtain ⟨A', c', e, h1⟩ := key
  refine ⟨A', c', fun w => ?_, fun W L h => ?_⟩
  · rw [cut_at_texts, run_slice_l w 22 A n c und_texts kd lo (by omega) (by omega), elem_texts, run_size_bytes]
    simp only [Result.andThen_ok, Int.toNat_natCast]
    rw [show lo + (n - lo) = n by omega] at e
    rw [e]
  · obtain ⟨rfl, _⟩ := txs_len h
    obtain ⟨vs, hr, hel⟩ := h
    have hl : (L.drop lo).length = L.length - lo := List.length_drop ..
    have hvl : vs.length = L.length := by have := hr.1; omega
    have hr2 := h1 W vs hr
    rw [List.take_of_length_le (by rw [List.length_drop]; omega)] at hr2
    refine ⟨vs.drop lo, by rw [hl]; exact hr2, fun i hi => ?_⟩
    obtain ⟨u, h2, h3⟩ := hel (lo + i) (by omega)
    refine ⟨u, by rw [List.getElem?_drop]; exact h2, ?_⟩
    rw [List.getElem_drop]
    exact h3
/-- Does a batch go with a log? -/
def fitsB (f : Int) (L G : List (List UInt8)) : Bool :=
  if f < 0 ∨ (G.length : Int) < f then false else L.take (min (G.length - f.toNat) L.length) == (G.drop f.toNat).take (min (G.length - f.toNat) L.length)
set_option maxRecDepth 100000 in
set_option maxHeartbeats 4000000 in
theorem fits_any (f : Int) (hf : -9223372036854775808 ≤ f ∧ f ≤ 9223372036854775807) (v y : Value) (L G : List (List UInt8)) (w : World) (hv : Txs w v L) (hy : Txs w y G) :
    Calls Try.prog 34 #[.agg #[.int .i64 f, v], y] w fun e w' => e = .returned (.bool (fitsB f L G)) ∧ Kp [] w w' := by
  obtain ⟨A, c, rfl, -, -⟩ := hv.open_
  obtain ⟨B, d, rfl, -, -⟩ := hy.open_
  obtain ⟨-, hAc, hL⟩ := txs_len hv
  obtain ⟨-, hBd, hG⟩ := txs_len hy
  have K1 := Lib.hid ((Kp.refl [] w).alloc (.cells #[.int .i64 f, .slice A L.length c] 24))
  by_cases h1 : f < 0
  · have Hr : Hid (fitsB f L G = false) := Lib.hid (if_pos (.inl h1))
    go_enter Try.func34, Try.ntmps34
    go_wp2
    go_ret
    exact ⟨by rw [Hr.out]; rfl, K1.out⟩
  · by_cases h2 : (G.length : Int) < f
    · have Hr : Hid (fitsB f L G = false) := Lib.hid (if_pos (.inr h2))
      go_enter Try.func34, Try.ntmps34
      go_wp2
      go_ret
      exact ⟨by rw [Hr.out]; rfl, K1.out⟩
    · obtain ⟨lo, rfl⟩ : ∃ lo : Nat, f = lo := ⟨f.toNat, by omega⟩
      obtain ⟨B', d', q1, q2⟩ := cut_textsl .i64 B G.length d lo lo rfl (by omega)
      have Q2 := Lib.hid (q2 w G hy)
      obtain ⟨n, HN⟩ : ∃ n, Hid (min (G.length - lo) L.length = n) := ⟨_, Lib.hid rfl⟩
      have hn1 : n ≤ G.length - lo := by rw [← HN.out]; omega
      have hn2 : n ≤ L.length := by rw [← HN.out]; omega
      have HR : Hid (fitsB lo L G = (L.take n == (G.drop lo).take n)) := Lib.hid (by unfold fitsB; rw [if_neg (by omega), Int.toNat_natCast, HN.out])
      have HV := Lib.hid hv
      have hdl : G.length - lo ≤ d' := (txs_len Q2.out).2.1
      clear q2 hv hy
      by_cases hm : L.length < G.length - lo
      · have hmi : (L.length : Int) < ((G.length - lo : Nat) : Int) := by omega
        have en : n = L.length := by have := HN.out; omega
        rw [en] at HR
        have qa := fun V => cut_texts A L.length c L.length (L.length : Int) rfl (by omega) hAc V
        have qb := fun V => cut_texts B' (G.length - lo) d' L.length (L.length : Int) rfl (by omega) hdl V
        have XA := Lib.hid (txs_front (k := L.length) (by omega) (HV.out.kp0 K1.out))
        have XB := Lib.hid (txs_front (k := L.length) (by omega) (Q2.out.kp0 K1.out))
        generalize L.take L.length = P at HR XA
        generalize (G.drop lo).take L.length = R at HR XB
        have BG := Lib.hid (Blk.new w 24 #[.int .i64 (lo : Int), .slice A L.length c])
        clear en HN
        go_enter Try.func34, Try.ntmps34
        go_wp2_with fail
        generalize hw1 : w.alloc (.cells #[.int .i64 (lo : Int), .slice A L.length c] 24) = w1 at *
        generalize hg1 : w.heap.size = g1 at *
        have T0 := Lib.hid ((Kp.refl [] w1).drew)
        refine wp_region_lexf [7] [] (fun V : World => Kp [] w1 V) (by kernel_rfl) (by kernel_rfl) T0.out (fun σ hne fw hf hsur => ?_); have Hsur := Lib.hid hsur; clear hsur
        have q0 := fun y => (Blk.c2 (BG.out.kp (hf y) (by simp))).1
        have q2 := fun y => (Blk.c2 (BG.out.kp (hf y) (by simp))).2.1
        clear hf
        go_wp2_with (first
          | (refine lex_qq Hsur.out rfl rfl rfl ?_; intro K hK; go_big_quiet_op; go_big_quiet_on) | (refine lex_skipk rfl ?_; intro K hK; go_simp; refine hK _ _ ?_; clear hK K) | (refine lex_e rfl rfl ?_; intro K hK; go_step) | (refine lex_nil ?_)
          | (go_at_call 30; ((with_reducible refine (esame_any _ _ P R _ (XA.out.kp0 T0.out) (XB.out.kp0 T0.out)).mono ?_); rintro r w2 ⟨rfl, k2⟩; have T2 := Lib.hid (T0.out.trans k2 (by simp)); clear k2))
          | ((with_reducible apply And.intro); · (intro hl; first | (exact ls_absurd hl rfl) | exact T2.out))
          | ((with_reducible apply And.intro); · (intro hl; first | (exact ls_absurd hl rfl) | exact T0.out)))
        go_ret
        exact ⟨by rw [HR.out]; rfl, K1.out.trans T2.out (by simp)⟩
      · have hmi : ¬ (L.length : Int) < ((G.length - lo : Nat) : Int) := by omega
        have en : n = (G.length - lo) := by have := HN.out; omega
        rw [en] at HR
        have qa := fun V => cut_texts A L.length c (G.length - lo) ((G.length - lo : Nat) : Int) rfl (by omega) hAc V
        have qb := fun V => cut_texts B' (G.length - lo) d' (G.length - lo) ((G.length - lo : Nat) : Int) rfl (by omega) hdl V
        have XA := Lib.hid (txs_front (k := (G.length - lo)) (by omega) (HV.out.kp0 K1.out))
        have XB := Lib.hid (txs_front (k := (G.length - lo)) (by omega) (Q2.out.kp0 K1.out))
        generalize L.take (G.length - lo) = P at HR XA
        generalize (G.drop lo).take (G.length - lo) = R at HR XB
        have BG := Lib.hid (Blk.new w 24 #[.int .i64 (lo : Int), .slice A L.length c])
        clear en HN
        go_enter Try.func34, Try.ntmps34
        go_wp2_with fail
        generalize hw1 : w.alloc (.cells #[.int .i64 (lo : Int), .slice A L.length c] 24) = w1 at *
        generalize hg1 : w.heap.size = g1 at *
        have T0 := Lib.hid ((Kp.refl [] w1).drew)
        refine wp_region_lexf [7] [] (fun V : World => Kp [] w1 V) (by kernel_rfl) (by kernel_rfl) T0.out (fun σ hne fw hf hsur => ?_); have Hsur := Lib.hid hsur; clear hsur
        have q0 := fun y => (Blk.c2 (BG.out.kp (hf y) (by simp))).1
        have q2 := fun y => (Blk.c2 (BG.out.kp (hf y) (by simp))).2.1
        clear hf
        go_wp2_with (first
          | (refine lex_qq Hsur.out rfl rfl rfl ?_; intro K hK; go_big_quiet_op; go_big_quiet_on) | (refine lex_skipk rfl ?_; intro K hK; go_simp; refine hK _ _ ?_; clear hK K) | (refine lex_e rfl rfl ?_; intro K hK; go_step) | (refine lex_nil ?_)
          | (go_at_call 30; ((with_reducible refine (esame_any _ _ P R _ (XA.out.kp0 T0.out) (XB.out.kp0 T0.out)).mono ?_); rintro r w2 ⟨rfl, k2⟩; have T2 := Lib.hid (T0.out.trans k2 (by simp)); clear k2))
          | ((with_reducible apply And.intro); · (intro hl; first | (exact ls_absurd hl rfl) | exact T2.out))
          | ((with_reducible apply And.intro); · (intro hl; first | (exact ls_absurd hl rfl) | exact T0.out)))
        go_ret
        exact ⟨by rw [HR.out]; rfl, K1.out.trans T2.out (by simp)⟩
end Go.Proofs.Ytdmdnphbheomoaa
/- bytes.Clone; slices.Values over texts, as an iterator. -/
namespace Go.Proofs.Ytdmdnphbheomoaa
open Go.RowKit Go.Shelf
attribute [local go_sem] Oper.semAt_some
set_option maxRecDepth 100000 in
set_option maxHeartbeats 2000000 in
theorem clone15_any (x : Value) (l : List UInt8) (w : World) (hx : Rd w 1 x l.length (bv l)) (hn : l.length ≤ 140737488355200) :
    Calls Try.prog 59 #[x] w fun r w' => ∃ u, r = .returned u ∧ NewB l w u w' := by
  obtain ⟨A, c, rfl, -, -, hA, -⟩ := rd_get2 hx
  have Hx := Lib.hid hx
  cases A with
  | none =>
    have hl := hA rfl
    obtain rfl : l = [] := List.eq_nil_of_length_eq_zero hl
    clear hx hA hl
    go_enter Try.func59, Try.ntmps59
    go_wp2
    go_ret
    exact ⟨_, rfl, NewB.nil _ _ (Kp.refl _ _)⟩
  | some ad =>
    clear hx hA
    have N0 : Hid (NewB [] w (.slice (some ⟨w.heap.size, 0, none⟩) 0 0) (w.alloc (.cells #[] 5))) := Lib.hid ⟨ow_new w 5 1 0 #[] rfl (by decide), (Kp.refl [] w).alloc _, fun g hg => by simp [Value.ownBlock] at hg; omega⟩
    go_enter Try.func59, Try.ntmps59
    go_wp2_with (at_builtin; refine app_newB rfl (.tmp 5) (.tmp 6) rfl (.slice (some ⟨w.heap.size, 0, none⟩) 0 0) [] rfl N0.out (.slice (some ad) l.length c) l rfl (Hx.out.alloc _) (by simp only [List.length_nil]; omega) ?_; intro v3 w3 o3; rw [List.nil_append] at o3; have O3 := Lib.hid o3; clear o3)
    go_ret
    exact ⟨_, rfl, O3.out⟩
theorem Stays.all {B : Nat} {α : Sort _} {p : α → World → Prop} (h : ∀ x, Stays B (p x)) : Stays B (fun W => ∀ x, p x W) := fun W W' hp hk x => h x W W' (hp x) hk
/-- A slice of texts, with its cells. -/
def TxsV (W : World) (v : Value) (vs : List Value) (L : List (List UInt8)) : Prop := Rd W 1 v L.length vs ∧ ∀ i (hi : i < L.length), ∃ u, vs[i]? = some u ∧ Rd W 1 u L[i].length (bv L[i])
theorem TxsV.kp0 {W W' : World} {v : Value} {vs : List Value} {L : List (List UInt8)} (h : TxsV W v vs L) (k : Kp [] W W') : TxsV W' v vs L := ⟨rd_old h.1 k, fun i hi => by obtain ⟨u, h1, h2⟩ := h.2 i hi; exact ⟨u, h1, rd_old h2 k⟩⟩
theorem stays_txs (B : Nat) (v : Value) (vs : List Value) (L : List (List UInt8)) : Stays B (fun W => TxsV W v vs L) :=
  (stays_rd B 1 v L.length vs).and (Stays.all fun i => Stays.all fun hi => Stays.ex fun u => (Stays.pure B _).and (stays_rd B 1 u L[i].length (bv L[i])))
/-- What slices.Values' function hands over: a text's slice, with what it reads. -/
abbrev VX := Value × List UInt8
def VX.encs (x : VX) : Array Value := #[x.1]
def ValOwn (bx n c : Nat) (A : Option Addr) (vs : List Value) (M : List (List UInt8)) (W : World) : Prop := W.cell? ⟨bx, 0, none⟩ = some (.slice A n c) ∧ TxsV W (.slice A n c) vs M
theorem ValOwn.kp {bx n c : Nat} {A : Option Addr} {vs : List Value} {M : List (List UInt8)} {W W' : World} (h : ValOwn bx n c A vs M W) (hk : Kp [] W W') : ValOwn bx n c A vs M W' := ⟨cell_kept h.1 hk, h.2.kp0 hk⟩
def VX.X (vs : List Value) (M : List (List UInt8)) (pre : List VX) (x : VX) (_W0 _W1 : World) : Prop :=
  vs[pre.length]? = some x.1 ∧ M[pre.length]? = some x.2 ∧ pre.map (·.2) = M.take pre.length
set_option maxRecDepth 100000 in
set_option maxHeartbeats 2000000 in
theorem vals_seq (bx k c : Nat) (A : Option Addr) (vs : List Value) (M : List (List UInt8)) (w : World) (hw : ValOwn bx k c A vs M w) (n : Nat) :
    SeqW Try.prog n 73 #[.pointer (some ⟨bx, 0, none⟩)] VX.encs (fun _ W => ValOwn bx k c A vs M W) (VX.X vs M) (fun xs => xs.map (·.2) = M) (fun _ => True) M.length w := by
  intro l J Jx W hk hJ hJx hY h0
  obtain ⟨rfl, hkc, hMl⟩ := txs_len ⟨vs, hw.2⟩
  have HP := Lib.hid (hw.kp hk)
  have HJ := Lib.hid hJ
  have HY := Lib.hid hY
  clear hw hk hJ hJx hY
  refine callsIn_of_wp Try.func73 rfl trivial ?_ rfl
  simp only [Try.ntmps73, List.size_toArray, List.length_cons, List.length_nil, Nat.reduceAdd, Nat.reduceSub, Array.replicate_succ, Array.replicate_zero, List.push_toArray, List.append_toArray, List.nil_append, List.cons_append]
  have hc0 := HP.out.1
  gi_wp2
  gi_loopw [4, 7] (fun _ i wr => ∃ (pre : List VX) (q : Nat), pre.length = q ∧ q ≤ M.length ∧ i = .int .i64 (q : Int) ∧ pre.map (·.2) = M.take q ∧ J pre wr ∧ ValOwn bx M.length c A vs M wr) (fun _ i _ => M.length - (intOf i).toNat)
  case atStart => exact ⟨[], 0, rfl, Nat.zero_le _, rfl, rfl, h0, HP.out⟩
  case round =>
    clear h0 HP hc0
    obtain ⟨pre, q, hpq, hqM, rfl, hpm, hJs, hP⟩ := hrel
    have Hpm := Lib.hid hpm
    have Hpq := Lib.hid hpq
    have HP := Lib.hid hP
    clear hpm hpq hP
    by_cases hlt : q < M.length
    · obtain ⟨-, A', c', he, -, -, hAd, hcs⟩ := HP.out.2.1
      cases he
      obtain ⟨u, hu, hru⟩ := HP.out.2.2 q hlt
      obtain ⟨ad, rfl⟩ : ∃ ad, A = some ad := by
        cases A with
        | none => have := (hAd rfl).1; omega
        | some ad => exact ⟨ad, rfl⟩
      have hcx := hcs ad rfl q u hu
      obtain ⟨Ax, cx, rfl⟩ := rd_form hru
      clear hcs hAd
      have he : M[q]? = some M[q] := List.getElem?_eq_getElem hlt
      have HT : Hid (M.take (q + 1) = M.take q ++ [M[q]]) := Lib.hid (take_succ_of he)
      obtain ⟨fn, tmps, assign, body, hy, hRd⟩ := HY.out pre (.slice Ax M[q].length cx, M[q]) wr wr hJs (Kp.refl _ _) ⟨by rw [Hpq.out]; exact hu, by rw [Hpq.out]; exact he, by rw [Hpq.out]; exact Hpm.out⟩ (by rw [Hpq.out]; exact hlt)
      simp only [VX.encs] at hy
      clear hru hu he
      generalize M[q] = x at *
      gi_wp2
      refine ⟨fun h => absurd h (by simp [Fence.wide]), ?_⟩
      refine hRd.mono ?_
      rintro e W3 (⟨rfl, hJ3, hZ3⟩ | ⟨rfl, hJx3⟩)
      · gi_wp2
        go_roundw
        case rel => exact ⟨pre ++ [(.slice Ax x.length cx, x)], q + 1, by rw [List.length_append, Hpq.out]; rfl, by omega, by go_num, by rw [List.map_append, Hpm.out, HT.out]; rfl, hJ3, hZ3⟩
        case measure => simp [intOf]; omega
      · gi_wp2
        refine bodyPost_ret (results_none rfl _ _ _) rfl ?_
        exact ⟨⟨_, rfl⟩, .inr ⟨_, trivial, hJx3⟩⟩
    · obtain rfl : q = M.length := by omega
      gi_wp2
      go_end0
      exact ⟨⟨_, rfl⟩, .inl ⟨pre, by rw [Hpm.out, List.take_length], hJs⟩⟩
set_option maxRecDepth 100000 in
theorem vals_any (A : Option Addr) (n c : Nat) (w : World) :
    Calls Try.prog 60 #[.slice A n c] w fun e w' => e = .returned (.func (.func 73) #[] #[.pointer (some ⟨w.heap.size, 0, none⟩)]) ∧ w' = w.alloc (.cells #[.slice A n c] 22) := by
  go_enter Try.func60, Try.ntmps60
  go_wp2
  go_ret
  exact ⟨rfl, rfl⟩
end Go.Proofs.Ytdmdnphbheomoaa
/- wp_region_sep (XSep) for a region in a round of a range over a function. -/
namespace Go.Proofs.Ytdmdnphbheomoaa
section
variable {P : Program} {Q : Exit → Act → World → Prop} {Γ : Type}
/-- As wp_region_sep, of the orders themselves. RS: the things by their numbers (from l.length on: those held ahead of it, I); fin: the numbers that nobody takes. -/
theorem sep_orders [Inhabited Γ] {a : Act} {w0 w : World} {l : List Oper} (m : Nat) (fin : List Nat) (PV : Nat → (Nat → Value) → (Nat → Γ) → Prop) (RS : Nat → (Nat → Value) → (Nat → Γ) → List Res) (tk rd : Nat → List Nat) {L0 : List Res} (hS : Held w0 w L0)
    (hap : apartB l = true) (hea : earlierB l 0 = true) (hsep : sepB l (l.length + m) tk rd = true) (dp : Nat → List Nat) (hdp : depB l (l.length + m) dp = true) (hd : ∀ s vs vs' gs gs', (∀ j, j ∈ dp s → vs j = vs' j ∧ gs j = gs' j) → RS s vs gs = RS s vs' gs' ∧ (PV s vs gs → PV s vs' gs')) (hfin : (List.range (l.length + m)).filter (endB l.length tk) = fin)
    (hL0 : ((List.range m).flatMap fun j => RS (l.length + j) (fun _ => undef) (fun _ => default)).Perm L0)
    (hs : SepSteps P Q PV RS tk rd w0 a (fun vs => putAll vs l 0 a) l.toArray l 0)
    (hend : ∀ vs gs W, Held w0 W (fin.flatMap fun s => RS s vs gs) → (∀ i, i < l.length → PV i vs gs) → Q .normal (putAll vs l 0 a) W) : wpAny P .any l.toArray Q l.toArray.size (Array.replicate l.toArray.size false) a w.drew := by
  have h0 : ∀ i, (Array.replicate l.length false).getD i false = false := fun i => by
    simp [Array.getElem?_replicate]
    split <;> rfl
  have h := sep_any (P := P) (Q := Q) (m := l.length + m) (sepB_spec hsep) (by omega) dp hdp hd hap hea hs (fun vs gs W listed hall hS hp => hend vs gs W (by
      have : liveL l.length (l.length + m) tk RS listed vs gs = fin.flatMap fun s => RS s vs gs := by
        unfold liveL
        rw [flatMap_filter_if, ← hfin]
        congr 1
        apply List.filter_congr
        intro s hs
        have hs := List.mem_range.1 hs
        apply Bool.eq_iff_iff.2
        rw [liveB_true]
        simp only [endB, List.all_eq_true, List.mem_range]
        constructor
        · rintro ⟨_, h⟩ k hk
          simpa using h k hk (hall k hk)
        · intro h
          refine ⟨?_, fun k hk _ => by simpa using h k hk⟩
          by_cases hsl : s < l.length
          · exact .inr (hall s hsl)
          · exact .inl (by omega)
      rw [this] at hS
      exact hS) hp) l.length (Array.replicate l.length false) (at0 a l) (fun _ => default) w.drew (by simp) (by simp) (fun j oj _ hl => by rw [h0] at hl; cases hl) (by
      refine (hS.kp ((Kp.refl [] w).drew)).perm ?_
      refine hL0.symm.trans (List.Perm.of_eq ?_)
      unfold liveL
      rw [List.range_add, List.flatMap_append]
      have h1 : ((List.range l.length).flatMap fun s => if liveB l.length tk (Array.replicate l.length false) s then RS s (at0 a l) (fun _ => default) else []) = [] := by
        rw [List.flatMap_eq_nil_iff]
        intro s hs
        have hs := List.mem_range.1 hs
        rw [if_neg]
        intro h
        rcases (liveB_true.1 h).1 with h | h
        · omega
        · rw [h0] at h; cases h
      rw [h1, List.nil_append, List.flatMap_map]
      apply flatMap_congr'
      intro j hj
      have hj := List.mem_range.1 hj
      rw [if_pos (liveB_true.2 ⟨.inl (by simp), fun k _ hk => by rw [h0] at hk; cases hk⟩)]
      refine (hd _ _ _ _ _ (fun x hx => ?_)).1
      rw [(depB_spec hdp (by omega)).1 (by omega)] at hx
      cases hx) (fun i hi => by rw [h0] at hi; cases hi) (fun j oj hj _ => by simp [at0, hj])
  rw [putAll_at a l 0 (at0 a l) (fun j o ho => by simp [at0, ho])] at h
  simpa using h
theorem in_region_sep [Inhabited Γ] {rl n : Nat} {id : Nat} {a : Act} {w0 w : World} {l : List Oper} (hp : plainB l = true) (m : Nat) (fin : List Nat) (PV : Nat → (Nat → Value) → (Nat → Γ) → Prop) (RS : Nat → (Nat → Value) → (Nat → Γ) → List Res) (tk rd : Nat → List Nat) {L0 : List Res} (hS : Held w0 w L0) (hm : P.follows .mixedOrders = true)
    (hap : apartB l = true) (hea : earlierB l 0 = true) (hsep : sepB l (l.length + m) tk rd = true) (dp : Nat → List Nat) (hdp : depB l (l.length + m) dp = true) (hd : ∀ s vs vs' gs gs', (∀ j, j ∈ dp s → vs j = vs' j ∧ gs j = gs' j) → RS s vs gs = RS s vs' gs' ∧ (PV s vs gs → PV s vs' gs')) (hfin : (List.range (l.length + m)).filter (endB l.length tk) = fin)
    (hL0 : ((List.range m).flatMap fun j => RS (l.length + j) (fun _ => undef) (fun _ => default)).Perm L0)
    (hs : SepSteps P (Qn Q) PV RS tk rd w0 a (fun vs => putAll vs l 0 a) l.toArray l 0)
    (hend : ∀ vs gs W, Held w0 W (fin.flatMap fun s => RS s vs gs) → (∀ i, i < l.length → PV i vs gs) → Qn Q .normal (putAll vs l 0 a) W) : (Code.region id l.toArray true).wpIn (Fence.wide.inRound rl) n P Q a w :=
  wpIn_region_any hm (any_in hp _ _ _ _ (sep_orders m fin PV RS tk rd hS hap hea hsep dp hdp hd hfin hL0 hs hend))
end
end Go.Proofs.Ytdmdnphbheomoaa
/- entry.Cut. -/
namespace Go.Proofs.Ytdmdnphbheomoaa
open Go.RowKit Go.Shelf
attribute [local go_sem] Oper.semAt_some
def cutK (f g : Int) : Nat := if f < g then (g - f).toNat else 0
def cutB (f g : Int) (L : List (List UInt8)) : Int × List (List UInt8) := if L.length ≤ cutK f g then (0, []) else (f + cutK f g, L.drop (cutK f g))
theorem cutB_no {f g : Int} {L : List (List UInt8)} (h : L.length ≤ cutK f g) : cutB f g L = (0, []) := if_pos h
theorem cutB_ok {f g : Int} {L : List (List UInt8)} (h : cutK f g < L.length) : cutB f g L = (f + cutK f g, L.drop (cutK f g)) := if_neg (by omega)
def CutPost15 (f g : Int) (L : List (List UInt8)) (w : World) (e : Ending) (w' : World) : Prop :=
  ∃ v Bs, e = .returned (.agg #[.int .i64 (cutB f g L).1, v]) ∧ (cutB f g L).2.length = Bs.length ∧ Held w w' (rowR 25 1 v (cutB f g L).2.length Bs :: textR (cutB f g L).2 Bs)
theorem u64_gap {f g : Int} (hf : -9223372036854775808 ≤ f ∧ f ≤ 9223372036854775807) (hg : -9223372036854775808 ≤ g ∧ g ≤ 9223372036854775807) (h : f < g) : IntKind.u64.wrap (IntKind.u64.wrap g - IntKind.u64.wrap f) = ((g - f).toNat : Int) := by
  simp [IntKind.wrap, IntKind.bits, IntKind.signed]
  omega
theorem cells_txs {B : Nat} : ∀ (ls : List (List UInt8)) (Bs : List Value), Cells B (textR ls Bs)
  | _ :: ls, _ :: Bs => (cells_txs ls Bs).row
  | [], [] => Cells.nil
  | [], _ :: _ => Cells.nil
  | _ :: _, [] => Cells.nil
/-- What is held between two rounds. -/
abbrev LC (g1 bx n c g6 : Nat) (A : Option Addr) (F : Int) (a0 a1 v : Value) (Bs : List Value) (pre : List VX) : List Res :=
  rowR 25 1 v pre.length Bs :: blkR g6 24 #[.int .i64 F, v] :: blkR bx 22 #[.slice A n c] :: blkR (g1 + 1) 24 #[.int .i64 0, .slice none 0 0] :: blkR g1 24 #[a0, a1] :: textR (pre.map (·.2)) Bs
set_option maxRecDepth 100000 in
set_option maxHeartbeats 4000000 in
theorem cut15_any (f : Int) (hf : -9223372036854775808 ≤ f ∧ f ≤ 9223372036854775807) (v : Value) (g : Int) (hg : -9223372036854775808 ≤ g ∧ g ≤ 9223372036854775807) (L : List (List UInt8)) (w : World) (hv : Txs w v L) (hL : L.length ≤ 1073741824) (hb : ∀ e ∈ L, e.length ≤ 140737488355200) :
    Calls Try.prog 32 #[.agg #[.int .i64 f, v], .int .i64 g] w (CutPost15 f g L w) := by
  obtain ⟨A, c, rfl, -, -⟩ := hv.open_
  have Hv := Lib.hid hv
  have Hb := Lib.hid hb
  clear hv hb
  have S0 := Lib.hid (((Held.start w).newBlk 24 #[.int .i64 f, .slice A L.length c]).newBlk 24 #[.int .i64 0, .slice none 0 0])
  by_cases hfg : f < g
  · have hs := u64_gap hf hg hfg
    obtain ⟨s, HS⟩ : ∃ s, Hid ((g - f).toNat = s) := ⟨_, Lib.hid rfl⟩
    have hsk : Hid (cutK f g = s) := Lib.hid (by unfold cutK; rw [if_pos hfg, HS.out])
    have hfs : f + s = g := by have := HS.out; omega
    rw [HS.out] at hs
    by_cases hsl : L.length ≤ s
    · have hsl' : (L.length : Int) ≤ (s : Int) := by omega
      have HC := Lib.hid (cutB_no (f := f) (g := g) (L := L) (by rw [hsk.out]; exact hsl))
      obtain ⟨c0, c1, -⟩ := Blk.c2 (S0.out.at_ (l1 := []))
      simp only [World.size_alloc] at c0 c1
      have C0 := Lib.hid c0
      have C1 := Lib.hid c1
      go_enter Try.func32, Try.ntmps32
      go_wp2
      have c0 := C0.out
      have c1 := C1.out
      refine bodyPost_ret (v := .agg #[.int .i64 0, .slice none 0 0]) (by simp [results, Try.f32, go_sem, c0, c1]) rfl ?_
      refine ⟨.slice none 0 0, [], by rw [HC.out], by rw [HC.out]; rfl, ?_⟩
      rw [HC.out]
      exact S0.out.drop.drop.rownew (World.ownsRow_nil _ _ _ _) (Kp.refl [] _) (fun g hg => by simp [Value.ownBlock] at hg)
    · have hsl' : ¬ (L.length : Int) ≤ (s : Int) := by omega
      have HC := Lib.hid (cutB_ok (f := f) (g := g) (L := L) (by rw [hsk.out]; omega))
      rw [hsk.out] at HC
      obtain ⟨A', c', q1, q2⟩ := cut_textsl .u64 A L.length c s (s : Int) rfl (by omega)
      have Q2 := Lib.hid (q2 w L Hv.out)
      clear q2
      refine calls_marks Try.func32 rfl ?_
      simp only [Try.ntmps32, List.size_toArray, List.length_cons, List.length_nil, Nat.reduceAdd, Nat.reduceSub, Array.replicate_succ, Array.replicate_zero, List.push_toArray, List.append_toArray, List.nil_append, List.cons_append]
      have S1 := (S0.out.newBlk 24 #[.int .i64 g, .slice none 0 0]).newBlk 22 #[.slice A' (L.length - s) c']
      simp only [World.size_alloc] at S1
      go_wp2_with fail
      refine (vals_any A' (L.length - s) c' _).mono ?_
      rintro e w2 ⟨rfl, hw2⟩
      simp only [World.size_alloc]
      rw [← hw2] at S1
      clear hw2
      have S1 := Lib.hid S1
      go_wp2_with fail
      obtain ⟨bx, hbx⟩ : ∃ bx, w.heap.size + 1 + 1 + 1 = bx := ⟨_, rfl⟩
      obtain ⟨g6, hg6⟩ : ∃ g6, w.heap.size + 1 + 1 = g6 := ⟨_, rfl⟩
      rw [hbx] at S1 ⊢
      rw [hg6] at S1 ⊢
      clear hbx hg6
      obtain ⟨M, HM⟩ : ∃ M, Hid (L.drop s = M) := ⟨_, Lib.hid rfl⟩
      have hMl : M.length = L.length - s := by rw [← HM.out]; try simp
      have hML : ∀ x, x ∈ M → x.length ≤ 140737488355200 := fun x hx => Hb.out x (by rw [← HM.out] at hx; exact List.mem_of_mem_drop hx)
      have HML := Lib.hid hML
      have HC : Hid (cutB f g L = (g, M)) := Lib.hid (by rw [HC.out, hfs]; exact congrArg (Prod.mk g) HM.out)
      have hq2 := Q2.out
      try simp only [List.drop_zero] at hq2
      rw [HM.out] at hq2
      obtain ⟨vs, hq3, hq4⟩ := hq2
      have TM : Hid (TxsV w (.slice A' (L.length - s) c') vs M) := Lib.hid ⟨by first | exact hq3 | (rw [← hMl]; exact hq3), hq4⟩
      have HME : Hid (∀ (V : World) (k : Nat) (u : Value) (x : List UInt8), Kp [] w V → vs[k]? = some u → M[k]? = some x → Rd V 1 u x.length (bv x)) := Lib.hid (fun V k u x kk h1 h2 => by
        obtain ⟨hk, rfl⟩ := List.getElem?_eq_some_iff.1 h2
        obtain ⟨u', h3, h4⟩ := hq4 k hk
        rw [h1] at h3
        cases h3
        exact rd_old h4 kk)
      have S5 : Hid (Held w w2 (LC w.heap.size bx (L.length - s) c' g6 A' g (.int .i64 f) (.slice A L.length c) (.slice none 0 0) [] [])) := Lib.hid ((S1.out.perm (List.Perm.swap _ _ _)).rownew (World.ownsRow_nil _ _ _ _) (Kp.refl [] _) (by simp [Value.ownBlock]))
      clear S1 hq3 hq4 hML Q2
      have hwb := S5.out.k.size
      have hown : ValOwn bx (L.length - s) c' A' vs M w2 := ⟨(S5.out.at_ (l1 := [_, _])).cell 0, TM.out.kp0 S5.out.k⟩
      refine wp_range (n := 3) (gf := 73) (lb := #[.pointer (some ⟨bx, 0, none⟩)]) rfl (enters_of Try.func73 (by kernel_rfl) rfl) (encs := VX.encs) (Z := fun _ W => ValOwn bx (L.length - s) c' A' vs M W) (X := VX.X vs M) (vals_seq bx (L.length - s) c' A' vs M w2 hown _) (fun x => (stays_cell _ _ _).and (stays_txs _ _ _ _)) (fun _ => rfl)
        (fun pre W => ∃ (v : Value) (Bs : List Value), Bs.length = pre.length ∧ Held w W (LC w.heap.size bx (L.length - s) c' g6 A' g (.int .i64 f) (.slice A L.length c) v Bs pre))
        (fun _ _ _ => False) ?hI ?hIx ?h0
        (fun pre x W => vs[pre.length]? = some x.1 ∧ M[pre.length]? = some x.2 ∧ ∃ (v : Value) (Bs : List Value), Bs.length = pre.length ∧ Held w W (LC w.heap.size bx (L.length - s) c' g6 A' g (.int .i64 f) (.slice A L.length c) v Bs pre)) ?hI' ?hprep
        (fun T pre x a' W => ∃ (v : Value) (Bs : List Value), a' = { tmps := (T.setIfInBounds 36 x.1).setIfInBounds 7 x.1, defers := [] } ∧ Bs.length = pre.length ∧ Held w W (LC w.heap.size bx (L.length - s) c' g6 A' g (.int .i64 f) (.slice A L.length c) v Bs pre)) ?hA ?assign ?body ?done ?stop
      case hI => exact fun pre => Stays.ex fun v => Stays.ex fun Bs => (Stays.pure _ _).and (Held.stays hwb (cells_txs _ _).blk.blk.blk.blk.row)
      case hIx => exact fun c pre => Stays.pure _ _
      case h0 => exact ⟨_, [], rfl, S5.out⟩
      case hI' => exact fun pre x => (Stays.pure _ _).and ((Stays.pure _ _).and (Stays.ex fun v => Stays.ex fun Bs => (Stays.pure _ _).and (Held.stays hwb (cells_txs _ _).blk.blk.blk.blk.row)))
      case hprep =>
        rintro pre x W0 W1 ⟨v, Bs, h1, S⟩ k ⟨hx, p1, _⟩ hlen
        exact ⟨hx, p1, v, Bs, h1, S.kp k⟩
      case hA => exact fun pre x a' => Stays.ex fun v => Stays.ex fun Bs => (Stays.pure _ _).and ((Stays.pure _ _).and (Held.stays hwb (cells_txs _ _).blk.blk.blk.blk.row))
      case assign =>
        rintro pre x W ⟨hx, p1, v, Bs, h1, S⟩ K hK
        obtain ⟨vx, x⟩ := x
        simp only [VX.encs]
        gi_wp2
        exact hK _ _ (Kp.refl [] W) ⟨v, Bs, rfl, h1, S⟩
      case body =>
        rintro pre x a' W ⟨hx, p1, _⟩ ⟨v, Bs, rfl, h1, S⟩ hlen ⟨o, ho, hoc⟩ ⟨d, hd, hdc⟩
        obtain ⟨vx, x⟩ := x
        simp only at hx p1
        obtain ⟨Au, cu, hv, _, _⟩ := ow_form (S.at_ (l1 := []))
        subst hv
        have RXc := Lib.hid (fun V (kk : Kp [] w V) => HME.out V _ _ _ kk hx p1)
        obtain ⟨Ax, cx, hvx⟩ := rd_form (RXc.out w (Kp.refl _ _))
        subst hvx
        have hxl := HML.out x (List.mem_of_getElem? p1)
        have H1 := Lib.hid h1
        have hpl : pre.length ≤ 1073741824 := by omega
        have SB := S.withTwo ((cells_txs _ _).blk.blk.blk.blk.row) hwb (show w2.heap.size ≤ w2.heap.size + 1 by omega) (Nat.le_refl _) (by omega) ho hoc hd hdc
        have SC : Hid (Held w W ([blkR g6 24 #[.int .i64 g, .slice Au pre.length cu]] ++ ([rowR 25 1 (.slice Au pre.length cu) pre.length Bs] ++ (objR (w2.heap.size + 1) o :: objR w2.heap.size d :: blkR bx 22 #[.slice A' (L.length - s) c'] :: blkR (w.heap.size + 1) 24 #[.int .i64 0, .slice none 0 0] :: blkR w.heap.size 24 #[.int .i64 f, .slice A L.length c] :: textR (pre.map (·.2)) Bs)))) := Lib.hid (SB.perm ((List.perm_append_comm_assoc [_, _] [_, _] _).trans (List.Perm.swap _ _ _)))
        have Ho := Lib.hid ho
        have Hd := Lib.hid hd
        clear S SB ho hd h1 hx p1
        gi_wp2_with fail
        -- SEP entcutG
        refine in_region_sep (Γ := Unit) (rl := w2.heap.size + 1) (by kernel_rfl) 3 [0, 1, 2, 3, 4, 5, 6, 7, 10]
          (fun i vs gs => match i with | 0 => vs 0 = .pointer (some ⟨g6, 1, none⟩) | 1 => vs 1 = .slice Au pre.length cu | 2 => vs 2 = .slice Ax x.length cx | 3 => ∃ A c, vs 3 = .slice A x.length c | 5 => ∃ A c, vs 5 = .slice A (pre.length + 1) c | 6 => vs 6 = .pointer (some ⟨g6, 1, none⟩) | _ => True)
          (fun i vs gs => match i with | 3 => [rowR 5 1 (vs 3) x.length (bv x)] | 4 => [rowR 25 1 (vs 4) 1 [vs 3]] | 5 => [rowR 25 1 (vs 5) (pre.length + 1) (Bs ++ [vs 3])] | 7 => [blkR g6 24 #[.int .i64 g, vs 5]] | 8 => [blkR g6 24 #[.int .i64 g, .slice Au pre.length cu]] | 9 => [rowR 25 1 (.slice Au pre.length cu) pre.length Bs] | 10 => objR (w2.heap.size + 1) o :: objR w2.heap.size d :: blkR bx 22 #[.slice A' (L.length - s) c'] :: blkR (w.heap.size + 1) 24 #[.int .i64 0, .slice none 0 0] :: blkR w.heap.size 24 #[.int .i64 f, .slice A L.length c] :: textR (pre.map (·.2)) Bs | _ => [])
          (fun i => match i with | 5 => [9] | 7 => [8] | _ => []) (fun i => match i with | 1 => [8] | 5 => [4] | _ => []) SC.out (by kernel_rfl) (by kernel_rfl) (by kernel_rfl) (by kernel_rfl) (fun i => match i with | 0 => [0] | 1 => [1] | 2 => [2] | 3 => [3] | 4 => [3, 4] | 5 => [3, 5] | 6 => [6] | 7 => [5] | _ => []) (by kernel_rfl) ?_ (by kernel_rfl) ?_ ?_ ?_
        · intro s vs vs' gs gs' h
          iterate 11 (rcases s with _ | s; · (first | exact ⟨rfl, id⟩ | (simp only [List.mem_cons, List.not_mem_nil, or_false, forall_eq_or_imp, forall_eq] at h; simp [h])))
          exact ⟨rfl, id⟩
        · simp only [List.range, List.range.loop, List.flatMap_cons, List.flatMap_nil, List.append_nil, List.cons_append, List.nil_append]
          exact List.Perm.refl _
        · refine ⟨?_, ?_, ?_, ?_, ?_, ?_, ?_, ?_, trivial⟩
          · intro vs gs A' W LF hA S hR hd hu K hK
            replace hK := hK default
            have e6 : A'.tmps[6]?.getD undef = .pointer (some ⟨g6, 0, none⟩) := slot_is hA (by kernel_rfl) (Nat.le_of_ble_eq_true (by kernel_rfl)) (by kernel_rfl)
            go_step
            exact hK _ _ S rfl
          · intro vs gs A' W LF hA S hR hd hu K hK
            replace hK := hK default
            have f0 : vs 0 = .pointer (some ⟨g6, 1, none⟩) := hd 0 (by kernel_rfl)
            have e37 : A'.tmps[37]?.getD undef = vs 0 := slot_is hA (by kernel_rfl) (Nat.le_of_ble_eq_true (by kernel_rfl)) (by kernel_rfl)
            rw [f0] at e37
            obtain ⟨q0, q1, q2, q3, q4⟩ := Blk.c2 (S.ok (blkR g6 24 #[.int .i64 g, .slice Au pre.length cu]) (hR 8 (List.mem_singleton.2 rfl) _ (List.mem_singleton.2 rfl)))
            go_step
            exact hK _ _ S rfl
          · intro vs gs A' W LF hA S hR hd hu K hK
            replace hK := hK default
            have e7 : A'.tmps[7]?.getD undef = .slice Ax x.length cx := slot_is hA (by kernel_rfl) (Nat.le_of_ble_eq_true (by kernel_rfl)) (by kernel_rfl)
            go_step
            exact hK _ _ S rfl
          · intro vs gs A' W LF hA S hR hd hu K hK
            replace hK := hK default
            have f2 : vs 2 = .slice Ax x.length cx := hd 2 (by kernel_rfl)
            have e39 : A'.tmps[39]?.getD undef = vs 2 := slot_is hA (by kernel_rfl) (Nat.le_of_ble_eq_true (by kernel_rfl)) (by kernel_rfl)
            rw [f2] at e39
            go_step
            refine (clone15_any _ x _ (RXc.out _ S.k) hxl).mono ?_
            rintro e w' ⟨u, rfl, ou⟩
            obtain ⟨A1, c1, hu⟩ := ou.form
            subst hu
            exact hK _ _ (S.rownew ou.1 ou.2.1 ou.2.2) ⟨A1, c1, rfl⟩
          · intro vs gs A' W LF hA S hR hd hu K hK
            replace hK := hK default
            have f3 : ∃ A c, vs 3 = .slice A x.length c := hd 3 (by kernel_rfl)
            have e40 : A'.tmps[40]?.getD undef = vs 3 := slot_is hA (by kernel_rfl) (Nat.le_of_ble_eq_true (by kernel_rfl)) (by kernel_rfl)
            obtain ⟨A1, c1, hq⟩ := f3
            rw [hq] at e40
            go_step
            have S2 := S.rownew (ow_new W 25 1 1 #[.slice A1 x.length c1] rfl (by decide)) ((Kp.refl [] W).alloc _) (fun g hg => Nat.le_of_eq (Option.some.inj hg))
            rw [← hq] at S2 ⊢
            exact hK _ _ S2 trivial
          · intro vs gs A' W LF hA S hR hd hu K hK
            replace hK := hK default
            have f1 : vs 1 = .slice Au pre.length cu := hd 1 (by kernel_rfl)
            have e38 : A'.tmps[38]?.getD undef = vs 1 := slot_is hA (by kernel_rfl) (Nat.le_of_ble_eq_true (by kernel_rfl)) (by kernel_rfl)
            rw [f1] at e38
            have e41 : A'.tmps[41]?.getD undef = vs 4 := slot_is hA (by kernel_rfl) (Nat.le_of_ble_eq_true (by kernel_rfl)) (by kernel_rfl)
            have hone : (vs 3).oneCell' = true := by obtain ⟨A, c, h⟩ := (hd 3 (by kernel_rfl) : ∃ A c, vs 3 = .slice A x.length c); rw [h]; rfl
            refine op_app (.tmp 38) (.tmp 41) 22 25 rfl Try.infoBytes Try.underlying22 rfl (by decide) (.slice Au pre.length cu) pre.length Bs (by simpa [Act.eval] using e38) S (vs 4) 1 [vs 3] (by simpa [Act.eval] using e41) (rd_of_row (e := 25) S (List.mem_cons_of_mem _ (hR 4 (List.mem_singleton.2 rfl) _ (List.mem_singleton.2 rfl)))) (by simpa using hone) (by unfold maxLen; omega) (by omega) (fun v' w' S' => hK v' w' S' ?_)
            obtain ⟨A1, c1, h1, _⟩ := ow_form (S'.at_ (l1 := []))
            exact ⟨A1, c1, h1⟩
          · intro vs gs A' W LF hA S hR hd hu K hK
            replace hK := hK default
            have e6 : A'.tmps[6]?.getD undef = .pointer (some ⟨g6, 0, none⟩) := slot_is hA (by kernel_rfl) (Nat.le_of_ble_eq_true (by kernel_rfl)) (by kernel_rfl)
            go_step
            exact hK _ _ S rfl
          · intro vs gs A' W LF hA S hR hd hu K hK
            replace hK := hK default
            have f6 : vs 6 = .pointer (some ⟨g6, 1, none⟩) := hd 6 (by kernel_rfl)
            have e43 : A'.tmps[43]?.getD undef = vs 6 := slot_is hA (by kernel_rfl) (Nat.le_of_ble_eq_true (by kernel_rfl)) (by kernel_rfl)
            rw [f6] at e43
            have f5 : ∃ A c, vs 5 = .slice A (pre.length + 1) c := hd 5 (by kernel_rfl)
            have e42 : A'.tmps[42]?.getD undef = vs 5 := slot_is hA (by kernel_rfl) (Nat.le_of_ble_eq_true (by kernel_rfl)) (by kernel_rfl)
            have S1 : Held w W (blkR g6 24 #[.int .i64 g, .slice Au pre.length cu] :: LF) := S
            obtain ⟨q0, q1, q2, q3, q4⟩ := Blk.c2 (S1.at_ (l1 := []))
            obtain ⟨A1, c1, hq⟩ := f5
            rw [hq] at e42
            go_step
            refine hK undef _ ?_ trivial
            show Held w _ (blkR g6 24 #[.int .i64 g, vs 5] :: LF)
            rw [hq]
            exact S1.set (l1 := []) 1 (.slice A1 (pre.length + 1) c1)
        · intro vs gs W S hp
          have S : Held w W (rowR 5 1 (vs 3) x.length (bv x) :: rowR 25 1 (vs 4) 1 [vs 3] :: rowR 25 1 (vs 5) (pre.length + 1) (Bs ++ [vs 3]) :: blkR g6 24 #[.int .i64 g, vs 5] :: objR (w2.heap.size + 1) o :: objR w2.heap.size d :: blkR bx 22 #[.slice A' (L.length - s) c'] :: blkR (w.heap.size + 1) 24 #[.int .i64 0, .slice none 0 0] :: blkR w.heap.size 24 #[.int .i64 f, .slice A L.length c] :: textR (pre.map (·.2)) Bs) := by simpa only [List.flatMap_cons, List.flatMap_nil, List.append_nil, List.nil_append, List.cons_append, List.append_assoc] using S
          have p0 : vs 0 = .pointer (some ⟨g6, 1, none⟩) := hp 0 (Nat.le_of_ble_eq_true rfl)
          have p1 : vs 1 = .slice Au pre.length cu := hp 1 (Nat.le_of_ble_eq_true rfl)
          have p2 : vs 2 = .slice Ax x.length cx := hp 2 (Nat.le_of_ble_eq_true rfl)
          have p6 : vs 6 = .pointer (some ⟨g6, 1, none⟩) := hp 6 (Nat.le_of_ble_eq_true rfl)
          obtain ⟨A5, c5, h5⟩ : ∃ A c, vs 5 = .slice A (pre.length + 1) c := hp 5 (Nat.le_of_ble_eq_true rfl)
          have H5 := Lib.hid h5
          have HS5 := Lib.hid S
          clear hp S
          simp only [putAll, p0, p1, p2, p6, h5, Act.put, List.setIfInBounds_toArray, List.set_cons_succ, List.set_cons_zero]
          clear p0 p1 p2 p6 h5
          refine ⟨rfl, ?_⟩
          gi_wp2
          have S6 := HS5.out
          rw [H5.out] at S6
          have S7 := S6.drop.drop.drop.drop
          refine ⟨S7.same2 Ho.out Hd.out, ⟨(S7.at_ (l1 := [_, _])).cell 0, TM.out.kp0 S7.k⟩, .slice A5 (pre.length + 1) c5, Bs ++ [vs 3], by simp [H1.out], ?_⟩
          have hm : (pre ++ [((.slice Ax x.length cx, x) : VX)]).map (·.2) = pre.map (·.2) ++ [x] := by simp
          unfold LC
          rw [hm, textR_snoc _ _ _ _ (by rw [List.length_map]; exact H1.out.symm), List.length_append]
          exact (S6.sub (.cons_cons _ (.cons _ (.cons_cons _ (.cons_cons _ (.cons _ (.cons _ (List.Sublist.refl _)))))))).perm (List.perm_append_singleton _ _).symm
        -- END entcutG
      case done =>
        rintro xs W hxs ⟨v, Bs, h1, S⟩ hD
        have HE : Hid (cutB f g L = (g, xs.map (·.2))) := Lib.hid (by rw [HC.out, hxs])
        have S1 := Lib.hid (S.withObj hwb hD ((cells_txs _ _).blk.blk.blk.blk.row.not S (Nat.le_refl _) hD rfl))
        obtain ⟨Av, cv, hvv, _, _⟩ := ow_form (S.at_ (l1 := []))
        subst hvv
        have H1 := Lib.hid h1
        obtain ⟨r0, r1, r2, r3, r4⟩ := Blk.c2 (S1.out.at_ (l1 := [_, _]))
        obtain ⟨t0, t1, t2, t3, t4⟩ := Blk.c2 (S1.out.at_ (l1 := [_, _, _, _]))
        have S2 := (S1.out.set (l1 := [_, _, _, _]) 0 (.int .i64 g)).set (l1 := [_, _, _, _]) 1 (.slice Av xs.length cv)
        simp only [List.setIfInBounds_toArray, List.set_cons_succ, List.set_cons_zero, List.cons_append, List.nil_append] at S2
        have S2 := Lib.hid S2
        clear S h1 hxs HC
        go_wp2
        refine ret_marks [w2.heap.size] rfl (by simp) (fun D hDm => by simp at hDm; subst hDm; exact S2.out.at_ (l1 := [])) (fun W' hk => ?_)
        have S3 := S2.out.rest (l1 := [_]) hk (fun g hg => by simp at hg; subst hg; exact ⟨_, List.mem_singleton.2 rfl, by simp [objR]⟩)
        obtain ⟨h4, h5, -⟩ := Blk.c2 (S3.at_ (l1 := [_, _, _]))
        refine ⟨.agg #[.int .i64 g, .slice Av xs.length cv], ?_, .slice Av xs.length cv, Bs, by rw [HE.out], by rw [HE.out, List.length_map]; exact H1.out.symm, ?_⟩
        · simp [results, Try.f32, go_sem, h4, h5]
        · rw [HE.out, List.length_map]
          exact S3.sub (.cons_cons _ (.cons _ (.cons _ (.cons _ (.cons _ (List.Sublist.refl _))))))
      case stop =>
        rintro c pre W _ h
        exact h.elim
  · have hsk : Hid (cutK f g = 0) := Lib.hid (if_neg hfg)
    by_cases hsl : L.length ≤ 0
    · have hsl' : (L.length : Int) ≤ (0 : Int) := by omega
      have HC := Lib.hid (cutB_no (f := f) (g := g) (L := L) (by rw [hsk.out]; exact hsl))
      obtain rfl : L = [] := List.eq_nil_of_length_eq_zero (by omega)
      obtain ⟨c0, c1, -⟩ := Blk.c2 (S0.out.at_ (l1 := []))
      simp only [World.size_alloc] at c0 c1
      have C0 := Lib.hid c0
      have C1 := Lib.hid c1
      go_enter Try.func32, Try.ntmps32
      go_wp2
      have c0 := C0.out
      have c1 := C1.out
      refine bodyPost_ret (v := .agg #[.int .i64 0, .slice none 0 0]) (by simp [results, Try.f32, go_sem, c0, c1]) rfl ?_
      refine ⟨.slice none 0 0, [], by rw [HC.out], by rw [HC.out]; rfl, ?_⟩
      rw [HC.out]
      exact S0.out.drop.drop.rownew (World.ownsRow_nil _ _ _ _) (Kp.refl [] _) (fun g hg => by simp [Value.ownBlock] at hg)
    · have hsl' : ¬ (L.length : Int) ≤ (0 : Int) := by omega
      have hne : ¬ L = [] := by rintro rfl; exact hsl (Nat.le_refl _)
      have HC := Lib.hid (cutB_ok (f := f) (g := g) (L := L) (by rw [hsk.out]; omega))
      rw [hsk.out] at HC
      obtain ⟨A', c', q1, q2⟩ := cut_textsl .u64 A L.length c 0 (0 : Int) rfl (by omega)
      simp only [Nat.sub_zero] at q1 q2
      have Q2 := Lib.hid (q2 w L Hv.out)
      clear q2
      refine calls_marks Try.func32 rfl ?_
      simp only [Try.ntmps32, List.size_toArray, List.length_cons, List.length_nil, Nat.reduceAdd, Nat.reduceSub, Array.replicate_succ, Array.replicate_zero, List.push_toArray, List.append_toArray, List.nil_append, List.cons_append]
      have S1 := (S0.out.newBlk 24 #[.int .i64 f, .slice none 0 0]).newBlk 22 #[.slice A' L.length c']
      simp only [World.size_alloc] at S1
      go_wp2_with fail
      refine (vals_any A' L.length c' _).mono ?_
      rintro e w2 ⟨rfl, hw2⟩
      simp only [World.size_alloc]
      rw [← hw2] at S1
      clear hw2
      have S1 := Lib.hid S1
      go_wp2_with fail
      obtain ⟨bx, hbx⟩ : ∃ bx, w.heap.size + 1 + 1 + 1 = bx := ⟨_, rfl⟩
      obtain ⟨g6, hg6⟩ : ∃ g6, w.heap.size + 1 + 1 = g6 := ⟨_, rfl⟩
      rw [hbx] at S1 ⊢
      rw [hg6] at S1 ⊢
      clear hbx hg6
      obtain ⟨M, HM⟩ : ∃ M, Hid (L = M) := ⟨_, Lib.hid rfl⟩
      have hMl : M.length = L.length := by rw [← HM.out]; try simp
      have hML : ∀ x, x ∈ M → x.length ≤ 140737488355200 := fun x hx => Hb.out x (by rw [← HM.out] at hx; exact hx)
      have HML := Lib.hid hML
      have HC : Hid (cutB f g L = (f, M)) := Lib.hid (by rw [HC.out, show f + ((0 : Nat) : Int) = f by omega]; exact congrArg (Prod.mk f) HM.out)
      have hq2 := Q2.out
      try simp only [List.drop_zero] at hq2
      rw [HM.out] at hq2
      obtain ⟨vs, hq3, hq4⟩ := hq2
      have TM : Hid (TxsV w (.slice A' L.length c') vs M) := Lib.hid ⟨by first | exact hq3 | (rw [← hMl]; exact hq3), hq4⟩
      have HME : Hid (∀ (V : World) (k : Nat) (u : Value) (x : List UInt8), Kp [] w V → vs[k]? = some u → M[k]? = some x → Rd V 1 u x.length (bv x)) := Lib.hid (fun V k u x kk h1 h2 => by
        obtain ⟨hk, rfl⟩ := List.getElem?_eq_some_iff.1 h2
        obtain ⟨u', h3, h4⟩ := hq4 k hk
        rw [h1] at h3
        cases h3
        exact rd_old h4 kk)
      have S5 : Hid (Held w w2 (LC w.heap.size bx L.length c' g6 A' f (.int .i64 f) (.slice A L.length c) (.slice none 0 0) [] [])) := Lib.hid ((S1.out.perm (List.Perm.swap _ _ _)).rownew (World.ownsRow_nil _ _ _ _) (Kp.refl [] _) (by simp [Value.ownBlock]))
      clear S1 hq3 hq4 hML Q2
      have hwb := S5.out.k.size
      have hown : ValOwn bx L.length c' A' vs M w2 := ⟨(S5.out.at_ (l1 := [_, _])).cell 0, TM.out.kp0 S5.out.k⟩
      refine wp_range (n := 3) (gf := 73) (lb := #[.pointer (some ⟨bx, 0, none⟩)]) rfl (enters_of Try.func73 (by kernel_rfl) rfl) (encs := VX.encs) (Z := fun _ W => ValOwn bx L.length c' A' vs M W) (X := VX.X vs M) (vals_seq bx L.length c' A' vs M w2 hown _) (fun x => (stays_cell _ _ _).and (stays_txs _ _ _ _)) (fun _ => rfl)
        (fun pre W => ∃ (v : Value) (Bs : List Value), Bs.length = pre.length ∧ Held w W (LC w.heap.size bx L.length c' g6 A' f (.int .i64 f) (.slice A L.length c) v Bs pre))
        (fun _ _ _ => False) ?hI ?hIx ?h0
        (fun pre x W => vs[pre.length]? = some x.1 ∧ M[pre.length]? = some x.2 ∧ ∃ (v : Value) (Bs : List Value), Bs.length = pre.length ∧ Held w W (LC w.heap.size bx L.length c' g6 A' f (.int .i64 f) (.slice A L.length c) v Bs pre)) ?hI' ?hprep
        (fun T pre x a' W => ∃ (v : Value) (Bs : List Value), a' = { tmps := (T.setIfInBounds 36 x.1).setIfInBounds 7 x.1, defers := [] } ∧ Bs.length = pre.length ∧ Held w W (LC w.heap.size bx L.length c' g6 A' f (.int .i64 f) (.slice A L.length c) v Bs pre)) ?hA ?assign ?body ?done ?stop
      case hI => exact fun pre => Stays.ex fun v => Stays.ex fun Bs => (Stays.pure _ _).and (Held.stays hwb (cells_txs _ _).blk.blk.blk.blk.row)
      case hIx => exact fun c pre => Stays.pure _ _
      case h0 => exact ⟨_, [], rfl, S5.out⟩
      case hI' => exact fun pre x => (Stays.pure _ _).and ((Stays.pure _ _).and (Stays.ex fun v => Stays.ex fun Bs => (Stays.pure _ _).and (Held.stays hwb (cells_txs _ _).blk.blk.blk.blk.row)))
      case hprep =>
        rintro pre x W0 W1 ⟨v, Bs, h1, S⟩ k ⟨hx, p1, _⟩ hlen
        exact ⟨hx, p1, v, Bs, h1, S.kp k⟩
      case hA => exact fun pre x a' => Stays.ex fun v => Stays.ex fun Bs => (Stays.pure _ _).and ((Stays.pure _ _).and (Held.stays hwb (cells_txs _ _).blk.blk.blk.blk.row))
      case assign =>
        rintro pre x W ⟨hx, p1, v, Bs, h1, S⟩ K hK
        obtain ⟨vx, x⟩ := x
        simp only [VX.encs]
        gi_wp2
        exact hK _ _ (Kp.refl [] W) ⟨v, Bs, rfl, h1, S⟩
      case body =>
        rintro pre x a' W ⟨hx, p1, _⟩ ⟨v, Bs, rfl, h1, S⟩ hlen ⟨o, ho, hoc⟩ ⟨d, hd, hdc⟩
        obtain ⟨vx, x⟩ := x
        simp only at hx p1
        obtain ⟨Au, cu, hv, _, _⟩ := ow_form (S.at_ (l1 := []))
        subst hv
        have RXc := Lib.hid (fun V (kk : Kp [] w V) => HME.out V _ _ _ kk hx p1)
        obtain ⟨Ax, cx, hvx⟩ := rd_form (RXc.out w (Kp.refl _ _))
        subst hvx
        have hxl := HML.out x (List.mem_of_getElem? p1)
        have H1 := Lib.hid h1
        have hpl : pre.length ≤ 1073741824 := by omega
        have SB := S.withTwo ((cells_txs _ _).blk.blk.blk.blk.row) hwb (show w2.heap.size ≤ w2.heap.size + 1 by omega) (Nat.le_refl _) (by omega) ho hoc hd hdc
        have SC : Hid (Held w W ([blkR g6 24 #[.int .i64 f, .slice Au pre.length cu]] ++ ([rowR 25 1 (.slice Au pre.length cu) pre.length Bs] ++ (objR (w2.heap.size + 1) o :: objR w2.heap.size d :: blkR bx 22 #[.slice A' (L.length) c'] :: blkR (w.heap.size + 1) 24 #[.int .i64 0, .slice none 0 0] :: blkR w.heap.size 24 #[.int .i64 f, .slice A L.length c] :: textR (pre.map (·.2)) Bs)))) := Lib.hid (SB.perm ((List.perm_append_comm_assoc [_, _] [_, _] _).trans (List.Perm.swap _ _ _)))
        have Ho := Lib.hid ho
        have Hd := Lib.hid hd
        clear S SB ho hd h1 hx p1
        gi_wp2_with fail
        -- SEP entcutF
        refine in_region_sep (Γ := Unit) (rl := w2.heap.size + 1) (by kernel_rfl) 3 [0, 1, 2, 3, 4, 5, 6, 7, 10]
          (fun i vs gs => match i with | 0 => vs 0 = .pointer (some ⟨g6, 1, none⟩) | 1 => vs 1 = .slice Au pre.length cu | 2 => vs 2 = .slice Ax x.length cx | 3 => ∃ A c, vs 3 = .slice A x.length c | 5 => ∃ A c, vs 5 = .slice A (pre.length + 1) c | 6 => vs 6 = .pointer (some ⟨g6, 1, none⟩) | _ => True)
          (fun i vs gs => match i with | 3 => [rowR 5 1 (vs 3) x.length (bv x)] | 4 => [rowR 25 1 (vs 4) 1 [vs 3]] | 5 => [rowR 25 1 (vs 5) (pre.length + 1) (Bs ++ [vs 3])] | 7 => [blkR g6 24 #[.int .i64 f, vs 5]] | 8 => [blkR g6 24 #[.int .i64 f, .slice Au pre.length cu]] | 9 => [rowR 25 1 (.slice Au pre.length cu) pre.length Bs] | 10 => objR (w2.heap.size + 1) o :: objR w2.heap.size d :: blkR bx 22 #[.slice A' (L.length) c'] :: blkR (w.heap.size + 1) 24 #[.int .i64 0, .slice none 0 0] :: blkR w.heap.size 24 #[.int .i64 f, .slice A L.length c] :: textR (pre.map (·.2)) Bs | _ => [])
          (fun i => match i with | 5 => [9] | 7 => [8] | _ => []) (fun i => match i with | 1 => [8] | 5 => [4] | _ => []) SC.out (by kernel_rfl) (by kernel_rfl) (by kernel_rfl) (by kernel_rfl) (fun i => match i with | 0 => [0] | 1 => [1] | 2 => [2] | 3 => [3] | 4 => [3, 4] | 5 => [3, 5] | 6 => [6] | 7 => [5] | _ => []) (by kernel_rfl) ?_ (by kernel_rfl) ?_ ?_ ?_
        · intro s vs vs' gs gs' h
          iterate 11 (rcases s with _ | s; · (first | exact ⟨rfl, id⟩ | (simp only [List.mem_cons, List.not_mem_nil, or_false, forall_eq_or_imp, forall_eq] at h; simp [h])))
          exact ⟨rfl, id⟩
        · simp only [List.range, List.range.loop, List.flatMap_cons, List.flatMap_nil, List.append_nil, List.cons_append, List.nil_append]
          exact List.Perm.refl _
        · refine ⟨?_, ?_, ?_, ?_, ?_, ?_, ?_, ?_, trivial⟩
          · intro vs gs A' W LF hA S hR hd hu K hK
            replace hK := hK default
            have e6 : A'.tmps[6]?.getD undef = .pointer (some ⟨g6, 0, none⟩) := slot_is hA (by kernel_rfl) (Nat.le_of_ble_eq_true (by kernel_rfl)) (by kernel_rfl)
            go_step
            exact hK _ _ S rfl
          · intro vs gs A' W LF hA S hR hd hu K hK
            replace hK := hK default
            have f0 : vs 0 = .pointer (some ⟨g6, 1, none⟩) := hd 0 (by kernel_rfl)
            have e37 : A'.tmps[37]?.getD undef = vs 0 := slot_is hA (by kernel_rfl) (Nat.le_of_ble_eq_true (by kernel_rfl)) (by kernel_rfl)
            rw [f0] at e37
            obtain ⟨q0, q1, q2, q3, q4⟩ := Blk.c2 (S.ok (blkR g6 24 #[.int .i64 f, .slice Au pre.length cu]) (hR 8 (List.mem_singleton.2 rfl) _ (List.mem_singleton.2 rfl)))
            go_step
            exact hK _ _ S rfl
          · intro vs gs A' W LF hA S hR hd hu K hK
            replace hK := hK default
            have e7 : A'.tmps[7]?.getD undef = .slice Ax x.length cx := slot_is hA (by kernel_rfl) (Nat.le_of_ble_eq_true (by kernel_rfl)) (by kernel_rfl)
            go_step
            exact hK _ _ S rfl
          · intro vs gs A' W LF hA S hR hd hu K hK
            replace hK := hK default
            have f2 : vs 2 = .slice Ax x.length cx := hd 2 (by kernel_rfl)
            have e39 : A'.tmps[39]?.getD undef = vs 2 := slot_is hA (by kernel_rfl) (Nat.le_of_ble_eq_true (by kernel_rfl)) (by kernel_rfl)
            rw [f2] at e39
            go_step
            refine (clone15_any _ x _ (RXc.out _ S.k) hxl).mono ?_
            rintro e w' ⟨u, rfl, ou⟩
            obtain ⟨A1, c1, hu⟩ := ou.form
            subst hu
            exact hK _ _ (S.rownew ou.1 ou.2.1 ou.2.2) ⟨A1, c1, rfl⟩
          · intro vs gs A' W LF hA S hR hd hu K hK
            replace hK := hK default
            have f3 : ∃ A c, vs 3 = .slice A x.length c := hd 3 (by kernel_rfl)
            have e40 : A'.tmps[40]?.getD undef = vs 3 := slot_is hA (by kernel_rfl) (Nat.le_of_ble_eq_true (by kernel_rfl)) (by kernel_rfl)
            obtain ⟨A1, c1, hq⟩ := f3
            rw [hq] at e40
            go_step
            have S2 := S.rownew (ow_new W 25 1 1 #[.slice A1 x.length c1] rfl (by decide)) ((Kp.refl [] W).alloc _) (fun g hg => Nat.le_of_eq (Option.some.inj hg))
            rw [← hq] at S2 ⊢
            exact hK _ _ S2 trivial
          · intro vs gs A' W LF hA S hR hd hu K hK
            replace hK := hK default
            have f1 : vs 1 = .slice Au pre.length cu := hd 1 (by kernel_rfl)
            have e38 : A'.tmps[38]?.getD undef = vs 1 := slot_is hA (by kernel_rfl) (Nat.le_of_ble_eq_true (by kernel_rfl)) (by kernel_rfl)
            rw [f1] at e38
            have e41 : A'.tmps[41]?.getD undef = vs 4 := slot_is hA (by kernel_rfl) (Nat.le_of_ble_eq_true (by kernel_rfl)) (by kernel_rfl)
            have hone : (vs 3).oneCell' = true := by obtain ⟨A, c, h⟩ := (hd 3 (by kernel_rfl) : ∃ A c, vs 3 = .slice A x.length c); rw [h]; rfl
            refine op_app (.tmp 38) (.tmp 41) 22 25 rfl Try.infoBytes Try.underlying22 rfl (by decide) (.slice Au pre.length cu) pre.length Bs (by simpa [Act.eval] using e38) S (vs 4) 1 [vs 3] (by simpa [Act.eval] using e41) (rd_of_row (e := 25) S (List.mem_cons_of_mem _ (hR 4 (List.mem_singleton.2 rfl) _ (List.mem_singleton.2 rfl)))) (by simpa using hone) (by unfold maxLen; omega) (by omega) (fun v' w' S' => hK v' w' S' ?_)
            obtain ⟨A1, c1, h1, _⟩ := ow_form (S'.at_ (l1 := []))
            exact ⟨A1, c1, h1⟩
          · intro vs gs A' W LF hA S hR hd hu K hK
            replace hK := hK default
            have e6 : A'.tmps[6]?.getD undef = .pointer (some ⟨g6, 0, none⟩) := slot_is hA (by kernel_rfl) (Nat.le_of_ble_eq_true (by kernel_rfl)) (by kernel_rfl)
            go_step
            exact hK _ _ S rfl
          · intro vs gs A' W LF hA S hR hd hu K hK
            replace hK := hK default
            have f6 : vs 6 = .pointer (some ⟨g6, 1, none⟩) := hd 6 (by kernel_rfl)
            have e43 : A'.tmps[43]?.getD undef = vs 6 := slot_is hA (by kernel_rfl) (Nat.le_of_ble_eq_true (by kernel_rfl)) (by kernel_rfl)
            rw [f6] at e43
            have f5 : ∃ A c, vs 5 = .slice A (pre.length + 1) c := hd 5 (by kernel_rfl)
            have e42 : A'.tmps[42]?.getD undef = vs 5 := slot_is hA (by kernel_rfl) (Nat.le_of_ble_eq_true (by kernel_rfl)) (by kernel_rfl)
            have S1 : Held w W (blkR g6 24 #[.int .i64 f, .slice Au pre.length cu] :: LF) := S
            obtain ⟨q0, q1, q2, q3, q4⟩ := Blk.c2 (S1.at_ (l1 := []))
            obtain ⟨A1, c1, hq⟩ := f5
            rw [hq] at e42
            go_step
            refine hK undef _ ?_ trivial
            show Held w _ (blkR g6 24 #[.int .i64 f, vs 5] :: LF)
            rw [hq]
            exact S1.set (l1 := []) 1 (.slice A1 (pre.length + 1) c1)
        · intro vs gs W S hp
          have S : Held w W (rowR 5 1 (vs 3) x.length (bv x) :: rowR 25 1 (vs 4) 1 [vs 3] :: rowR 25 1 (vs 5) (pre.length + 1) (Bs ++ [vs 3]) :: blkR g6 24 #[.int .i64 f, vs 5] :: objR (w2.heap.size + 1) o :: objR w2.heap.size d :: blkR bx 22 #[.slice A' (L.length) c'] :: blkR (w.heap.size + 1) 24 #[.int .i64 0, .slice none 0 0] :: blkR w.heap.size 24 #[.int .i64 f, .slice A L.length c] :: textR (pre.map (·.2)) Bs) := by simpa only [List.flatMap_cons, List.flatMap_nil, List.append_nil, List.nil_append, List.cons_append, List.append_assoc] using S
          have p0 : vs 0 = .pointer (some ⟨g6, 1, none⟩) := hp 0 (Nat.le_of_ble_eq_true rfl)
          have p1 : vs 1 = .slice Au pre.length cu := hp 1 (Nat.le_of_ble_eq_true rfl)
          have p2 : vs 2 = .slice Ax x.length cx := hp 2 (Nat.le_of_ble_eq_true rfl)
          have p6 : vs 6 = .pointer (some ⟨g6, 1, none⟩) := hp 6 (Nat.le_of_ble_eq_true rfl)
          obtain ⟨A5, c5, h5⟩ : ∃ A c, vs 5 = .slice A (pre.length + 1) c := hp 5 (Nat.le_of_ble_eq_true rfl)
          have H5 := Lib.hid h5
          have HS5 := Lib.hid S
          clear hp S
          simp only [putAll, p0, p1, p2, p6, h5, Act.put, List.setIfInBounds_toArray, List.set_cons_succ, List.set_cons_zero]
          clear p0 p1 p2 p6 h5
          refine ⟨rfl, ?_⟩
          gi_wp2
          have S6 := HS5.out
          rw [H5.out] at S6
          have S7 := S6.drop.drop.drop.drop
          refine ⟨S7.same2 Ho.out Hd.out, ⟨(S7.at_ (l1 := [_, _])).cell 0, TM.out.kp0 S7.k⟩, .slice A5 (pre.length + 1) c5, Bs ++ [vs 3], by simp [H1.out], ?_⟩
          have hm : (pre ++ [((.slice Ax x.length cx, x) : VX)]).map (·.2) = pre.map (·.2) ++ [x] := by simp
          unfold LC
          rw [hm, textR_snoc _ _ _ _ (by rw [List.length_map]; exact H1.out.symm), List.length_append]
          exact (S6.sub (.cons_cons _ (.cons _ (.cons_cons _ (.cons_cons _ (.cons _ (.cons _ (List.Sublist.refl _)))))))).perm (List.perm_append_singleton _ _).symm
        -- END entcutF
      case done =>
        rintro xs W hxs ⟨v, Bs, h1, S⟩ hD
        have HE : Hid (cutB f g L = (f, xs.map (·.2))) := Lib.hid (by rw [HC.out, hxs])
        have S1 := Lib.hid (S.withObj hwb hD ((cells_txs _ _).blk.blk.blk.blk.row.not S (Nat.le_refl _) hD rfl))
        obtain ⟨Av, cv, hvv, _, _⟩ := ow_form (S.at_ (l1 := []))
        subst hvv
        have H1 := Lib.hid h1
        obtain ⟨r0, r1, r2, r3, r4⟩ := Blk.c2 (S1.out.at_ (l1 := [_, _]))
        obtain ⟨t0, t1, t2, t3, t4⟩ := Blk.c2 (S1.out.at_ (l1 := [_, _, _, _]))
        have S2 := (S1.out.set (l1 := [_, _, _, _]) 0 (.int .i64 f)).set (l1 := [_, _, _, _]) 1 (.slice Av xs.length cv)
        simp only [List.setIfInBounds_toArray, List.set_cons_succ, List.set_cons_zero, List.cons_append, List.nil_append] at S2
        have S2 := Lib.hid S2
        clear S h1 hxs HC
        go_wp2
        refine ret_marks [w2.heap.size] rfl (by simp) (fun D hDm => by simp at hDm; subst hDm; exact S2.out.at_ (l1 := [])) (fun W' hk => ?_)
        have S3 := S2.out.rest (l1 := [_]) hk (fun g hg => by simp at hg; subst hg; exact ⟨_, List.mem_singleton.2 rfl, by simp [objR]⟩)
        obtain ⟨h4, h5, -⟩ := Blk.c2 (S3.at_ (l1 := [_, _, _]))
        refine ⟨.agg #[.int .i64 f, .slice Av xs.length cv], ?_, .slice Av xs.length cv, Bs, by rw [HE.out], by rw [HE.out, List.length_map]; exact H1.out.symm, ?_⟩
        · simp [results, Try.f32, go_sem, h4, h5]
        · rw [HE.out, List.length_map]
          exact S3.sub (.cons_cons _ (.cons _ (.cons _ (.cons _ (.cons _ (List.Sublist.refl _))))))
      case stop =>
        rintro c pre W _ h
        exact h.elim
end Go.Proofs.Ytdmdnphbheomoaa
/- EntryCut: the walk. -/
namespace Go.Proofs.Ytdmdnphbheomoaa
open Go.RowKit
theorem cutB_at {F : Int} {X : List (List UInt8)} {k : Nat} : cutB F (F + k) X = if X.length ≤ k then (0, []) else (F + k, X.drop k) := by
  have : cutK F (F + k) = k := by unfold cutK; split <;> omega
  unfold cutB
  rw [this]
theorem fits_self {X : List (List UInt8)} (m : Nat) (hm : m ≤ X.length) : fitsB 0 X (X.take m) = true := by
  unfold fitsB
  have hl : (X.take m).length = m := by rw [List.length_take]; omega
  rw [hl, if_neg (by omega)]
  simp only [Int.toNat_zero, Nat.sub_zero, List.drop_zero]
  rw [Nat.min_eq_left hm, List.take_take, Nat.min_self]
  simp
set_option maxRecDepth 100000 in
set_option maxHeartbeats 8000000 in
theorem cut_law_true (f : Int) (hf : -9223372036854775808 ≤ f ∧ f ≤ 9223372036854775807) (v : Value) (L : List (List UInt8)) (w : World) (hv : Txs w v L) (a : Int) (ha : -9223372036854775808 ≤ a ∧ a ≤ 9223372036854775807) :
    Calls Try.prog 9 #[.agg #[.int .i64 f, v], .int .i64 a] w fun r w' => r = .returned (.bool true) ∧ Kp [] w w' := by
  obtain ⟨A, cL, rfl, -, -⟩ := hv.open_
  have Hv := Lib.hid hv
  have K0 := Lib.hid ((Kp.refl [] w).alloc (.cells #[.int .i64 f, .slice A L.length cL] 24))
  have hF := rf_le f
  have hX := rL_ok L
  clear hv
  go_enter Try.func9, Try.ntmps9
  go_wp2_with fail
  refine (right15_any f hf _ L _ (Hv.out.kp0 K0.out)).mono ?_
  rintro e w1 ⟨y, rfl, ty, k1⟩
  have K1 := Lib.hid (K0.out.trans k1 (by simp))
  generalize rf f = F at *
  generalize rL L = X at *
  obtain ⟨Ay, cy, rfl, hAy, -⟩ := ty.open_
  obtain ⟨ad, rfl⟩ := hAy hX.1
  have TY := Lib.hid ty
  have HCY := Lib.hid (txs_len ty).2.1
  have HX := Lib.hid hX
  have hX1 := hX.1
  have hX2 := hX.2.1
  have S1 := Lib.hid ((Held.start w1).newBlk 24 #[.int .i64 F, .slice (some ad) X.length cy])
  clear ty k1 hAy hX
  generalize hg5 : w1.heap.size = g5 at *
  obtain ⟨hk1, hk2, hk3, hk4⟩ := back_k a ((X.length : Int) + 2) (by omega)
  have hn0 : ¬ (X.length : Int) + 2 = 0 := by omega
  have hk5 : 0 ≤ (a.tmod ((X.length : Int) + 2) + (X.length : Int) + 2) % ((X.length : Int) + 2) := Int.emod_nonneg _ hn0
  have hk6 : (a.tmod ((X.length : Int) + 2) + (X.length : Int) + 2) % ((X.length : Int) + 2) < (X.length : Int) + 2 := Int.emod_lt_of_pos _ (by omega)
  obtain ⟨k, HK⟩ : ∃ k : Nat, Hid ((a.tmod ((X.length : Int) + 2) + (X.length : Int) + 2) % ((X.length : Int) + 2) = (k : Int)) := ⟨((a.tmod ((X.length : Int) + 2) + (X.length : Int) + 2) % ((X.length : Int) + 2)).toNat, Lib.hid (by omega)⟩
  go_wp2_with fail
  generalize hw2 : w1.alloc (.cells #[.int .i64 F, .slice (some ad) X.length cy] 24) = w2 at *
  have T0 := Lib.hid ((Kp.refl [] w2).drew)
  have BG : Hid (Blk w2 g5 24 #[.int .i64 F, .slice (some ad) X.length cy]) := Lib.hid (S1.out.at_ (l1 := []))
  refine wp_region_lexf [] [] (fun V : World => Kp [] w2 V) (by kernel_rfl) (by kernel_rfl) T0.out (fun σ hne fw hf hsur => ?_); have Hsur := Lib.hid hsur; clear hsur
  have q1 := fun y => (Blk.c2 (BG.out.kp (hf y) (by simp))).1
  have q2 := fun y => (Blk.c2 (BG.out.kp (hf y) (by simp))).2.1
  clear hf
  obtain ⟨d0, d1, -⟩ := Blk.c2 (BG.out.kp T0.out (by simp))
  go_wp2_with (first
    | (refine lex_qq Hsur.out rfl rfl rfl ?_; intro K hK; go_big_quiet_op; go_big_quiet_on) | (refine lex_skipk rfl ?_; intro K hK; go_simp; refine hK _ _ ?_; clear hK K) | (refine lex_e rfl rfl ?_; intro K hK; go_step) | (refine lex_nil ?_)
    | ((with_reducible apply And.intro); · (intro hl; first | (exact ls_absurd hl rfl) | exact T0.out))
    | fail)
  have hkb : k < X.length + 2 := by have := HK.out; omega
  rw [HK.out]
  clear hk1 hk2 hk3 hk4 hk5 hk6 q1 q2 d0 d1
  have HCk := Lib.hid (cutB_at (F := F) (X := X) (k := k))
  refine (cut15_any F (by omega) _ (F + k) (by omega) X _ ((TY.out.kp0 S1.out.k).kp0 T0.out) (by omega) (fun e he => by have := HX.out.2.2 e he; omega)).mono ?_
  rintro e w3 ⟨v3, Bs3, rfl, hB3, T3⟩
  by_cases hkn : X.length ≤ k
  · rw [if_pos hkn] at HCk
    rw [HCk.out] at hB3 T3 ⊢
    dsimp only at hB3 T3 ⊢
    have k3 := T3.k
    obtain ⟨A3, c3, hv3, -, -⟩ := ow_form (T3.at_ (l1 := []))
    subst hv3
    have S3 := Lib.hid (((S1.out.kp T0.out).kp k3).newBlk 24 #[.int .i64 0, .slice A3 0 c3])
    clear k3 T3 hB3 S1 T0 BG
    generalize hg7 : w3.heap.size = g7 at *
    generalize hw4 : w3.alloc (.cells #[.int .i64 0, .slice A3 0 c3] 24) = w4 at *
    obtain ⟨p0, p1, -⟩ := Blk.c2 (S3.out.at_ (l1 := []))
    obtain ⟨q0, q1, -⟩ := Blk.c2 (S3.out.at_ (l1 := [_]))
    have hkn' : (X.length : Int) ≤ k := by omega
    go_wp2
    generalize a.tmod ((X.length : Int) + 2) + (X.length : Int) + 2 = z3 at *
    generalize a.tmod ((X.length : Int) + 2) + (X.length : Int) = z2 at *
    generalize a.tmod ((X.length : Int) + 2) = z1 at *
    try simp only [List.length_nil]
    have KW := Lib.hid S3.out.k
    have BW := Lib.hid (show Blk w4 g5 24 #[.int .i64 F, .slice (some ad) X.length cy] from S3.out.ok (blkR g5 24 #[.int .i64 F, .slice (some ad) X.length cy]) (by simp))
    clear S3 p0 p1 q0 q1
    go_loopw [8, 9, 10] (fun j _ _ wr => ∃ q : Nat, q ≤ X.length ∧ j = .int .i64 q ∧ Kp [] w4 wr) (fun j _ _ _ => X.length - (intOf j).toNat)
    case atStart => exact ⟨0, by omega, rfl, Kp.refl _ _⟩
    case round =>
      obtain ⟨q, hq, rfl, kw⟩ := hrel
      have KQ := Lib.hid kw
      obtain ⟨q0, q1, -⟩ := Blk.c2 (BW.out.kp kw (by simp))
      clear kw
      by_cases hlt : q < X.length
      · obtain ⟨Ax, cx, hcx, hrx⟩ := TY.out.at_ hlt
        have hxl := HX.out.2.2 X[q] (List.getElem_mem hlt)
        have C1 := Lib.hid (fun V (kk : Kp [] w4 V) => cell_kept hcx (KW.out.trans kk (by simp)))
        have RX := Lib.hid (fun V (kk : Kp [] w4 V) => rd_old hrx (KW.out.trans kk (by simp)))
        clear hcx hrx
        generalize X[q] = x at *
        have hcx := C1.out _ KQ.out
        go_wp2_with fail
        refine (spell15_any _ x _ (RX.out _ KQ.out) (by omega)).mono ?_
        rintro r w6 ⟨rfl, k6⟩
        have K6 := Lib.hid (KQ.out.trans k6 (by simp))
        have hsl := sps_len x
        have hss : (⟨(spell x).toArray⟩ : ByteArray).size ≤ 1073741824 := by
          rw [Lib.size_eq]
          show (spell x).length ≤ _
          simp only [spell, List.length_append, List.length_cons, List.length_nil]
          omega
        have HUT := Lib.hid (UT_some (show readT (⟨(spell x).toArray⟩ : ByteArray).data.toList = some x from readT_spell x))
        have HS := Lib.hid hss
        clear k6 hcx q0 q1 hsl hss
        go_wp2_with fail
        refine (unspell15_any _ _ HS.out).mono ?_
        rintro r w7 ⟨u7, rfl, o7⟩
        rw [HUT.out.2]
        rw [HUT.out.1] at o7
        have K7 := Lib.hid (K6.out.trans o7.2.1 (by simp))
        have R1 := Lib.hid (fun V (kk : Kp [] w7 V) => rd_old o7.rd kk)
        have R2 := Lib.hid (fun V (kk : Kp [] w7 V) => RX.out V (K7.out.trans kk (by simp)))
        have B7 := Lib.hid (BW.out.kp K7.out (by simp))
        have C7 := Lib.hid (C1.out _ K7.out)
        obtain ⟨A7, c7, rfl⟩ := o7.form
        have hzz : (x == x) = true := beq_self_eq_true x
        have T0 := Lib.hid ((Kp.refl [] w7).drew)
        clear o7
        go_wp2_with fail
        refine wp_region_lexf [] [] (fun V : World => Kp [] w7 V) (by kernel_rfl) (by kernel_rfl) T0.out (fun σ hne fw hf hsur => ?_); have Hsur := Lib.hid hsur; clear hsur
        have q1 := fun y => (Blk.c2 (B7.out.kp (hf y) (by simp))).1
        have q2 := fun y => (Blk.c2 (B7.out.kp (hf y) (by simp))).2.1
        have q3 := fun y => cell_kept C7.out (hf y)
        clear hf
        go_wp2_with (first
          | (refine lex_qk (.string ⟨x.toArray⟩) rfl rfl (fun V hV => exec_convT rfl rfl (strB (R1.out V hV))) ?_; intro K hK; go_simp; refine hK _ _ ?_; clear hK K)
          | (refine lex_qk (.string ⟨x.toArray⟩) rfl rfl (fun V hV => exec_convT rfl rfl (strB (R2.out V hV))) ?_; intro K hK; go_simp; refine hK _ _ ?_; clear hK K)
          | (refine lex_qq Hsur.out rfl rfl rfl ?_; intro K hK; go_big_quiet_op; go_big_quiet_on) | (refine lex_skipk rfl ?_; intro K hK; go_simp; refine hK _ _ ?_; clear hK K) | (refine lex_e rfl rfl ?_; intro K hK; go_step) | (refine lex_nil ?_)
          | ((with_reducible apply And.intro); · (intro hl; first | (exact ls_absurd hl rfl) | exact T0.out)))
        go_roundw
        case rel => exact ⟨q + 1, by omega, by go_num, K7.out.trans T0.out (by simp)⟩
        case measure => simp [intOf]; omega
      · obtain rfl : q = X.length := by omega
        by_cases hlk : X.length < k
        · have hmi : (X.length : Int) < k := by omega
          have qs := fun V => cut_texts (some ad) X.length cy X.length (X.length : Int) rfl (by omega) HCY.out V
          have HK8 := Lib.hid (KW.out.trans KQ.out (by simp))
          have TXA := Lib.hid (TY.out.kp0 HK8.out)
          have BA := Lib.hid (BW.out.kp KQ.out (by simp))
          obtain ⟨y0, y1, -⟩ := Blk.c2 (BA.out.alloc (.cells #[.int .i64 0, .slice (some ad) X.length cy] 24))
          have HFA := Lib.hid (fits_self (X := X) X.length (Nat.le_refl _))
          rw [List.take_length] at HFA
          have HFB := Lib.hid (fits_self (X := X) X.length (by omega))
          go_wp2_with fail
          have KN := Lib.hid ((Kp.refl [] wr).alloc (.cells #[.int .i64 0, .slice (some ad) X.length cy] 24))
          have BN := Lib.hid (Blk.new wr 24 #[.int .i64 0, .slice (some ad) X.length cy])
          generalize hg11 : wr.heap.size = g11 at *
          generalize hw8 : wr.alloc (.cells #[.int .i64 0, .slice (some ad) X.length cy] 24) = w8 at *
          have BA8 := Lib.hid (BA.out.kp KN.out (by simp))
          have TX8 := Lib.hid (TXA.out.kp0 KN.out)
          have TF8 := Lib.hid (txs_front (k := X.length) (by omega) TX8.out)
          have KE := Lib.hid ((K1.out.trans HK8.out (by simp)).trans KN.out (by simp))
          have T0 := Lib.hid ((Kp.refl [] w8).drew)
          clear q0 q1 y0 y1
          refine wp_region_lexf [3, 10, 15] [] (fun V : World => Kp [] w8 V) (by kernel_rfl) (by kernel_rfl) T0.out (fun σ hne fw hf hsur => ?_); have Hsur := Lib.hid hsur; clear hsur
          have q1 := fun y => (Blk.c2 (BA8.out.kp (hf y) (by simp))).1
          have q2 := fun y => (Blk.c2 (BA8.out.kp (hf y) (by simp))).2.1
          have q3 := fun y => (Blk.c2 (BN.out.kp (hf y) (by simp))).1
          have q4 := fun y => (Blk.c2 (BN.out.kp (hf y) (by simp))).2.1
          clear hf
          go_wp2_with (first
            | (refine lex_qq Hsur.out rfl rfl rfl ?_; intro K hK; go_big_quiet_op; go_big_quiet_on) | (refine lex_skipk rfl ?_; intro K hK; go_simp; refine hK _ _ ?_; clear hK K) | (refine lex_e rfl rfl ?_; intro K hK; go_step) | (refine lex_nil ?_)
            | (go_at_call 34; ((with_reducible refine (fits_any 0 (by decide) _ _ X X _ (TX8.out.kp0 T0.out) (TX8.out.kp0 T0.out)).mono ?_); rw [HFA.out]; rintro r w9 ⟨rfl, k9⟩; have T9 := Lib.hid (T0.out.trans k9 (by simp)); clear k9))
            | (go_at_call 34; ((with_reducible refine (fits_any 0 (by decide) _ _ X (X.take X.length) _ (TX8.out.kp0 T9.out) (TF8.out.kp0 T9.out)).mono ?_); rw [HFB.out]; rintro r w10 ⟨rfl, k10⟩; have T10 := Lib.hid (T9.out.trans k10 (by simp)); clear k10))
            | (go_at_call 10; ((with_reducible refine (known15_true _).mono ?_); rintro r w11 ⟨rfl, k11⟩; have T11 := Lib.hid (T10.out.trans k11 (by simp)); clear k11))
            | ((with_reducible apply And.intro); · (intro hl; first | (exact ls_absurd hl rfl) | exact T11.out))
            | ((with_reducible apply And.intro); · (intro hl; first | (exact ls_absurd hl rfl) | exact T10.out))
            | ((with_reducible apply And.intro); · (intro hl; first | (exact ls_absurd hl rfl) | exact T9.out))
            | ((with_reducible apply And.intro); · (intro hl; first | (exact ls_absurd hl rfl) | exact T0.out)))
          go_ret
          exact ⟨rfl, KE.out.trans T11.out (by simp)⟩
        · have hmi : ¬ (X.length : Int) < k := by omega
          have qs := fun V => cut_texts (some ad) X.length cy k (k : Int) rfl (by omega) HCY.out V
          have HK8 := Lib.hid (KW.out.trans KQ.out (by simp))
          have TXA := Lib.hid (TY.out.kp0 HK8.out)
          have BA := Lib.hid (BW.out.kp KQ.out (by simp))
          obtain ⟨y0, y1, -⟩ := Blk.c2 (BA.out.alloc (.cells #[.int .i64 0, .slice (some ad) X.length cy] 24))
          have HFA := Lib.hid (fits_self (X := X) X.length (Nat.le_refl _))
          rw [List.take_length] at HFA
          have HFB := Lib.hid (fits_self (X := X) k (by omega))
          go_wp2_with fail
          have KN := Lib.hid ((Kp.refl [] wr).alloc (.cells #[.int .i64 0, .slice (some ad) X.length cy] 24))
          have BN := Lib.hid (Blk.new wr 24 #[.int .i64 0, .slice (some ad) X.length cy])
          generalize hg11 : wr.heap.size = g11 at *
          generalize hw8 : wr.alloc (.cells #[.int .i64 0, .slice (some ad) X.length cy] 24) = w8 at *
          have BA8 := Lib.hid (BA.out.kp KN.out (by simp))
          have TX8 := Lib.hid (TXA.out.kp0 KN.out)
          have TF8 := Lib.hid (txs_front (k := k) (by omega) TX8.out)
          have KE := Lib.hid ((K1.out.trans HK8.out (by simp)).trans KN.out (by simp))
          have T0 := Lib.hid ((Kp.refl [] w8).drew)
          clear q0 q1 y0 y1
          refine wp_region_lexf [3, 10, 15] [] (fun V : World => Kp [] w8 V) (by kernel_rfl) (by kernel_rfl) T0.out (fun σ hne fw hf hsur => ?_); have Hsur := Lib.hid hsur; clear hsur
          have q1 := fun y => (Blk.c2 (BA8.out.kp (hf y) (by simp))).1
          have q2 := fun y => (Blk.c2 (BA8.out.kp (hf y) (by simp))).2.1
          have q3 := fun y => (Blk.c2 (BN.out.kp (hf y) (by simp))).1
          have q4 := fun y => (Blk.c2 (BN.out.kp (hf y) (by simp))).2.1
          clear hf
          go_wp2_with (first
            | (refine lex_qq Hsur.out rfl rfl rfl ?_; intro K hK; go_big_quiet_op; go_big_quiet_on) | (refine lex_skipk rfl ?_; intro K hK; go_simp; refine hK _ _ ?_; clear hK K) | (refine lex_e rfl rfl ?_; intro K hK; go_step) | (refine lex_nil ?_)
            | (go_at_call 34; ((with_reducible refine (fits_any 0 (by decide) _ _ X X _ (TX8.out.kp0 T0.out) (TX8.out.kp0 T0.out)).mono ?_); rw [HFA.out]; rintro r w9 ⟨rfl, k9⟩; have T9 := Lib.hid (T0.out.trans k9 (by simp)); clear k9))
            | (go_at_call 34; ((with_reducible refine (fits_any 0 (by decide) _ _ X (X.take k) _ (TX8.out.kp0 T9.out) (TF8.out.kp0 T9.out)).mono ?_); rw [HFB.out]; rintro r w10 ⟨rfl, k10⟩; have T10 := Lib.hid (T9.out.trans k10 (by simp)); clear k10))
            | (go_at_call 10; ((with_reducible refine (known15_true _).mono ?_); rintro r w11 ⟨rfl, k11⟩; have T11 := Lib.hid (T10.out.trans k11 (by simp)); clear k11))
            | ((with_reducible apply And.intro); · (intro hl; first | (exact ls_absurd hl rfl) | exact T11.out))
            | ((with_reducible apply And.intro); · (intro hl; first | (exact ls_absurd hl rfl) | exact T10.out))
            | ((with_reducible apply And.intro); · (intro hl; first | (exact ls_absurd hl rfl) | exact T9.out))
            | ((with_reducible apply And.intro); · (intro hl; first | (exact ls_absurd hl rfl) | exact T0.out)))
          go_ret
          exact ⟨rfl, KE.out.trans T11.out (by simp)⟩
  · rw [if_neg hkn] at HCk
    obtain ⟨Y, HY⟩ : ∃ Y, Hid (X.drop k = Y) := ⟨_, Lib.hid rfl⟩
    rw [HY.out] at HCk
    rw [HCk.out] at hB3 T3 ⊢
    dsimp only at hB3 T3 ⊢
    have HB3 := Lib.hid hB3
    obtain ⟨A3, c3, rfl, -, -⟩ := ow_form (T3.at_ (l1 := []))
    have S3 := Lib.hid (((S1.out.kp T0.out).join T3).newBlk 24 #[.int .i64 (F + k), .slice A3 Y.length c3])
    clear T3 hB3 S1 T0 BG
    generalize hg7 : w3.heap.size = g7 at *
    generalize hw4 : w3.alloc (.cells #[.int .i64 (F + k), .slice A3 Y.length c3] 24) = w4 at *
    have TX3 := Lib.hid (txs_ok (v := .slice A3 Y.length c3) HB3.out S3.out (by simp) (fun r hr => by simp [hr]))
    have BG := Lib.hid (show Blk w4 g5 24 #[.int .i64 F, .slice (some ad) X.length cy] from S3.out.ok (blkR g5 24 #[.int .i64 F, .slice (some ad) X.length cy]) (by simp))
    have BH := Lib.hid (show Blk w4 g7 24 #[.int .i64 (F + k), .slice A3 Y.length c3] from S3.out.at_ (l1 := []))
    obtain ⟨Ac, cc, qc, qd⟩ := cut_textsl .i64 (some ad) X.length cy k (k : Int) rfl (by omega)
    have TXC := Lib.hid (qd w4 X (TY.out.kp0 S3.out.k))
    rw [HY.out] at TXC
    obtain ⟨p0, p1, -⟩ := Blk.c2 BH.out
    obtain ⟨q0, q1, -⟩ := Blk.c2 BG.out
    have hkn' : ¬ (X.length : Int) ≤ k := by omega
    have T0 := Lib.hid ((Kp.refl [] w4).drew)
    clear qd
    go_wp2_with fail
    clear p0 p1 q0 q1
    refine wp_region_lexf [14] [] (fun V : World => Kp [] w4 V) (by kernel_rfl) (by kernel_rfl) T0.out (fun σ hne fw hf hsur => ?_); have Hsur := Lib.hid hsur; clear hsur
    have q1 := fun y => (Blk.c2 (BG.out.kp (hf y) (by simp))).1
    have q2 := fun y => (Blk.c2 (BG.out.kp (hf y) (by simp))).2.1
    have q3 := fun y => (Blk.c2 (BH.out.kp (hf y) (by simp))).1
    have q4 := fun y => (Blk.c2 (BH.out.kp (hf y) (by simp))).2.1
    clear hf
    go_wp2_with (first
      | (refine lex_qq Hsur.out rfl rfl rfl ?_; intro K hK; go_big_quiet_op; go_big_quiet_on) | (refine lex_skipk rfl ?_; intro K hK; go_simp; refine hK _ _ ?_; clear hK K) | (refine lex_e rfl rfl ?_; intro K hK; go_step) | (refine lex_nil ?_)
      | (go_at_call 30; ((with_reducible refine (esame_any _ _ Y Y _ (TX3.out.kp0 T0.out) (TXC.out.kp0 T0.out)).mono ?_); rw [beq_self_eq_true Y]; rintro r w9 ⟨rfl, k9⟩; have T9 := Lib.hid (T0.out.trans k9 (by simp)); clear k9))
      | ((with_reducible apply And.intro); · (intro hl; first | (exact ls_absurd hl rfl) | exact T9.out))
      | ((with_reducible apply And.intro); · (intro hl; first | (exact ls_absurd hl rfl) | exact T0.out)))
    have S9 := Lib.hid (S3.out.kp T9.out)
    obtain ⟨p0, p1, -⟩ := Blk.c2 (BH.out.kp T9.out (by simp))
    obtain ⟨q0, q1, -⟩ := Blk.c2 (BG.out.kp T9.out (by simp))
    clear S3
    generalize a.tmod ((X.length : Int) + 2) + (X.length : Int) + 2 = z3 at *
    generalize a.tmod ((X.length : Int) + 2) + (X.length : Int) = z2 at *
    generalize a.tmod ((X.length : Int) + 2) = z1 at *
    try simp only [List.length_nil]
    have KW := Lib.hid S9.out.k
    have BW := Lib.hid (show Blk w9 g5 24 #[.int .i64 F, .slice (some ad) X.length cy] from S9.out.ok (blkR g5 24 #[.int .i64 F, .slice (some ad) X.length cy]) (by simp))
    clear S9 p0 p1 q0 q1
    go_loopw [8, 9, 10] (fun j _ _ wr => ∃ q : Nat, q ≤ X.length ∧ j = .int .i64 q ∧ Kp [] w9 wr) (fun j _ _ _ => X.length - (intOf j).toNat)
    case atStart => exact ⟨0, by omega, rfl, Kp.refl _ _⟩
    case round =>
      obtain ⟨q, hq, rfl, kw⟩ := hrel
      have KQ := Lib.hid kw
      obtain ⟨q0, q1, -⟩ := Blk.c2 (BW.out.kp kw (by simp))
      clear kw
      by_cases hlt : q < X.length
      · obtain ⟨Ax, cx, hcx, hrx⟩ := TY.out.at_ hlt
        have hxl := HX.out.2.2 X[q] (List.getElem_mem hlt)
        have C1 := Lib.hid (fun V (kk : Kp [] w9 V) => cell_kept hcx (KW.out.trans kk (by simp)))
        have RX := Lib.hid (fun V (kk : Kp [] w9 V) => rd_old hrx (KW.out.trans kk (by simp)))
        clear hcx hrx
        generalize X[q] = x at *
        have hcx := C1.out _ KQ.out
        go_wp2_with fail
        refine (spell15_any _ x _ (RX.out _ KQ.out) (by omega)).mono ?_
        rintro r w6 ⟨rfl, k6⟩
        have K6 := Lib.hid (KQ.out.trans k6 (by simp))
        have hsl := sps_len x
        have hss : (⟨(spell x).toArray⟩ : ByteArray).size ≤ 1073741824 := by
          rw [Lib.size_eq]
          show (spell x).length ≤ _
          simp only [spell, List.length_append, List.length_cons, List.length_nil]
          omega
        have HUT := Lib.hid (UT_some (show readT (⟨(spell x).toArray⟩ : ByteArray).data.toList = some x from readT_spell x))
        have HS := Lib.hid hss
        clear k6 hcx q0 q1 hsl hss
        go_wp2_with fail
        refine (unspell15_any _ _ HS.out).mono ?_
        rintro r w7 ⟨u7, rfl, o7⟩
        rw [HUT.out.2]
        rw [HUT.out.1] at o7
        have K7 := Lib.hid (K6.out.trans o7.2.1 (by simp))
        have R1 := Lib.hid (fun V (kk : Kp [] w7 V) => rd_old o7.rd kk)
        have R2 := Lib.hid (fun V (kk : Kp [] w7 V) => RX.out V (K7.out.trans kk (by simp)))
        have B7 := Lib.hid (BW.out.kp K7.out (by simp))
        have C7 := Lib.hid (C1.out _ K7.out)
        obtain ⟨A7, c7, rfl⟩ := o7.form
        have hzz : (x == x) = true := beq_self_eq_true x
        have T0 := Lib.hid ((Kp.refl [] w7).drew)
        clear o7
        go_wp2_with fail
        refine wp_region_lexf [] [] (fun V : World => Kp [] w7 V) (by kernel_rfl) (by kernel_rfl) T0.out (fun σ hne fw hf hsur => ?_); have Hsur := Lib.hid hsur; clear hsur
        have q1 := fun y => (Blk.c2 (B7.out.kp (hf y) (by simp))).1
        have q2 := fun y => (Blk.c2 (B7.out.kp (hf y) (by simp))).2.1
        have q3 := fun y => cell_kept C7.out (hf y)
        clear hf
        go_wp2_with (first
          | (refine lex_qk (.string ⟨x.toArray⟩) rfl rfl (fun V hV => exec_convT rfl rfl (strB (R1.out V hV))) ?_; intro K hK; go_simp; refine hK _ _ ?_; clear hK K)
          | (refine lex_qk (.string ⟨x.toArray⟩) rfl rfl (fun V hV => exec_convT rfl rfl (strB (R2.out V hV))) ?_; intro K hK; go_simp; refine hK _ _ ?_; clear hK K)
          | (refine lex_qq Hsur.out rfl rfl rfl ?_; intro K hK; go_big_quiet_op; go_big_quiet_on) | (refine lex_skipk rfl ?_; intro K hK; go_simp; refine hK _ _ ?_; clear hK K) | (refine lex_e rfl rfl ?_; intro K hK; go_step) | (refine lex_nil ?_)
          | ((with_reducible apply And.intro); · (intro hl; first | (exact ls_absurd hl rfl) | exact T0.out)))
        go_roundw
        case rel => exact ⟨q + 1, by omega, by go_num, K7.out.trans T0.out (by simp)⟩
        case measure => simp [intOf]; omega
      · obtain rfl : q = X.length := by omega
        by_cases hlk : X.length < k
        · exact absurd hlk (by omega)
        · have hmi : ¬ (X.length : Int) < k := by omega
          have qs := fun V => cut_texts (some ad) X.length cy k (k : Int) rfl (by omega) HCY.out V
          have HK8 := Lib.hid (KW.out.trans KQ.out (by simp))
          have TXA := Lib.hid (TY.out.kp0 HK8.out)
          have BA := Lib.hid (BW.out.kp KQ.out (by simp))
          obtain ⟨y0, y1, -⟩ := Blk.c2 (BA.out.alloc (.cells #[.int .i64 0, .slice (some ad) X.length cy] 24))
          have HFA := Lib.hid (fits_self (X := X) X.length (Nat.le_refl _))
          rw [List.take_length] at HFA
          have HFB := Lib.hid (fits_self (X := X) k (by omega))
          go_wp2_with fail
          have KN := Lib.hid ((Kp.refl [] wr).alloc (.cells #[.int .i64 0, .slice (some ad) X.length cy] 24))
          have BN := Lib.hid (Blk.new wr 24 #[.int .i64 0, .slice (some ad) X.length cy])
          generalize hg11 : wr.heap.size = g11 at *
          generalize hw8 : wr.alloc (.cells #[.int .i64 0, .slice (some ad) X.length cy] 24) = w8 at *
          have BA8 := Lib.hid (BA.out.kp KN.out (by simp))
          have TX8 := Lib.hid (TXA.out.kp0 KN.out)
          have TF8 := Lib.hid (txs_front (k := k) (by omega) TX8.out)
          have KE := Lib.hid ((K1.out.trans HK8.out (by simp)).trans KN.out (by simp))
          have T0 := Lib.hid ((Kp.refl [] w8).drew)
          clear q0 q1 y0 y1
          refine wp_region_lexf [3, 10, 15] [] (fun V : World => Kp [] w8 V) (by kernel_rfl) (by kernel_rfl) T0.out (fun σ hne fw hf hsur => ?_); have Hsur := Lib.hid hsur; clear hsur
          have q1 := fun y => (Blk.c2 (BA8.out.kp (hf y) (by simp))).1
          have q2 := fun y => (Blk.c2 (BA8.out.kp (hf y) (by simp))).2.1
          have q3 := fun y => (Blk.c2 (BN.out.kp (hf y) (by simp))).1
          have q4 := fun y => (Blk.c2 (BN.out.kp (hf y) (by simp))).2.1
          clear hf
          go_wp2_with (first
            | (refine lex_qq Hsur.out rfl rfl rfl ?_; intro K hK; go_big_quiet_op; go_big_quiet_on) | (refine lex_skipk rfl ?_; intro K hK; go_simp; refine hK _ _ ?_; clear hK K) | (refine lex_e rfl rfl ?_; intro K hK; go_step) | (refine lex_nil ?_)
            | (go_at_call 34; ((with_reducible refine (fits_any 0 (by decide) _ _ X X _ (TX8.out.kp0 T0.out) (TX8.out.kp0 T0.out)).mono ?_); rw [HFA.out]; rintro r w9 ⟨rfl, k9⟩; have T9 := Lib.hid (T0.out.trans k9 (by simp)); clear k9))
            | (go_at_call 34; ((with_reducible refine (fits_any 0 (by decide) _ _ X (X.take k) _ (TX8.out.kp0 T9.out) (TF8.out.kp0 T9.out)).mono ?_); rw [HFB.out]; rintro r w10 ⟨rfl, k10⟩; have T10 := Lib.hid (T9.out.trans k10 (by simp)); clear k10))
            | (go_at_call 10; ((with_reducible refine (known15_true _).mono ?_); rintro r w11 ⟨rfl, k11⟩; have T11 := Lib.hid (T10.out.trans k11 (by simp)); clear k11))
            | ((with_reducible apply And.intro); · (intro hl; first | (exact ls_absurd hl rfl) | exact T11.out))
            | ((with_reducible apply And.intro); · (intro hl; first | (exact ls_absurd hl rfl) | exact T10.out))
            | ((with_reducible apply And.intro); · (intro hl; first | (exact ls_absurd hl rfl) | exact T9.out))
            | ((with_reducible apply And.intro); · (intro hl; first | (exact ls_absurd hl rfl) | exact T0.out)))
          go_ret
          exact ⟨rfl, KE.out.trans T11.out (by simp)⟩
theorem cut_law_said (w : World) (f : Int) (hf : -9223372036854775808 ≤ f ∧ f ≤ 9223372036854775807) (v : Value) (L : List (List UInt8)) (hv : Txs w v L) (a : Int) (ha : -9223372036854775808 ≤ a ∧ a ≤ 9223372036854775807) :
    Calls Try.prog 9 #[.agg #[.int .i64 f, v], .int .i64 a] w fun r w' => r = .returned (.bool true) ∧ Kp [] w w' := cut_law_true f hf v L w hv a ha
end Go.Proofs.Ytdmdnphbheomoaa
