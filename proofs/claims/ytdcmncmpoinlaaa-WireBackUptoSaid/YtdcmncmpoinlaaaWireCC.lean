/- WireBack: the walk. -/
import Derived.Test.YtdcmncmpoinlaaaWireCB
namespace Go.Proofs.Ytdcmncmpoinlaaa
open Go.RowKit

abbrev Tri := PutD × Array Value × Value
/-- Those of the first i that have written something. -/
def kept (ts : List Tri) (i : Nat) : List Tri := (ts.take i).filter fun t => !t.1.enc.isEmpty
def kcells (l : List Tri) : List Value := (l.map fun t => t.2.1.toList).flatten
def kenc (l : List Tri) : List UInt8 := (l.map fun t => t.1.enc).flatten
theorem kept_zero (ts : List Tri) : kept ts 0 = [] := by simp [kept]
theorem kept_yes (ts : List Tri) (i : Nat) (t : Tri) (h : ts[i]? = some t) (he : t.1.enc ≠ []) : kept ts (i + 1) = kept ts i ++ [t] := by
  unfold kept
  rw [List.take_add_one, h, List.filter_append]
  congr 1
  simp [he]
theorem kept_no (ts : List Tri) (i : Nat) (t : Tri) (h : ts[i]? = some t) (he : t.1.enc = []) : kept ts (i + 1) = kept ts i := by
  unfold kept
  rw [List.take_add_one, h, List.filter_append]
  simp [he]
theorem kenc_kept (ts : List Tri) (i : Nat) : kenc (kept ts i) = encs (ts.map (·.1)) i := by
  unfold kenc kept encs
  rw [← List.map_take, List.map_map]
  generalize ts.take i = l
  induction l with
  | nil => rfl
  | cons t l ih =>
    rw [List.filter_cons]
    cases he : t.1.enc with
    | nil => simp only [List.isEmpty_nil, Bool.not_true, Bool.false_eq_true, if_false, List.map_cons, List.flatten_cons, Function.comp, he, List.nil_append]; exact ih
    | cons x xs => simp only [List.isEmpty_cons, Bool.not_false, if_true, List.map_cons, List.flatten_cons, Function.comp, he]; rw [ih]
theorem kcells_snoc (l : List Tri) (t : Tri) : kcells (l ++ [t]) = kcells l ++ t.2.1.toList := by simp [kcells]
theorem kenc_append (a b : List Tri) : kenc (a ++ b) = kenc a ++ kenc b := by simp [kenc]
theorem kenc_cons (t : Tri) (b : List Tri) : kenc (t :: b) = t.1.enc ++ kenc b := by simp [kenc]
theorem kenc_at (l : List Tri) (j : Nat) (t : Tri) (h : l[j]? = some t) : ∃ rest, (kenc l).drop (kenc (l.take j)).length = t.1.enc ++ rest ∧ kenc (l.take (j + 1)) = kenc (l.take j) ++ t.1.enc := by
  obtain ⟨hj, rfl⟩ := List.getElem?_eq_some_iff.1 h
  refine ⟨kenc (l.drop (j + 1)), ?_, ?_⟩
  · have e : kenc l = kenc (l.take j) ++ (l[j].1.enc ++ kenc (l.drop (j + 1))) := by
      rw [← kenc_cons, ← List.drop_eq_getElem_cons hj, ← kenc_append, List.take_append_drop]
    rw [e, List.drop_append_of_le_length (Nat.le_refl _), List.drop_of_length_le (Nat.le_refl _), List.nil_append]
  · rw [List.take_add_one, List.getElem?_eq_getElem hj, kenc_append]
    simp [kenc]
theorem kcells_len (l : List Tri) (h : ∀ t ∈ l, t.2.1.size = 36) : (kcells l).length = l.length * 36 := by
  induction l with
  | nil => rfl
  | cons t l ih =>
    have := ih (fun t ht => h t (by simp [ht]))
    have := h t (by simp)
    simp [kcells] at *
    omega
theorem kcells_at (l : List Tri) (h : ∀ t ∈ l, t.2.1.size = 36) (j : Nat) (t : Tri) (hj : l[j]? = some t) (i : Nat) (u : Value) (hu : t.2.1.toList[i]? = some u) : (kcells l)[j * 36 + i]? = some u := by
  induction l generalizing j with
  | nil => cases hj
  | cons s l ih =>
    have hs := h s (by simp)
    have e : kcells (s :: l) = s.2.1.toList ++ kcells l := by simp [kcells]
    rw [e]
    cases j with
    | zero =>
      simp at hj; subst hj
      rw [Nat.zero_mul, Nat.zero_add, List.getElem?_append_left (List.getElem?_eq_some_iff.1 hu).1]; exact hu
    | succ j =>
      rw [List.getElem?_append_right (by simp [hs]; omega), Array.length_toList, hs, show (j + 1) * 36 + i - 36 = j * 36 + i from by omega]
      exact ih (fun t ht => h t (by simp [ht])) j hj
theorem PutsIn.triples {w : World} {A : Option Addr} {n c : Nat} {ps : List PutD} (h : PutsIn w (.slice A n c) ps) :
    ∃ ts : List Tri, ts.map (·.1) = ps ∧ ts.length = ps.length ∧ ∀ ad, A = some ad → ∀ (i : Nat) t, ts[i]? = some t → PutAt w ad i t.1 t.2.1 t.2.2 := by
  obtain ⟨A', c', hv, _, _, hA, hel⟩ := h.form
  cases hv
  cases A with
  | none => have := hA rfl; subst this; exact ⟨[], rfl, rfl, fun ad h => by cases h⟩
  | some ad =>
    obtain ⟨G, hG⟩ : ∃ G : Nat → Array Value × Value, ∀ i p, ps[i]? = some p → PutAt w ad i p (G i).1 (G i).2 := by
      have : ∀ i, ∃ g : Array Value × Value, ∀ p, ps[i]? = some p → PutAt w ad i p g.1 g.2 := fun i => by
        cases hp : ps[i]? with
        | none => exact ⟨(#[], .slice none 0 0), fun p h => by cases h⟩
        | some p =>
          obtain ⟨cs, B, h⟩ := hel ad rfl i p hp
          exact ⟨(cs, B), fun p' h' => by cases h'; exact h⟩
      exact ⟨fun i => Classical.choose (this i), fun i => Classical.choose_spec (this i)⟩
    refine ⟨ps.zipIdx.map fun x => (x.1, G x.2), ?_, by simp, fun ad' had i t ht => ?_⟩
    · rw [List.map_map]
      show List.map (fun x => x.1) ps.zipIdx = ps
      simp
    · cases had
      rw [List.getElem?_map, List.getElem?_zipIdx] at ht
      cases hp : ps[i]? with
      | none => rw [hp] at ht; cases ht
      | some p =>
        rw [hp] at ht
        simp at ht
        subst ht
        exact hG i p hp
theorem rd_block (w : World) (t : TypeId) (cs : Array Value) (s : Nat) (h : cs.size = s) : Rd (w.alloc (.cells cs t)) s (.slice (some ⟨w.heap.size, 0, none⟩) 1 1) 1 cs.toList :=
  Rd.of_own (ow_new w t s 1 cs (by omega) (by simp [maxLen]))
theorem rd_fold (w : World) (t : TypeId) (cs z : Array Value) (s : Nat) (h : cs.size = s) (hz : z.size = s) : Rd (w.alloc (.cells (Array.foldl (fun (a : Array Value) (x : Value × Nat) => a.setIfInBounds x.snd x.fst) z cs.zipIdx 0 s) t)) s (.slice (some ⟨w.heap.size, 0, none⟩) 1 1) 1 cs.toList := by
  rw [fold_set cs z s h hz]; exact rd_block w t cs s h
theorem putc_one {cs : Array Value} {p : PutD} {B : Value} (h : PutC cs p B) (hB : B.oneCell' = true) : ∀ u ∈ cs.toList, u.oneCell' = true := by
  intro u hu
  obtain ⟨i, hi, rfl⟩ := List.getElem_of_mem hu
  have hs := h.size
  have hi36 : i < 36 := by simpa [hs] using hi
  have g : ∀ (j : Nat) v, cs[j]? = some v → j = i → cs.toList[i] = v := fun j v hj e => by
    subst e
    have := List.getElem?_eq_getElem hi
    rw [Array.getElem?_toList, hj] at this
    exact (Option.some.inj this).symm
  have hc : i = 0 ∨ i = 1 ∨ (2 ≤ i ∧ i < 34) ∨ i = 34 ∨ i = 35 := by omega
  rcases hc with e | e | ⟨e1, e2⟩ | e | e
  · rw [g 0 _ h.c0 e.symm]; rfl
  · rw [g 1 _ h.c1 e.symm]; rfl
  · have h2 := h.ch
    have h3 : ((cs.toList.drop 2).take 32)[i - 2]? = some cs.toList[i] := by
      rw [List.getElem?_take, if_pos (by omega), List.getElem?_drop, show 2 + (i - 2) = i from by omega, List.getElem?_eq_getElem hi]
    rw [h2] at h3
    exact bv_one p.h _ (List.mem_of_getElem? h3)
  · rw [g 34 _ h.c34 e.symm]; exact hB
  · rw [g 35 _ h.c35 e.symm]; rfl
theorem Try.infoPutZ : (Try.prog.info? 52).map (fun i => (i.zero, i.size, i.bytes)) = some (some (.agg (#[.int .i64 0, .int .u64 0] ++ hashA (List.replicate 32 0) ++ #[.slice none 0 0, .int .i64 0])), 36, 80) := by kernel_rfl

set_option maxRecDepth 100000 in
set_option maxHeartbeats 2000000 in
theorem backs_true (ps : List PutD) (va : Value) (w : World) (ha : PutsIn w va ps) (hl : ps.length ≤ 1073741824) (hp : ∀ i, (encs ps i).length ≤ 1073741824) (hpb : ∀ p, p ∈ ps → p.b.length ≤ 1073741824) :
    Calls Try.prog 6 #[va] w fun e w' => e = .returned (.bool true) ∧ Kp [] w w' := by
  obtain ⟨i0, hi0, hz0, hz1, hz2⟩ := info_parts Try.infoPutZ
  obtain ⟨A, ca, rfl, -⟩ := ha.form
  obtain ⟨ts, hts, htl, hta⟩ := ha.triples
  have hsz : ∀ t ∈ ts, t.2.1.size = 36 := by
    intro t ht
    obtain ⟨i, hi, he⟩ := List.getElem_of_mem ht
    cases A with
    | none =>
      obtain ⟨A', c', hv, _, _, hA, _⟩ := ha.form
      cases hv
      have := hA rfl
      subst this
      simp at htl
      subst htl
      cases ht
    | some ad => exact (hta ad rfl i t (by rw [List.getElem?_eq_getElem hi, he])).c.size
  have HL := Lib.hid (And.intro hp hpb)
  have Hta := Lib.hid hta
  have Hts := Lib.hid hts
  have Hsz := Lib.hid hsz
  have Htl := Lib.hid htl
  have S0 := Held.start w
  have Ha := Lib.hid ha
  clear ha hp hpb hta hts hsz htl
  go_enter Try.func6, Try.ntmps6
  go_wp2_with fail
  refine (new_writer w).mono ?_; rintro e w1 ⟨rfl, hw1, k1⟩
  have S1 := S0.wnew hw1 k1
  clear S0 hw1 k1
  generalize w.heap.size = q at *
  go_wp2_with fail
  refine (known_true w1).mono ?_; rintro e w2 ⟨rfl, k2⟩
  have S2 := (S1.kp k2).rownew (e := 52) (s := 36) (n := 0) (v := .slice none 0 0) (xs := []) (World.ownsRow_nil _ _ _ _) (Kp.refl [] _) (fun _ hg => nomatch hg)
  clear S1
  go_wp2_with fail
  go_loopw [4, 5] (fun v t wr => ∃ i : Nat, i ≤ ps.length ∧ t = .int .i64 (i : Int) ∧ ∃ u, Held w wr [rowR 52 36 v (kept ts i).length (kcells (kept ts i)), wrR q u (encs ps i)]) (fun _ t _ => ps.length - (intOf t).toNat)
  case atStart => exact ⟨0, Nat.zero_le _, rfl, _, by rw [kept_zero]; exact S2⟩
  case round =>
    obtain ⟨i, hi, rfl, u, hS⟩ := hrel
    by_cases hlt : i < ps.length
    · obtain ⟨t, ht⟩ : ∃ t, ts[i]? = some t := ⟨_, List.getElem?_eq_getElem (by rw [Htl.out]; exact hlt)⟩
      have hrp : ps[i]? = some t.1 := by rw [← Hts.out, List.getElem?_map, ht]; rfl
      obtain ⟨ad, rfl⟩ : ∃ ad, A = some ad := by
        cases A with
        | none => obtain ⟨A', c', hv, _, _, hA, _⟩ := Ha.out.form; cases hv; have := hA rfl; subst this; simp at hlt
        | some ad => exact ⟨ad, rfl⟩
      have hpa := Hta.out ad rfl i t ht
      have hb0 := HL.out.1 i
      have hb1 := HL.out.1 (i + 1)
      have hbp := HL.out.2 t.1 (List.mem_of_getElem? hrp)
      have hes := encs_succ ps i t.1 hrp
      have hkl : (kept ts i).length ≤ 1073741824 := by
        unfold kept
        have h1 := List.length_filter_le (fun t : Tri => !t.1.enc.isEmpty) (ts.take i)
        rw [List.length_take] at h1
        omega
      obtain ⟨p, cs, B⟩ := t
      dsimp only at hpa hbp hes hrp
      obtain ⟨bs, hbs⟩ : ∃ bs, bs = encs ps i := ⟨_, rfl⟩
      obtain ⟨bs', hbs'⟩ : ∃ bs', bs' = encs ps (i + 1) := ⟨_, rfl⟩
      rw [← hbs] at hS hb0 hes
      rw [← hbs'] at hb1 hes
      have Hes := Lib.hid hes
      have Hbs := Lib.hid (And.intro hbs hbs')
      have hl2 : bs'.length = bs.length + p.enc.length := by rw [Hes.out, List.length_append]
      have Hsum := Lib.hid (And.intro hb0 (And.intro hb1 hl2))
      have Hpa := Lib.hid hpa
      have Hcs := Lib.hid (show (Try.prog.info? 52).map (·.size) = some cs.toList.length by rw [Try.infoPut, Array.length_toList, hpa.c.size])
      have Ht := Lib.hid ht
      have Hn := Lib.hid (show bs.length + p.b.length + 40 ≤ 140737488355328 by omega)
      have S := Lib.hid hS
      have Hl1 := Lib.hid (hpa.old hS.k).at_
      have Hold := Lib.hid (fun g hg hne => S.out.old_ne (l1 := [_]) (hpa.lt g hg hne))
      obtain ⟨Ad, cd, rfl, _, _⟩ := ow_form (hS.at_ (l1 := []))
      have ho := ow_form (hS.at_ (l1 := []))
      clear hS hpa hes hbs hbs' hrp ht hb0 hb1 hl2 S2 ho
      by_cases hee : p.enc = []
      · have hnlt : ¬ bs.length < bs'.length := by rw [Hsum.out.2.2, hee]; simp
        have Hee := Lib.hid hee
        clear hee
        go_wp2_with (first
          | (go_at_call 19; go_loud (refine (w_len q u2 bs' w5 (S5.out.at_ (l1 := [_]))).mono ?_); rintro e w' ⟨rfl, rfl⟩)
          | (go_at_call 19; go_loud (refine (w_len q u bs wr (S.out.at_ (l1 := [_]))).mono ?_); rintro e w' ⟨rfl, rfl⟩)
          | (refine wpList_load_agg rfl 52 (.tmp 30) rfl (ad.add (i * 36)) rfl cs.toList _ Hl1.out Try.underlying52 rfl Hcs.out ?_)
          | (go_at_call 18; go_loud (refine (puts_any q u bs cs p B wr Hpa.out.c (S.out.at_ (l1 := [_])) (rd_old Hpa.out.b S.out.k) Hold.out Hn.out).mono ?_); rintro e w5 ⟨v2, u2, rfl, hw5, hs5, r5⟩; obtain ⟨A5, c5, rfl⟩ := rd_form r5; rw [← Hes.out] at hw5; have S5 := Lib.hid (S.out.wturn (l1 := [_]) hw5 hs5); clear hw5 hs5))
        go_roundw
        case rel => exact ⟨i + 1, by omega, by go_num, u2, by rw [kept_no ts i _ Ht.out Hee.out, ← Hbs.out.2]; exact S5.out⟩
        case measure => simp [intOf]; omega
      · have hnlt : bs.length < bs'.length := by
          have := List.length_pos_iff.2 hee
          rw [Hsum.out.2.2]; omega
        have Hee := Lib.hid hee
        have hcs36 : cs.size = 36 := Hpa.out.c.size
        have Hone := Lib.hid (putc_one Hpa.out.c (by obtain ⟨_, _, hh⟩ := rd_form Hpa.out.b; rw [hh]; rfl))
        have H63 := Lib.hid (show (kept ts i).length + 1 ≤ maxLen by unfold maxLen; omega)
        have H47 := Lib.hid (show ((kept ts i).length + 1) * 80 ≤ 140737488355328 by omega)
        clear hee
        go_wp2_with (first
          | (at_builtin; go_loud (refine wpList_app _ rfl (.tmp 41) (.tmp 46) _ rfl 52 i0 _ 36 80 Try.underlying41 hi0 hz0 hz1 hz2 rfl (by decide) _ (kept ts i).length _ rfl (ow_kp (S5.out.at_ (l1 := [])) ((Kp.refl [] _).alloc _) (by simp)) (.slice (some ⟨w5.heap.size, 0, none⟩) 1 1) 1 cs.toList rfl (rd_fold _ _ _ _ _ hcs36 (by rfl)) Hone.out H63.out H47.out ?_); intro v6 w6 o6 g6 a6; have S6 := Lib.hid ((S5.out.alloc _).grow (l1 := []) o6 g6 (by first | exact a6 | (rw [World.size_alloc]; exact a6))))
          | (go_at_call 19; go_loud (refine (w_len q u2 bs' w5 (S5.out.at_ (l1 := [_]))).mono ?_); rintro e w' ⟨rfl, rfl⟩)
          | (go_at_call 19; go_loud (refine (w_len q u bs wr (S.out.at_ (l1 := [_]))).mono ?_); rintro e w' ⟨rfl, rfl⟩)
          | (refine wpList_load_agg rfl 52 (.tmp 30) rfl (ad.add (i * 36)) rfl cs.toList _ Hl1.out Try.underlying52 rfl Hcs.out ?_)
          | (refine wpList_load_agg rfl 52 (.tmp 44) rfl (ad.add (i * 36)) rfl cs.toList _ (Hpa.out.old S5.out.k).at_ Try.underlying52 rfl Hcs.out ?_)
          | (go_at_call 18; go_loud (refine (puts_any q u bs cs p B wr Hpa.out.c (S.out.at_ (l1 := [_])) (rd_old Hpa.out.b S.out.k) Hold.out Hn.out).mono ?_); rintro e w5 ⟨v2, u2, rfl, hw5, hs5, r5⟩; obtain ⟨A5, c5, rfl⟩ := rd_form r5; rw [← Hes.out] at hw5; have S5 := Lib.hid (S.out.wturn (l1 := [_]) hw5 hs5); clear hw5 hs5))
        go_roundw
        case rel => exact ⟨i + 1, by omega, by go_num, u2, by rw [kept_yes ts i _ Ht.out Hee.out, kcells_snoc, List.length_append, ← Hbs.out.2]; exact S6.out⟩
        case measure => simp [intOf]; omega
    · obtain rfl : i = ps.length := by omega
      have hK : ∀ t ∈ kept ts ps.length, PutC t.2.1 t.1 t.2.2 ∧ Rd w 1 t.2.2 t.1.b.length (bv t.1.b) ∧ (∀ g, t.2.2.ownBlock = some g → t.1.b ≠ [] → g < w.heap.size) ∧ t.1.enc ≠ [] := by
        intro t ht
        obtain ⟨h1, h2⟩ := List.mem_filter.1 ht
        obtain ⟨i, hi, rfl⟩ := List.getElem_of_mem (List.mem_of_mem_take h1)
        have hlt : i < ps.length := by rw [← Htl.out]; exact hi
        obtain ⟨ad, rfl⟩ : ∃ ad, A = some ad := by
          cases A with
          | none => obtain ⟨A', c', hv, _, _, hA, _⟩ := Ha.out.form; cases hv; have := hA rfl; subst this; simp at hlt
          | some ad => exact ⟨ad, rfl⟩
        have h := Hta.out ad rfl i _ (List.getElem?_eq_getElem hi)
        exact ⟨h.c, h.b, h.lt, by simpa using h2⟩
      have hbl := HL.out.1 ps.length
      have hkl : (kept ts ps.length).length ≤ 1073741824 := by
        unfold kept
        have h1 := List.length_filter_le (fun t : Tri => !t.1.enc.isEmpty) (ts.take ps.length)
        rw [List.length_take] at h1
        omega
      have hen : kenc (kept ts ps.length) = encs ps ps.length := by rw [kenc_kept, Hts.out]
      generalize kept ts ps.length = K at *
      generalize encs ps ps.length = bs at *
      have HK := Lib.hid hK
      have Hen := Lib.hid hen
      have S := Lib.hid hS
      obtain ⟨Ad, cd, rfl, hkc, _⟩ := ow_form (hS.at_ (l1 := []))
      have hbl2 : bs.length ≤ 140737488355328 := by omega
      clear hS hK hen S2 HL
      have hnl : ¬ ps.length < ps.length := by omega
      go_wp2_with fail
      refine (w_bytes q u bs wr (S.out.at_ (l1 := [_])) hbl2).mono ?_
      rintro e w3 ⟨v3, rfl, o3, k3, f3⟩
      obtain ⟨A3, c3, rfl, _, _⟩ := ow_form o3
      go_wp2_with fail
      refine (new_reader _ bs w3 (Rd.of_own o3) hbl2).mono ?_
      rintro e w4 ⟨p, vr, rfl, hp, r4, hv4, k4⟩
      have S4 := (S.out.kp k3).new (rrR p vr 0 bs) k4 r4 (fun b hb => by
        rcases List.mem_cons.1 hb with rfl | hb
        · exact hp
        · exact hv4 b (by simpa using hb))
      clear S o3 k3 f3 r4 hp hv4 k4
      go_wp2_with fail
      go_loopw [10] (fun t wr => ∃ j : Nat, j ≤ K.length ∧ t = .int .i64 (j : Int) ∧ Held w wr [rrR p vr (kenc (K.take j)).length bs, rowR 52 36 (.slice Ad K.length cd) K.length (kcells K), wrR q u bs]) (fun t _ => K.length - (intOf t).toNat)
      case atStart => exact ⟨0, Nat.zero_le _, rfl, by simpa [kenc] using S4⟩
      case round =>
        obtain ⟨j, hj, rfl, hS⟩ := hrel
        by_cases hlt2 : j < K.length
        · obtain ⟨t, ht⟩ : ∃ t, K[j]? = some t := ⟨_, List.getElem?_eq_getElem hlt2⟩
          obtain ⟨hc, hB, hBl, hne⟩ := HK.out t (List.mem_of_getElem? ht)
          obtain ⟨rest, hd1, hd2⟩ := kenc_at K j t ht
          rw [Hen.out] at hd1
          have hrow := Rd.of_own (hS.at_ (l1 := [_]))
          obtain ⟨_, A5, c5, hv5, _, _, hA5, hcells⟩ := hrow
          cases hv5
          obtain ⟨ad5, rfl⟩ : ∃ ad5, Ad = some ad5 := by
            cases Ad with
            | none => have := (hA5 rfl).1; omega
            | some ad5 => exact ⟨ad5, rfl⟩
          have hsz : ∀ t ∈ K, t.2.1.size = 36 := fun t ht => (HK.out t ht).1.size
          have Hl1 := Lib.hid (fun (i : Nat) (u : Value) (hu : t.2.1.toList[i]? = some u) => (show wr.cell? ((ad5.add (j * 36)).add i) = some u from by rw [add_of_add]; exact hcells ad5 rfl _ _ (kcells_at K hsz j t ht i u hu)))
          have Hcs := Lib.hid (show (Try.prog.info? 52).map (·.size) = some t.2.1.toList.length by rw [Try.infoPut, Array.length_toList, hc.size])
          have hback := back_any p vr (kenc (K.take j)).length bs rest t.2.1 t.1 t.2.2 wr hc (hS.at_ (l1 := [])) hne hd1 (rd_old hB hS.k) (fun hbne e => by
            have h1 := hBl _ e hbne
            have h2 := hS.base (rrR p vr (kenc (K.take j)).length bs) (by simp) p (by simp [rrR])
            omega)
          rw [← List.length_append, ← hd2] at hback
          have Hback := Lib.hid hback
          have S5 := Lib.hid hS
          obtain ⟨pd, cs, B⟩ := t
          dsimp only at *
          clear hback hS hcells hA5 hc hB hBl hne hd1 hd2 ht hsz S4
          go_wp2_with (first
            | (refine wpList_load_agg rfl 52 (.tmp 62) rfl (ad5.add (j * 36)) rfl cs.toList _ Hl1.out Try.underlying52 rfl Hcs.out ?_)
            | (go_at_call 27; go_loud (refine Hback.out.mono ?_); rintro e w6 ⟨rfl, k6, r6⟩; have S6 := Lib.hid (S5.out.rturn (l1 := []) r6 k6)))
          go_roundw
          case rel => exact ⟨j + 1, by omega, by go_num, S6.out⟩
          case measure => simp [intOf]; omega
        · obtain rfl : j = K.length := by omega
          have e1 : kenc (K.take K.length) = bs := by rw [List.take_of_length_le (Nat.le_refl _), Hen.out]
          rw [e1] at hS
          have S5 := Lib.hid hS
          have hend := r_end p vr bs.length bs wr (hS.at_ (l1 := []))
          rw [if_neg (Nat.lt_irrefl _)] at hend
          have Hend := Lib.hid hend
          clear hS hend S4 e1
          have hnl2 : ¬ K.length < K.length := by omega
          go_wp2_with (first
            | (go_at_call 28; go_loud (refine Hend.out.mono ?_); rintro e w6 ⟨rfl, n6, hw6⟩; have S6 := Lib.hid (S5.out.kp (show Kp [] wr w6 from hw6 ▸ Kp.drew' n6)); clear hw6)
            | (go_at_call 17; refine (num_any _ _).mono ?_; rintro e w' ⟨rfl, rfl⟩)
            | (go_at_call 25; go_loud (refine (r_leftn p vr bs.length bs 0 (by omega) _ (S6.out.at_ (l1 := []))).mono ?_); rintro e w7 ⟨rfl, n7, hw7⟩; have S7 := Lib.hid (S6.out.kp (show Kp [] w6 w7 from hw7 ▸ Kp.drew' n7)); clear hw7)
            | (go_at_call 24; go_loud (refine (r_place p vr bs.length bs _ (S7.out.at_ (l1 := []))).mono ?_); rintro e w' ⟨rfl, rfl⟩)
            | (go_at_call 19; go_loud (refine (w_len q u bs _ (S7.out.at_ (l1 := [_, _]))).mono ?_); rintro e w' ⟨rfl, rfl⟩))
          go_ret
          exact ⟨rfl, S7.out.k⟩
end Go.Proofs.Ytdcmncmpoinlaaa
