/- Several texts in one: PtNames. -/
import Derived.Test.YtolfckhjfadhdaaDoorP5
/- PointNames: the walk of the law. -/
namespace Go.Proofs.YtolfckhjfadhdaaDoor
open Go.RowKit
theorem wpList_buildI {P : Program} {ops : Array Oper} {rest : List Oper} {o : Oper} {a : Act} {w : World} {Q : Exit → Act → World → Prop} (hg : o.guard = none) (t : TypeId) (i : Nat) (x : Operand) (ho : o.op = .build t #[(i, x)]) (u : Value) (hx : a.eval x = u)
    (cells : Array Value) (hb : P.built t [(i, u)] = some cells) (h : wpList P ops Q rest (a.put o.dst (.agg cells)) w) : wpList P ops Q (o :: rest) a w := by
  have e : P.built t ((#[(i, x)] : Array (Nat × Operand)).map fun (i, x) => (i, a.eval x)).toList = some cells := by
    rw [← hb, ← hx]
    simp
  refine wpList_build hg t _ ho (by rw [e]; rfl) ?_
  rw [e]
  exact h
theorem wpList_build0 {P : Program} {ops : Array Oper} {rest : List Oper} {o : Oper} {a : Act} {w : World} {Q : Exit → Act → World → Prop} (hg : o.guard = none) (t : TypeId) (ho : o.op = .build t #[])
    (cells : Array Value) (hb : P.built t [] = some cells) (h : wpList P ops Q rest (a.put o.dst (.agg cells)) w) : wpList P ops Q (o :: rest) a w := by
  have e : P.built t ((#[] : Array (Nat × Operand)).map fun (i, x) => (i, a.eval x)).toList = some cells := by
    rw [← hb]
    simp
  refine wpList_build hg t _ ho (by rw [e]; rfl) ?_
  rw [e]
  exact h
def topH : List UInt8 := List.replicate 31 0 ++ [255]
theorem Tryd.built_top : Tryd.prog.built 23 [(31, .int .u8 255)] = some (hashA topH) := by kernel_rfl
theorem Tryd.built_hash0 : Tryd.prog.built 23 [] = some (hashA (List.replicate 32 0)) := by kernel_rfl
def overL : List UInt8 := [110, 111, 116, 97, 114, 121, 10, 57, 50, 50, 51, 51, 55, 50, 48, 51, 54, 56, 53, 52, 55, 55, 53, 56, 48, 56, 10]
theorem dec_over : dec 9223372036854775808 = [57, 50, 50, 51, 51, 55, 50, 48, 51, 54, 56, 53, 52, 55, 55, 53, 56, 48, 56] := by kernel_rfl
theorem told_over (h : List UInt8) : told 9223372036854775808 h = overL ++ hexS h ++ [10] := by
  unfold told titleL overL
  rw [dec_over]
  simp
theorem PT_over (h : List UInt8) : PT (overL ++ hexS h ++ [10]) = none := by
  rw [← told_over]
  cases hp : PT (told 9223372036854775808 h) with
  | none => rfl
  | some x =>
    obtain ⟨n, g, r⟩ := x
    obtain ⟨f1, f2, f3⟩ := PT_form hp
    have e1 := ln3_told 9223372036854775808 h []
    have e2 := ln3_told n g r
    rw [List.append_nil, f1, e2] at e1
    have e3 := congrArg (Option.map (fun x => x.2.1)) e1
    have e4 := dec_inj (Option.some.inj e3)
    omega
set_option maxRecDepth 100000 in
set_option maxHeartbeats 8000000 in
theorem pointnames_any (w : World) (L : LD w) : Calls Tryd.prog 4 #[] w fun e w' => e = .returned (.bool true) ∧ Kp [] w w' := by
  have HL := Lib.hid L
  have HT1 : Hid (txt 9223372036854775807 topH = told 9223372036854775807 topH ∧ txE 9223372036854775807 = 0) := Lib.hid ⟨rfl, rfl⟩
  have HT1l : Hid ((told 9223372036854775807 topH).length ≤ 1000) := Lib.hid (by have := dec_19 (n := 9223372036854775807) (by decide); have := hexS_length topH; have : topH.length = 32 := rfl; rw [told_length]; omega)
  have HPV := Lib.hid (PVs_some (PT_told (n := 9223372036854775807) (h := topH) (by decide) rfl []))
  rw [List.append_nil] at HPV
  have HPN := Lib.hid (PVs_none (PT_over (List.replicate 32 0)))
  have HHl : Hid ((hexS (List.replicate 32 (0 : UInt8))).length = 64) := Lib.hid (by rw [hexS_length]; rfl)
  have Hb0 := Lib.hid Tryd.built_hash0
  have HHX := Lib.hid (fun V => hex_any (List.replicate 32 0) rfl V)
  have HB1 := Lib.hid Tryd.built_top
  obtain ⟨t, Ht⟩ : ∃ t, Hid (topH = t) := ⟨_, Lib.hid rfl⟩
  have Htl : Hid (t.length = 32) := Lib.hid (by rw [← Ht.out]; rfl)
  obtain ⟨z, Hz⟩ : ∃ z, Hid (List.replicate 32 (0 : UInt8) = z) := ⟨_, Lib.hid rfl⟩
  have Hzl : Hid (z.length = 32) := Lib.hid (by rw [← Hz.out]; rfl)
  rw [Ht.out] at HT1 HT1l HPV HB1
  have HZA : Hid (ptA 0 (List.replicate 32 0) = ptA 0 z) := Lib.hid (by rw [Hz.out])
  rw [Hz.out] at HPN HHl Hb0 HHX
  have HPsz := Lib.hid (ptA_size (s := 9223372036854775807) Htl.out)
  have HPO := Lib.hid (ptA_one 9223372036854775807 t)
  have HZsz := Lib.hid (ptA_size (s := 0) Hzl.out)
  have HZO := Lib.hid (ptA_one 0 z)
  have HB := Lib.hid (Tryd.built_pt 9223372036854775807 t Htl.out)
  have HTX := Lib.hid (fun V (l : LD V) => ptext_any 9223372036854775807 (by decide) t Htl.out V l)
  obtain ⟨hz, Hhz⟩ : ∃ hz, Hid (hexS z = hz) := ⟨_, Lib.hid rfl⟩
  rw [Hhz.out] at HPN HHl HHX
  have HPP1 := Lib.hid (fun V (l : LD V) => pparse_any ⟨(told 9223372036854775807 t).toArray⟩ (by rw [Lib.size_eq]; have := HT1l.out; show (told _ t).length ≤ _; omega) V l)
  have HPP2 := Lib.hid (fun V (l : LD V) => pparse_any ⟨(overL ++ hz ++ [10]).toArray⟩ (by rw [Lib.size_eq]; show (overL ++ hz ++ [10]).length ≤ _; rw [List.length_append, List.length_append, HHl.out]; decide) V l)
  have hadd1 := str_add overL hz
  have hadd2 := str_add (overL ++ hz) [10]
  rw [show (⟨overL.toArray⟩ : ByteArray) = ⟨#[110, 111, 116, 97, 114, 121, 10, 57, 50, 50, 51, 51, 55, 50, 48, 51, 54, 56, 53, 52, 55, 55, 53, 56, 48, 56, 10]⟩ from rfl] at hadd1
  obtain ⟨t1, Ht1⟩ : ∃ t1, Hid (overL ++ hz = t1) := ⟨_, Lib.hid rfl⟩
  obtain ⟨t2, Ht2⟩ : ∃ t2, Hid (t1 ++ [10] = t2) := ⟨_, Lib.hid rfl⟩
  rw [Ht1.out] at hadd1 hadd2 HPP2 HPN
  rw [Ht2.out] at hadd2 HPP2 HPN
  have hlen1 : ¬ (9223372036854775807 : Int) < 27 + (hz.length : Int) := by rw [HHl.out]; decide
  have hlen2 : ¬ (9223372036854775807 : Int) < (t1.length : Int) + 1 := by rw [← Ht1.out, List.length_append, HHl.out]; decide
  clear L
  go_enter Tryd.func4, Tryd.ntmps4
  go_wp2_with (first
    | (refine wpList_buildI rfl 23 31 (.const (.int .u8 255)) rfl (.int .u8 255) rfl _ HB1.out ?_)
    | (refine wpList_build2 rfl 25 (.const (.int .i64 9223372036854775807)) (.tmp 10) rfl (.int .i64 9223372036854775807) (.agg (hashA t)) rfl rfl _ HB.out ?_)
    | (refine wpList_store_blk rfl 25 (.tmp 1) (.tmp 11) rfl w.heap.size rfl (ptA 9223372036854775807 t) rfl 25 _ (Blk.new w 25 _) (by rw [HPsz.out]; exact Tryd.infoPointP) (by rw [HPsz.out]; rfl) HPO.out ?_; intro w1 b1 k1; have S1 := Lib.hid (Held.setBlk (l1 := []) ((Held.start w).newBlk 25 _) b1 k1); clear b1 k1)
    | (refine wpList_load_blk rfl 25 (.tmp 1) rfl w.heap.size rfl 25 _ (S1.out.at_ (l1 := [])) _ Tryd.underlying25 rfl (by rw [HPsz.out]; exact Tryd.infoPointP) ?_))
  generalize hg1 : w.heap.size = g1 at *
  clear hg1
  refine (HTX.out w1 (HL.out.kp S1.out.k)).mono ?_
  rintro e w3 ⟨rfl, k3⟩
  have S3 := Lib.hid (S1.out.kp k3)
  rw [HT1.out.1, HT1.out.2]
  clear k3
  obtain ⟨tl, Htl'⟩ : ∃ tl, Hid (told 9223372036854775807 t = tl) := ⟨_, Lib.hid rfl⟩
  rw [Htl'.out] at HPP1 HPV ⊢
  go_wp2_with fail
  refine (HPP1.out w3 (HL.out.kp S3.out.k)).mono ?_
  rintro e w4 ⟨rfl, k4⟩
  rw [HPV.out.1, HPV.out.2]
  have S4 := Lib.hid (S3.out.kp k4)
  clear k4
  go_wp2_with (first
    | (refine wpList_store_blk rfl 25 (.tmp 4) (.tmp 20) rfl w4.heap.size rfl (ptA 9223372036854775807 t) rfl 25 _ (Blk.new w4 25 _) (by rw [HPsz.out]; exact Tryd.infoPointP) (by rw [HPsz.out]; rfl) HPO.out ?_; intro w5 b5 k5; have S5 := Lib.hid (Held.setBlk (l1 := []) (S4.out.newBlk 25 _) b5 k5); clear b5 k5)
    | (refine wpList_build0 rfl 23 rfl _ Hb0.out ?_))
  generalize hg4 : w4.heap.size = g4 at *
  clear hg4
  refine (HHX.out w5).mono ?_
  rintro e w6 ⟨rfl, k6⟩
  have S6 := Lib.hid (S5.out.kp k6)
  clear k6
  go_wp2_with fail
  refine (HPP2.out w6 (HL.out.kp S6.out.k)).mono ?_
  rintro e w7 ⟨rfl, k7⟩
  rw [HPN.out.1, HPN.out.2]
  simp only
  have S7 := Lib.hid (S6.out.kp k7)
  clear k7
  have hq := fun W => eql_pt W 9223372036854775807 9223372036854775807 t t Htl.out Htl.out
  simp only [decide_true, beq_self_eq_true, Bool.and_self] at hq
  go_wp2_with (first
    | (refine wpList_store_blk rfl 25 (.tmp 7) (.tmp 29) rfl w7.heap.size rfl (ptA 0 z) rfl 25 _ (Blk.new w7 25 _) (by rw [HZsz.out]; exact Tryd.infoPointP) (by rw [HZsz.out]; rfl) HZO.out ?_; intro w8 b8 k8; have S8 := Lib.hid (Held.setBlk (l1 := []) (S7.out.newBlk 25 _) b8 k8); clear b8 k8)
    | (go_at_call 13; refine (num19_any _ _).mono ?_; rintro e w' ⟨rfl, rfl⟩)
    | (refine wpList_load_blkG 3 35 true rfl rfl rfl 25 (.tmp 4) rfl g4 rfl 25 _ (S8.out.at_ (l1 := [_])) _ Tryd.underlying25 rfl (by rw [HPsz.out]; exact Tryd.infoPointP) ?_)
    | (refine wpList_load_blkG 3 35 true rfl rfl rfl 25 (.tmp 1) rfl g1 rfl 25 _ (S8.out.at_ (l1 := [_, _])) _ Tryd.underlying25 rfl (by rw [HPsz.out]; exact Tryd.infoPointP) ?_))
  refine (known_any w8 (HL.out.kp S8.out.k)).mono ?_
  rintro e w9 ⟨rfl, k9⟩
  have K9 := Lib.hid (S8.out.k.trans k9 (by simp))
  clear k9
  go_wp2_with fail
  go_ret
  exact ⟨rfl, K9.out⟩
end Go.Proofs.YtolfckhjfadhdaaDoor
