/- The law FnExactPartView on the ideal machine. -/
import Derived.Test.YtkdhdklggdbgdaaR1
set_option linter.unusedVariables false
set_option linter.unusedSimpArgs false
namespace Go.Proofs.YtkdhdklggdbgdaaI
open Go Go.RowKit
def c_lawPV : IFn := ⟨2, 74, [.t 4],
 .seq (.reg none [
    ⟨(some 2), none, .box (.t 0)⟩,
    ⟨(some 4), none, .mov (.c (.bool false))⟩])
 (.seq (.reg none [
    ⟨(some 5), none, .mov (.c (.int .i64 1048576))⟩])
 (.seq (.reg none [
    ⟨(some 13), none, .load true 5 (.t 2)⟩,
    ⟨(some 14), none, .mov (.t 5)⟩,
    ⟨(some 15), none, .call .q (.f 6) [(.t 13), (.t 14)]⟩,
    ⟨(some 5), none, .mov (.t 15)⟩])
 (.seq (.seq (.reg none [
     ⟨(some 16), none, .mov (.t 5)⟩,
     ⟨(some 17), none, .bin .lss (.t 16) (.c (.int .i64 0))⟩])
  (.cond (.t 17) (.seq (.reg none [
      ⟨(some 4), none, .mov (.c (.bool true))⟩])
   (.ret)) (.skip)))
 (.seq (.reg none [
    ⟨(some 18), none, .load true 5 (.t 2)⟩,
    ⟨(some 19), none, .call .k (.f 8) [(.t 18)]⟩,
    ⟨(some 20), none, .mov (.t 1)⟩,
    ⟨(some 21), none, .call .k (.f 18) [(.t 19), (.t 20)]⟩,
    ⟨(some 6), none, .mov (.t 21)⟩])
 (.seq (.reg none [
    ⟨(some 22), none, .load true 5 (.t 2)⟩,
    ⟨(some 23), none, .call .k (.f 8) [(.t 22)]⟩,
    ⟨(some 7), none, .new [(.slice none 0 0), (.slice none 0 0), (.slice none 0 0), (.slice none 0 0), (.bool false)]⟩,
    ⟨none, none, .store 5 (.t 7) (.t 23)⟩])
 (.seq (.reg none [
    ⟨(some 24), none, .load true 5 (.t 7)⟩,
    ⟨(some 25), none, .mov (.t 1)⟩,
    ⟨(some 26), none, .call .k (.f 19) [(.t 24), (.t 25)]⟩,
    ⟨(some 8), none, .mov (.t 26)⟩])
 (.seq (.seq (.reg none [
     ⟨(some 27), none, .mov (.t 8)⟩,
     ⟨(some 28), none, .mov (.t 6)⟩,
     ⟨(some 29), none, .call .q (.f 20) [(.t 27), (.t 28)]⟩,
     ⟨(some 30), none, .un .not (.t 29)⟩])
  (.cond (.t 30) (.seq (.reg none [
      ⟨(some 4), none, .mov (.c (.bool false))⟩])
   (.ret)) (.skip)))
 (.seq (.seq (.reg (some 3) [
     ⟨(some 31), none, .load true 5 (.t 7)⟩,
     ⟨(some 32), none, .load true 5 (.t 2)⟩,
     ⟨(some 33), none, .call .k (.f 8) [(.t 32)]⟩,
     ⟨(some 34), none, .call .q (.f 10) [(.t 31), (.t 33)]⟩,
     ⟨(some 35), none, .un .not (.t 34)⟩])
  (.cond (.t 35) (.seq (.reg none [
      ⟨(some 4), none, .mov (.c (.bool false))⟩])
   (.ret)) (.skip)))
 (.seq (.reg none [
    ⟨(some 9), none, .mov (.c (.int .i64 1))⟩])
 (.seq (.reg none [
    ⟨(some 36), none, .load true 5 (.t 7)⟩,
    ⟨(some 37), none, .mov (.t 9)⟩,
    ⟨(some 38), none, .call .n (.f 21) [(.t 36), (.t 37)]⟩,
    ⟨(some 9), none, .mov (.t 38)⟩])
 (.seq (.seq (.reg none [
     ⟨(some 39), none, .mov (.t 9)⟩,
     ⟨(some 40), none, .bin .lss (.t 39) (.c (.int .i64 0))⟩,
     ⟨(some 41), none, .mov (.t 40)⟩,
     ⟨(some 42), (some (41, false)), .mov (.t 8)⟩,
     ⟨(some 43), (some (41, false)), .mov (.t 6)⟩,
     ⟨(some 44), (some (41, false)), .call .q (.f 20) [(.t 42), (.t 43)]⟩,
     ⟨(some 45), (some (41, false)), .un .not (.t 44)⟩,
     ⟨(some 46), none, .pick (.t 41) (.c (.bool true)) (.t 45)⟩])
  (.cond (.t 46) (.seq (.reg none [
      ⟨(some 4), none, .mov (.c (.bool false))⟩])
   (.ret)) (.skip)))
 (.seq (.reg none [
    ⟨(some 10), none, .mov (.c (.int .i64 1))⟩])
 (.seq (.reg none [
    ⟨(some 47), none, .mov (.t 8)⟩,
    ⟨(some 48), none, .mov (.t 10)⟩,
    ⟨(some 49), none, .call .n (.f 22) [(.t 47), (.t 48)]⟩,
    ⟨(some 10), none, .mov (.t 49)⟩])
 (.seq (.reg none [
    ⟨(some 11), none, .mov (.c (.int .i64 1))⟩])
 (.seq (.reg none [
    ⟨(some 50), none, .mov (.t 8)⟩,
    ⟨(some 51), none, .mov (.t 11)⟩,
    ⟨(some 52), none, .call .q (.f 23) [(.t 50), (.t 51)]⟩,
    ⟨(some 11), none, .mov (.t 52)⟩])
 (.seq (.seq (.reg none [
     ⟨(some 53), none, .mov (.t 11)⟩,
     ⟨(some 54), none, .bin .lss (.t 53) (.c (.int .i64 0))⟩])
  (.cond (.t 54) (.seq (.reg none [
      ⟨(some 4), none, .mov (.c (.bool false))⟩])
   (.ret)) (.skip)))
 (.seq (.seq (.reg none [
     ⟨(some 55), none, .mov (.t 11)⟩,
     ⟨(some 56), none, .mov (.t 10)⟩,
     ⟨(some 57), none, .bin .neq (.t 55) (.t 56)⟩])
  (.cond (.t 57) (.seq (.reg none [
      ⟨(some 4), none, .mov (.c (.bool false))⟩])
   (.ret)) (.skip)))
 (.seq (.reg none [
    ⟨(some 58), none, .load true 5 (.t 2)⟩,
    ⟨(some 59), none, .call .k (.f 8) [(.t 58)]⟩,
    ⟨(some 60), none, .mov (.t 1)⟩,
    ⟨(some 61), none, .call .k (.f 19) [(.t 59), (.t 60)]⟩,
    ⟨(some 12), none, .mov (.t 61)⟩])
 (.seq (.seq (.reg none [
     ⟨(some 62), none, .mov (.t 12)⟩,
     ⟨(some 63), none, .mov (.t 6)⟩,
     ⟨(some 64), none, .call .q (.f 20) [(.t 62), (.t 63)]⟩,
     ⟨(some 65), none, .un .not (.t 64)⟩])
  (.cond (.t 65) (.seq (.reg none [
      ⟨(some 4), none, .mov (.c (.bool false))⟩])
   (.ret)) (.skip)))
 (.seq (.reg none [
    ⟨(some 11), none, .mov (.c (.int .i64 1))⟩])
 (.seq (.reg none [
    ⟨(some 66), none, .mov (.t 8)⟩,
    ⟨(some 67), none, .mov (.t 11)⟩,
    ⟨(some 68), none, .call .q (.f 23) [(.t 66), (.t 67)]⟩,
    ⟨(some 11), none, .mov (.t 68)⟩])
 (.seq (.seq (.reg none [
     ⟨(some 69), none, .mov (.t 11)⟩,
     ⟨(some 70), none, .bin .lss (.t 69) (.c (.int .i64 0))⟩])
  (.cond (.t 70) (.seq (.reg none [
      ⟨(some 4), none, .mov (.c (.bool false))⟩])
   (.ret)) (.skip)))
 (.seq (.seq (.reg none [
     ⟨(some 71), none, .mov (.t 11)⟩,
     ⟨(some 72), none, .mov (.t 10)⟩,
     ⟨(some 73), none, .bin .neq (.t 71) (.t 72)⟩])
  (.cond (.t 73) (.seq (.reg none [
      ⟨(some 4), none, .mov (.c (.bool false))⟩])
   (.ret)) (.skip)))
 (.seq (.reg none [
    ⟨(some 4), none, .mov (.c (.bool true))⟩])
 (.ret)))))))))))))))))))))))))⟩
theorem viewL_le {a} (hs : Co.part.sm a) (x : Int) : (viewL a x).length ≤ 1048576 := by
  obtain ⟨_, ⟨hs1, hs2⟩, _⟩ := hs
  unfold viewL
  split
  · cases h : a.2.1[x.toNat]? with
    | none => simp
    | some l => exact (hs2 l (List.mem_of_getElem? h)).1
  · simp
theorem nPart_le {a} (hs : Co.part.sm a) : nPart a ≤ 10000000000000000 := by
  obtain ⟨⟨⟨h1, _⟩, ⟨h2, _⟩, ⟨h3, _⟩⟩, ⟨h4, h5⟩, _⟩ := hs
  have h6 := sum_le nW 7340032 a.2.1 fun l hl => by
    have := (h5 l hl).1
    unfold nW
    omega
  have h7 : a.2.1.length * 7340032 ≤ 1048576 * 7340032 := Nat.mul_le_mul_right _ h4
  unfold nPart nRun nI nP nWW
  omega
theorem lawPV_ok {F : Nat → Option IFn} {f : Nat} (hf : F f = some c_lawPV) (gs : SzOk F Co.part true 6) (gt : ToOkS F Co.part true .k 8) (gsv : ViewOk F 18) (giv : ViewOk F 19) (gew : EqOk F (Co.sl Co.word) false 20) (gep : EqOk F Co.part true 10)
    (gm : MkOk F Co.part true 21 nPart) (gmw : MarkFlat F 7 22) (gh : HeldFlat F 7 23) :
    ∀ (H : Heap) (v : Value) a (x : Int), Rd Co.part true (vw 0 H) v a → QC F f [v, .int .i64 x] H (.bool true) := by
  intro H v a x hr
  have hr0 := hr
  obtain ⟨cs, hc, hcs⟩ := hr
  have hl : cs.length = 5 := Co.part.len hcs
  have ho : cs.all one = true := by rw [List.all_eq_true]; exact Co.part.ones hcs
  simp only [go_sem, binI_lss, binI_leq, binI_gtr, binI_geq, binI_eql, binI_neq, Nat.reduceEqDiff, Nat.reduceAdd, Nat.reduceMul, Nat.reduceSub, Nat.reduceLeDiff, Nat.reduceLT, reduceIte, reduceCtorEq, Option.some.injEq] at hc
  subst hc
  refine QC.mk hf rfl ?_
  refine seq_reg ?_
  simp only [go_sem, binI_lss, binI_leq, binI_gtr, binI_geq, binI_eql, binI_neq, Nat.reduceEqDiff, Nat.reduceAdd, Nat.reduceMul, Nat.reduceSub, Nat.reduceLeDiff, Nat.reduceLT, reduceIte, reduceCtorEq, ho]
  obtain ⟨H1, hH1⟩ : ∃ H1, H1 = H ++ [⟨cs, 0, 0, false, true⟩] := ⟨_, rfl⟩
  have a01 : Ag 0 H.length H H1 := hH1 ▸ ag_app _ _
  have n1 : H1.length = H.length + 1 := by rw [hH1, List.length_append]; rfl
  have b1 : getCells H1 H.length 0 5 = some cs := gc_box (by rw [hH1]; exact get_new0 H [_]) hl
  rw [← hH1]
  clear hH1
  refine seq_reg ?_
  simp only [go_sem, binI_lss, binI_leq, binI_gtr, binI_geq, binI_eql, binI_neq, Nat.reduceEqDiff, Nat.reduceAdd, Nat.reduceMul, Nat.reduceSub, Nat.reduceLeDiff, Nat.reduceLT, reduceIte, reduceCtorEq]
  refine seq_reg ?_
  simp only [go_sem, binI_lss, binI_leq, binI_gtr, binI_geq, binI_eql, binI_neq, Nat.reduceEqDiff, Nat.reduceAdd, Nat.reduceMul, Nat.reduceSub, Nat.reduceLeDiff, Nat.reduceLT, reduceIte, reduceCtorEq, b1]
  obtain ⟨r, q1, q2, q3⟩ := gs H1 _ a 1048576 (hr0.mono a01.vw0) (by omega) (by omega)
  refine op_callQ (by simp only [go_sem, binI_lss, binI_leq, binI_gtr, binI_geq, binI_eql, binI_neq, Nat.reduceEqDiff, Nat.reduceAdd, Nat.reduceMul, Nat.reduceSub, Nat.reduceLeDiff, Nat.reduceLT, reduceIte, reduceCtorEq]; exact q1) ?_
  simp only [go_sem, binI_lss, binI_leq, binI_gtr, binI_geq, binI_eql, binI_neq, Nat.reduceEqDiff, Nat.reduceAdd, Nat.reduceMul, Nat.reduceSub, Nat.reduceLeDiff, Nat.reduceLT, reduceIte, reduceCtorEq]
  refine seq_assoc (seq_reg ?_)
  simp only [go_sem, binI_lss, binI_leq, binI_gtr, binI_geq, binI_eql, binI_neq, Nat.reduceEqDiff, Nat.reduceAdd, Nat.reduceMul, Nat.reduceSub, Nat.reduceLeDiff, Nat.reduceLT, reduceIte, reduceCtorEq]
  by_cases hn : r < 0
  · refine seq_cond (t := true) (by simp only [go_sem, binI_lss, binI_leq, binI_gtr, binI_geq, binI_eql, binI_neq, Nat.reduceEqDiff, Nat.reduceAdd, Nat.reduceMul, Nat.reduceSub, Nat.reduceLeDiff, Nat.reduceLT, reduceIte, reduceCtorEq]; rw [decide_eq_true hn]) ?_
    simp only [go_sem, binI_lss, binI_leq, binI_gtr, binI_geq, binI_eql, binI_neq, Nat.reduceEqDiff, Nat.reduceAdd, Nat.reduceMul, Nat.reduceSub, Nat.reduceLeDiff, Nat.reduceLT, reduceIte, reduceCtorEq]
    refine seq_assoc (seq_reg ?_)
    simp only [go_sem, binI_lss, binI_leq, binI_gtr, binI_geq, binI_eql, binI_neq, Nat.reduceEqDiff, Nat.reduceAdd, Nat.reduceMul, Nat.reduceSub, Nat.reduceLeDiff, Nat.reduceLT, reduceIte, reduceCtorEq]
    exact seq_ret ⟨Or.inr rfl, .bool true, by simp only [go_sem, binI_lss, binI_leq, binI_gtr, binI_geq, binI_eql, binI_neq, Nat.reduceEqDiff, Nat.reduceAdd, Nat.reduceMul, Nat.reduceSub, Nat.reduceLeDiff, Nat.reduceLT, reduceIte, reduceCtorEq], rfl, rfl⟩
  refine seq_cond (t := false) (by simp only [go_sem, binI_lss, binI_leq, binI_gtr, binI_geq, binI_eql, binI_neq, Nat.reduceEqDiff, Nat.reduceAdd, Nat.reduceMul, Nat.reduceSub, Nat.reduceLeDiff, Nat.reduceLT, reduceIte, reduceCtorEq]; rw [decide_eq_false hn]) ?_
  simp only [go_sem, binI_lss, binI_leq, binI_gtr, binI_geq, binI_eql, binI_neq, Nat.reduceEqDiff, Nat.reduceAdd, Nat.reduceMul, Nat.reduceSub, Nat.reduceLeDiff, Nat.reduceLT, reduceIte, reduceCtorEq]
  have hs := q3 (by omega)
  clear q1 q2 q3 hn
  -- the reference
  refine seq_skip (seq_reg ?_)
  simp only [go_sem, binI_lss, binI_leq, binI_gtr, binI_geq, binI_eql, binI_neq, Nat.reduceEqDiff, Nat.reduceAdd, Nat.reduceMul, Nat.reduceSub, Nat.reduceLeDiff, Nat.reduceLT, reduceIte, reduceCtorEq, b1]
  refine gt H1 _ a (hr0.mono a01.vw0) hs _ _ _ _ (by simp only [go_sem, binI_lss, binI_leq, binI_gtr, binI_geq, binI_eql, binI_neq, Nat.reduceEqDiff, Nat.reduceAdd, Nat.reduceMul, Nat.reduceSub, Nat.reduceLeDiff, Nat.reduceLT, reduceIte, reduceCtorEq]) ?_
  intro v0 L0 hv0
  obtain ⟨H2, hH2⟩ : ∃ H2, H2 = H1 ++ L0 := ⟨_, rfl⟩
  rw [← hH2] at hv0 ⊢
  have a12 : Ag 0 H1.length H1 H2 := hH2 ▸ ag_app _ _
  have n2 : H1.length ≤ H2.length := by rw [hH2, List.length_append]; omega
  simp only [go_sem, binI_lss, binI_leq, binI_gtr, binI_geq, binI_eql, binI_neq, Nat.reduceEqDiff, Nat.reduceAdd, Nat.reduceMul, Nat.reduceSub, Nat.reduceLeDiff, Nat.reduceLT, reduceIte, reduceCtorEq]
  obtain ⟨w0, H3, k0, L1, hH3, hw0⟩ := gsv H2 v0 a x (hv0.mono (vws_vw _ _ |>.trans (vw_grow (Nat.zero_le _) fun _ _ _ => rfl))) hs
  rw [← hH3] at hw0
  have a23 : Ag 0 H2.length H2 H3 := hH3 ▸ ag_app _ _
  have n3 : H2.length ≤ H3.length := by rw [hH3, List.length_append]; omega
  refine op_callK (by simp only [go_sem, binI_lss, binI_leq, binI_gtr, binI_geq, binI_eql, binI_neq, Nat.reduceEqDiff, Nat.reduceAdd, Nat.reduceMul, Nat.reduceSub, Nat.reduceLeDiff, Nat.reduceLT, reduceIte, reduceCtorEq]; exact k0) ?_
  simp only [go_sem, binI_lss, binI_leq, binI_gtr, binI_geq, binI_eql, binI_neq, Nat.reduceEqDiff, Nat.reduceAdd, Nat.reduceMul, Nat.reduceSub, Nat.reduceLeDiff, Nat.reduceLT, reduceIte, reduceCtorEq]
  have a02 := a01.trans a12 (Nat.le_refl _) (by omega)
  have a03 := a02.trans a23 (Nat.le_refl _) (by omega)
  have b3 : getCells H3 H.length 0 5 = some cs := by rw [← b1]; unfold getCells; rw [(a12.trans a23 (Nat.le_refl _) n2) _ (Nat.zero_le _) (by omega)]
  clear k0 hv0 hH2 hH3
  -- what is handed to the program
  refine seq_reg ?_
  simp only [go_sem, binI_lss, binI_leq, binI_gtr, binI_geq, binI_eql, binI_neq, Nat.reduceEqDiff, Nat.reduceAdd, Nat.reduceMul, Nat.reduceSub, Nat.reduceLeDiff, Nat.reduceLT, reduceIte, reduceCtorEq, b3]
  refine gt H3 _ a (hr0.mono a03.vw0) hs _ _ _ _ (by simp only [go_sem, binI_lss, binI_leq, binI_gtr, binI_geq, binI_eql, binI_neq, Nat.reduceEqDiff, Nat.reduceAdd, Nat.reduceMul, Nat.reduceSub, Nat.reduceLeDiff, Nat.reduceLT, reduceIte, reduceCtorEq]) ?_
  intro v1 L2 hv1
  obtain ⟨H4, hH4⟩ : ∃ H4, H4 = H3 ++ L2 := ⟨_, rfl⟩
  rw [← hH4] at hv1 ⊢
  have a34 : Ag 0 H3.length H3 H4 := hH4 ▸ ag_app _ _
  have n4 : H3.length ≤ H4.length := by rw [hH4, List.length_append]; omega
  have hv1' := hv1
  obtain ⟨c1, hc1, hcs1⟩ := hv1
  have hl1 : c1.length = 5 := Co.part.len hcs1
  have ho1 : c1.all one = true := by rw [List.all_eq_true]; exact Co.part.ones hcs1
  simp only [go_sem, binI_lss, binI_leq, binI_gtr, binI_geq, binI_eql, binI_neq, Nat.reduceEqDiff, Nat.reduceAdd, Nat.reduceMul, Nat.reduceSub, Nat.reduceLeDiff, Nat.reduceLT, reduceIte, reduceCtorEq, Option.some.injEq] at hc1
  subst hc1
  simp only [go_sem, binI_lss, binI_leq, binI_gtr, binI_geq, binI_eql, binI_neq, Nat.reduceEqDiff, Nat.reduceAdd, Nat.reduceMul, Nat.reduceSub, Nat.reduceLeDiff, Nat.reduceLT, reduceIte, reduceCtorEq, ho1, hl1, setL_all]
  refine ⟨by omega, ?_⟩
  obtain ⟨H5, hH5⟩ : ∃ H5, H5 = H4 ++ [⟨c1, 0, 0, false, true⟩] := ⟨_, rfl⟩
  have a45 : Ag 0 H4.length H4 H5 := hH5 ▸ ag_app _ _
  have n5 : H5.length = H4.length + 1 := by rw [hH5, List.length_append]; rfl
  have d5 : getCells H5 H4.length 0 5 = some c1 := gc_box (by rw [hH5]; exact get_new0 H4 [_]) hl1
  rw [← hH5]
  have a05 := (a03.trans a34 (Nat.le_refl _) (by omega)).trans a45 (Nat.le_refl _) (by omega)
  have a35 := a34.trans a45 (Nat.le_refl _) (by omega)
  clear hH4 hH5
  refine seq_reg ?_
  simp only [go_sem, binI_lss, binI_leq, binI_gtr, binI_geq, binI_eql, binI_neq, Nat.reduceEqDiff, Nat.reduceAdd, Nat.reduceMul, Nat.reduceSub, Nat.reduceLeDiff, Nat.reduceLT, reduceIte, reduceCtorEq, d5]
  obtain ⟨g0, H6, k1, L3, hH6, hg0⟩ := giv H5 _ a x (hv1'.mono (a45.sub (Nat.zero_le _) (Nat.le_refl _)).vws) hs
  rw [← hH6] at hg0
  have a56 : Ag 0 H5.length H5 H6 := hH6 ▸ ag_app _ _
  have n6 : H5.length ≤ H6.length := by rw [hH6, List.length_append]; omega
  refine op_callK (by simp only [go_sem, binI_lss, binI_leq, binI_gtr, binI_geq, binI_eql, binI_neq, Nat.reduceEqDiff, Nat.reduceAdd, Nat.reduceMul, Nat.reduceSub, Nat.reduceLeDiff, Nat.reduceLT, reduceIte, reduceCtorEq]; exact k1) ?_
  simp only [go_sem, binI_lss, binI_leq, binI_gtr, binI_geq, binI_eql, binI_neq, Nat.reduceEqDiff, Nat.reduceAdd, Nat.reduceMul, Nat.reduceSub, Nat.reduceLeDiff, Nat.reduceLT, reduceIte, reduceCtorEq]
  have a36 := a35.trans a56 (Nat.le_refl _) (by omega)
  have a46 := a45.trans a56 (Nat.le_refl _) (by omega)
  have a06 := a05.trans a56 (Nat.le_refl _) (by omega)
  have d6 : getCells H6 H4.length 0 5 = some c1 := by rw [← d5]; unfold getCells; rw [a56 _ (Nat.zero_le _) (by omega)]
  have b6 : getCells H6 H.length 0 5 = some cs := by rw [← b3]; unfold getCells; rw [a36 _ (Nat.zero_le _) (by omega)]
  clear k1 hH6
  refine seq_assoc (seq_reg ?_)
  simp only [go_sem, binI_lss, binI_leq, binI_gtr, binI_geq, binI_eql, binI_neq, Nat.reduceEqDiff, Nat.reduceAdd, Nat.reduceMul, Nat.reduceSub, Nat.reduceLeDiff, Nat.reduceLT, reduceIte, reduceCtorEq]
  refine op_callQ (by simp only [go_sem, binI_lss, binI_leq, binI_gtr, binI_geq, binI_eql, binI_neq, Nat.reduceEqDiff, Nat.reduceAdd, Nat.reduceMul, Nat.reduceSub, Nat.reduceLeDiff, Nat.reduceLT, reduceIte, reduceCtorEq]; exact gew H6 _ _ (viewL a x) ⟨_, by simp only [go_sem, binI_lss, binI_leq, binI_gtr, binI_geq, binI_eql, binI_neq, Nat.reduceEqDiff, Nat.reduceAdd, Nat.reduceMul, Nat.reduceSub, Nat.reduceLeDiff, Nat.reduceLT, reduceIte, reduceCtorEq], Co.rd_sl.2 (hg0.mono (Ag.refl _ _ _).vws)⟩ ⟨_, by simp only [go_sem, binI_lss, binI_leq, binI_gtr, binI_geq, binI_eql, binI_neq, Nat.reduceEqDiff, Nat.reduceAdd, Nat.reduceMul, Nat.reduceSub, Nat.reduceLeDiff, Nat.reduceLT, reduceIte, reduceCtorEq], Co.rd_sl.2 (hw0.mono (a36.sub (Nat.zero_le _) (Nat.le_refl _)).vws)⟩) ?_
  simp only [go_sem, binI_lss, binI_leq, binI_gtr, binI_geq, binI_eql, binI_neq, Nat.reduceEqDiff, Nat.reduceAdd, Nat.reduceMul, Nat.reduceSub, Nat.reduceLeDiff, Nat.reduceLT, reduceIte, reduceCtorEq]
  refine seq_cond (t := false) (by simp only [go_sem, binI_lss, binI_leq, binI_gtr, binI_geq, binI_eql, binI_neq, Nat.reduceEqDiff, Nat.reduceAdd, Nat.reduceMul, Nat.reduceSub, Nat.reduceLeDiff, Nat.reduceLT, reduceIte, reduceCtorEq]) ?_
  simp only [go_sem, binI_lss, binI_leq, binI_gtr, binI_geq, binI_eql, binI_neq, Nat.reduceEqDiff, Nat.reduceAdd, Nat.reduceMul, Nat.reduceSub, Nat.reduceLeDiff, Nat.reduceLT, reduceIte, reduceCtorEq]
  refine seq_skip (seq_assoc (seq_regD ?_))
  simp only [go_sem, binI_lss, binI_leq, binI_gtr, binI_geq, binI_eql, binI_neq, Nat.reduceEqDiff, Nat.reduceAdd, Nat.reduceMul, Nat.reduceSub, Nat.reduceLeDiff, Nat.reduceLT, reduceIte, reduceCtorEq, d6, b6]
  refine gt H6 _ a (hr0.mono a06.vw0) hs _ _ _ _ (by simp only [go_sem, binI_lss, binI_leq, binI_gtr, binI_geq, binI_eql, binI_neq, Nat.reduceEqDiff, Nat.reduceAdd, Nat.reduceMul, Nat.reduceSub, Nat.reduceLeDiff, Nat.reduceLT, reduceIte, reduceCtorEq]) ?_
  intro v4 L4 hv4
  obtain ⟨H7, hH7⟩ : ∃ H7, H7 = H6 ++ L4 := ⟨_, rfl⟩
  rw [← hH7] at hv4 ⊢
  have a67 : Ag 0 H6.length H6 H7 := hH7 ▸ ag_app _ _
  have n7 : H6.length ≤ H7.length := by rw [hH7, List.length_append]; omega
  have a47 := a46.trans a67 (Nat.le_refl _) (by omega)
  have a37 := a36.trans a67 (Nat.le_refl _) (by omega)
  have a07 := a06.trans a67 (Nat.le_refl _) (by omega)
  have d7 : getCells H7 H4.length 0 5 = some c1 := by rw [← d6]; unfold getCells; rw [a67 _ (Nat.zero_le _) (by omega)]
  have b7 : getCells H7 H.length 0 5 = some cs := by rw [← b6]; unfold getCells; rw [a67 _ (Nat.zero_le _) (by omega)]
  simp only [go_sem, binI_lss, binI_leq, binI_gtr, binI_geq, binI_eql, binI_neq, Nat.reduceEqDiff, Nat.reduceAdd, Nat.reduceMul, Nat.reduceSub, Nat.reduceLeDiff, Nat.reduceLT, reduceIte, reduceCtorEq]
  refine op_callQ (by simp only [go_sem, binI_lss, binI_leq, binI_gtr, binI_geq, binI_eql, binI_neq, Nat.reduceEqDiff, Nat.reduceAdd, Nat.reduceMul, Nat.reduceSub, Nat.reduceLeDiff, Nat.reduceLT, reduceIte, reduceCtorEq]; exact gep H7 _ _ a (hv1'.mono (a47.sub (Nat.zero_le _) (Nat.le_refl _)).vws) (hv4.mono (Ag.refl _ _ _).vws)) ?_
  simp only [go_sem, binI_lss, binI_leq, binI_gtr, binI_geq, binI_eql, binI_neq, Nat.reduceEqDiff, Nat.reduceAdd, Nat.reduceMul, Nat.reduceSub, Nat.reduceLeDiff, Nat.reduceLT, reduceIte, reduceCtorEq]
  refine seq_cond (t := false) (by simp only [go_sem, binI_lss, binI_leq, binI_gtr, binI_geq, binI_eql, binI_neq, Nat.reduceEqDiff, Nat.reduceAdd, Nat.reduceMul, Nat.reduceSub, Nat.reduceLeDiff, Nat.reduceLT, reduceIte, reduceCtorEq]) ?_
  simp only [go_sem, binI_lss, binI_leq, binI_gtr, binI_geq, binI_eql, binI_neq, Nat.reduceEqDiff, Nat.reduceAdd, Nat.reduceMul, Nat.reduceSub, Nat.reduceLeDiff, Nat.reduceLT, reduceIte, reduceCtorEq]
  clear hv4 hH7
  -- marks
  refine seq_skip (seq_reg ?_)
  simp only [go_sem, binI_lss, binI_leq, binI_gtr, binI_geq, binI_eql, binI_neq, Nat.reduceEqDiff, Nat.reduceAdd, Nat.reduceMul, Nat.reduceSub, Nat.reduceLeDiff, Nat.reduceLT, reduceIte, reduceCtorEq]
  refine seq_reg ?_
  simp only [go_sem, binI_lss, binI_leq, binI_gtr, binI_geq, binI_eql, binI_neq, Nat.reduceEqDiff, Nat.reduceAdd, Nat.reduceMul, Nat.reduceSub, Nat.reduceLeDiff, Nat.reduceLT, reduceIte, reduceCtorEq, d7]
  have hnp := nPart_le hs
  obtain ⟨H8, k8, fr⟩ := gm H7 _ a H3.length H4.length H.length 1 (hv1'.mono ((a47.sub (Nat.zero_le _) (Nat.le_refl _)).vwb (Nat.le_refl _))) (by omega) (by omega) (by omega) (by omega)
  refine op_callN (by simp only [go_sem, binI_lss, binI_leq, binI_gtr, binI_geq, binI_eql, binI_neq, Nat.reduceEqDiff, Nat.reduceAdd, Nat.reduceMul, Nat.reduceSub, Nat.reduceLeDiff, Nat.reduceLT, reduceIte, reduceCtorEq]; exact k8) ?_
  simp only [go_sem, binI_lss, binI_leq, binI_gtr, binI_geq, binI_eql, binI_neq, Nat.reduceEqDiff, Nat.reduceAdd, Nat.reduceMul, Nat.reduceSub, Nat.reduceLeDiff, Nat.reduceLT, reduceIte, reduceCtorEq]
  have n8 := fr.1
  have a08 : Ag 0 H.length H H8 := a07.trans (fr.ag (lo' := 0) (hi' := H3.length) (.inl (Nat.le_refl _)) (by omega)) (Nat.le_refl _) (by omega)
  have e38 : Ag 0 H3.length H3 H8 := a37.trans (fr.ag (lo' := 0) (hi' := H3.length) (.inl (Nat.le_refl _)) (by omega)) (Nat.le_refl _) (by omega)
  have e68 : Ag H4.length H6.length H6 H8 := (a67.sub (Nat.zero_le _) (Nat.le_refl _)).trans (fr.ag (lo' := H4.length) (hi' := H6.length) (.inr (Nat.le_refl _)) (by omega)) (Nat.le_refl _) (by omega)
  have b8 : getCells H8 H.length 0 5 = some cs := by rw [← b3]; unfold getCells; rw [e38 _ (Nat.zero_le _) (by omega)]
  clear k8 a67 a47 a37 a07 d7 b7
  have hk8 : decide ((1 : Int) + (nPart a : Nat) < 0) = false := decide_eq_false (by omega)
  refine seq_assoc (seq_reg ?_)
  simp only [go_sem, binI_lss, binI_leq, binI_gtr, binI_geq, binI_eql, binI_neq, Nat.reduceEqDiff, Nat.reduceAdd, Nat.reduceMul, Nat.reduceSub, Nat.reduceLeDiff, Nat.reduceLT, reduceIte, reduceCtorEq, hk8]
  refine op_callQ (by simp only [go_sem, binI_lss, binI_leq, binI_gtr, binI_geq, binI_eql, binI_neq, Nat.reduceEqDiff, Nat.reduceAdd, Nat.reduceMul, Nat.reduceSub, Nat.reduceLeDiff, Nat.reduceLT, reduceIte, reduceCtorEq]; exact gew H8 _ _ (viewL a x) ⟨_, by simp only [go_sem, binI_lss, binI_leq, binI_gtr, binI_geq, binI_eql, binI_neq, Nat.reduceEqDiff, Nat.reduceAdd, Nat.reduceMul, Nat.reduceSub, Nat.reduceLeDiff, Nat.reduceLT, reduceIte, reduceCtorEq], Co.rd_sl.2 (hg0.mono (e68.sub (by omega) (Nat.le_refl _)).vws)⟩ ⟨_, by simp only [go_sem, binI_lss, binI_leq, binI_gtr, binI_geq, binI_eql, binI_neq, Nat.reduceEqDiff, Nat.reduceAdd, Nat.reduceMul, Nat.reduceSub, Nat.reduceLeDiff, Nat.reduceLT, reduceIte, reduceCtorEq], Co.rd_sl.2 (hw0.mono (e38.sub (Nat.zero_le _) (Nat.le_refl _)).vws)⟩) ?_
  simp only [go_sem, binI_lss, binI_leq, binI_gtr, binI_geq, binI_eql, binI_neq, Nat.reduceEqDiff, Nat.reduceAdd, Nat.reduceMul, Nat.reduceSub, Nat.reduceLeDiff, Nat.reduceLT, reduceIte, reduceCtorEq, hk8]
  refine seq_cond (t := false) (by simp only [go_sem, binI_lss, binI_leq, binI_gtr, binI_geq, binI_eql, binI_neq, Nat.reduceEqDiff, Nat.reduceAdd, Nat.reduceMul, Nat.reduceSub, Nat.reduceLeDiff, Nat.reduceLT, reduceIte, reduceCtorEq]) ?_
  simp only [go_sem, binI_lss, binI_leq, binI_gtr, binI_geq, binI_eql, binI_neq, Nat.reduceEqDiff, Nat.reduceAdd, Nat.reduceMul, Nat.reduceSub, Nat.reduceLeDiff, Nat.reduceLT, reduceIte, reduceCtorEq]
  obtain ⟨b, o, hfl, _⟩ := flat_of (w := 7) rfl (hg0.mono ((e68.sub (by omega) (Nat.le_refl _)).vwb (hi := H6.length) (Nat.le_refl _)))
  have hvl := viewL_le hs x
  refine seq_skip (seq_reg ?_)
  simp only [go_sem, binI_lss, binI_leq, binI_gtr, binI_geq, binI_eql, binI_neq, Nat.reduceEqDiff, Nat.reduceAdd, Nat.reduceMul, Nat.reduceSub, Nat.reduceLeDiff, Nat.reduceLT, reduceIte, reduceCtorEq]
  refine seq_reg ?_
  simp only [go_sem, binI_lss, binI_leq, binI_gtr, binI_geq, binI_eql, binI_neq, Nat.reduceEqDiff, Nat.reduceAdd, Nat.reduceMul, Nat.reduceSub, Nat.reduceLeDiff, Nat.reduceLT, reduceIte, reduceCtorEq]
  refine op_callN (by simp only [go_sem, binI_lss, binI_leq, binI_gtr, binI_geq, binI_eql, binI_neq, Nat.reduceEqDiff, Nat.reduceAdd, Nat.reduceMul, Nat.reduceSub, Nat.reduceLeDiff, Nat.reduceLT, reduceIte, reduceCtorEq]; exact gmw H8 g0 _ b o H5.length H6.length H.length 1 hfl (by omega) (by omega) (by omega)) ?_
  simp only [go_sem, binI_lss, binI_leq, binI_gtr, binI_geq, binI_eql, binI_neq, Nat.reduceEqDiff, Nat.reduceAdd, Nat.reduceMul, Nat.reduceSub, Nat.reduceLeDiff, Nat.reduceLT, reduceIte, reduceCtorEq]
  have hheld := held_mark hfl 1
  have a9 := fun lo' hi' h => ag_mark (lo' := lo') (hi' := hi') hfl 1 h
  have n9 := mark_len H8 (viewL a x).length b o 1 ((viewL a x).length * 7)
  obtain ⟨H9, hH9⟩ : ∃ H9, H9 = (if (viewL a x).length = 0 then H8 else markB H8 b o 1 ((viewL a x).length * 7)) := ⟨_, rfl⟩
  rw [← hH9] at hheld a9 n9 ⊢
  clear hH9
  have a09 : Ag 0 H.length H H9 := a08.trans (a9 0 H.length (.inl (by omega))) (Nat.le_refl _) (Nat.le_refl _)
  have e39 : Ag 0 H3.length H3 H9 := e38.trans (a9 0 H3.length (.inl (by omega))) (Nat.le_refl _) (Nat.le_refl _)
  have b9 : getCells H9 H.length 0 5 = some cs := by rw [← b3]; unfold getCells; rw [e39 _ (Nat.zero_le _) (by omega)]
  refine seq_reg ?_
  simp only [go_sem, binI_lss, binI_leq, binI_gtr, binI_geq, binI_eql, binI_neq, Nat.reduceEqDiff, Nat.reduceAdd, Nat.reduceMul, Nat.reduceSub, Nat.reduceLeDiff, Nat.reduceLT, reduceIte, reduceCtorEq]
  refine seq_reg ?_
  simp only [go_sem, binI_lss, binI_leq, binI_gtr, binI_geq, binI_eql, binI_neq, Nat.reduceEqDiff, Nat.reduceAdd, Nat.reduceMul, Nat.reduceSub, Nat.reduceLeDiff, Nat.reduceLT, reduceIte, reduceCtorEq]
  refine op_callQ (by simp only [go_sem, binI_lss, binI_leq, binI_gtr, binI_geq, binI_eql, binI_neq, Nat.reduceEqDiff, Nat.reduceAdd, Nat.reduceMul, Nat.reduceSub, Nat.reduceLeDiff, Nat.reduceLT, reduceIte, reduceCtorEq]; exact gh H9 g0 _ b o 1 hheld (by omega) (by omega)) ?_
  simp only [go_sem, binI_lss, binI_leq, binI_gtr, binI_geq, binI_eql, binI_neq, Nat.reduceEqDiff, Nat.reduceAdd, Nat.reduceMul, Nat.reduceSub, Nat.reduceLeDiff, Nat.reduceLT, reduceIte, reduceCtorEq]
  refine seq_assoc (seq_reg ?_)
  simp only [go_sem, binI_lss, binI_leq, binI_gtr, binI_geq, binI_eql, binI_neq, Nat.reduceEqDiff, Nat.reduceAdd, Nat.reduceMul, Nat.reduceSub, Nat.reduceLeDiff, Nat.reduceLT, reduceIte, reduceCtorEq]
  refine seq_cond (t := false) (by simp only [go_sem, binI_lss, binI_leq, binI_gtr, binI_geq, binI_eql, binI_neq, Nat.reduceEqDiff, Nat.reduceAdd, Nat.reduceMul, Nat.reduceSub, Nat.reduceLeDiff, Nat.reduceLT, reduceIte, reduceCtorEq]; rw [decide_eq_false (by omega)]) ?_
  simp only [go_sem, binI_lss, binI_leq, binI_gtr, binI_geq, binI_eql, binI_neq, Nat.reduceEqDiff, Nat.reduceAdd, Nat.reduceMul, Nat.reduceSub, Nat.reduceLeDiff, Nat.reduceLT, reduceIte, reduceCtorEq]
  refine seq_skip (seq_assoc (seq_reg ?_))
  simp only [go_sem, binI_lss, binI_leq, binI_gtr, binI_geq, binI_eql, binI_neq, Nat.reduceEqDiff, Nat.reduceAdd, Nat.reduceMul, Nat.reduceSub, Nat.reduceLeDiff, Nat.reduceLT, reduceIte, reduceCtorEq, bne_self_eq_false]
  refine seq_cond (t := false) (by simp only [go_sem, binI_lss, binI_leq, binI_gtr, binI_geq, binI_eql, binI_neq, Nat.reduceEqDiff, Nat.reduceAdd, Nat.reduceMul, Nat.reduceSub, Nat.reduceLeDiff, Nat.reduceLT, reduceIte, reduceCtorEq]) ?_
  simp only [go_sem, binI_lss, binI_leq, binI_gtr, binI_geq, binI_eql, binI_neq, Nat.reduceEqDiff, Nat.reduceAdd, Nat.reduceMul, Nat.reduceSub, Nat.reduceLeDiff, Nat.reduceLT, reduceIte, reduceCtorEq]
  -- once more
  refine seq_skip (seq_reg ?_)
  simp only [go_sem, binI_lss, binI_leq, binI_gtr, binI_geq, binI_eql, binI_neq, Nat.reduceEqDiff, Nat.reduceAdd, Nat.reduceMul, Nat.reduceSub, Nat.reduceLeDiff, Nat.reduceLT, reduceIte, reduceCtorEq, b9]
  refine gt H9 _ a (hr0.mono a09.vw0) hs _ _ _ _ (by simp only [go_sem, binI_lss, binI_leq, binI_gtr, binI_geq, binI_eql, binI_neq, Nat.reduceEqDiff, Nat.reduceAdd, Nat.reduceMul, Nat.reduceSub, Nat.reduceLeDiff, Nat.reduceLT, reduceIte, reduceCtorEq]) ?_
  intro v5 L5 hv5
  obtain ⟨HA, hHA⟩ : ∃ HA, HA = H9 ++ L5 := ⟨_, rfl⟩
  rw [← hHA] at hv5 ⊢
  have a9A : Ag 0 H9.length H9 HA := hHA ▸ ag_app _ _
  have nA : H9.length ≤ HA.length := by rw [hHA, List.length_append]; omega
  simp only [go_sem, binI_lss, binI_leq, binI_gtr, binI_geq, binI_eql, binI_neq, Nat.reduceEqDiff, Nat.reduceAdd, Nat.reduceMul, Nat.reduceSub, Nat.reduceLeDiff, Nat.reduceLT, reduceIte, reduceCtorEq]
  obtain ⟨h0, HB, kB, L6, hHB, hh0⟩ := giv HA v5 a x (hv5.mono (Ag.refl _ _ _).vws) hs
  rw [← hHB] at hh0
  have aAB : Ag 0 HA.length HA HB := hHB ▸ ag_app _ _
  have nB : HA.length ≤ HB.length := by rw [hHB, List.length_append]; omega
  refine op_callK (by simp only [go_sem, binI_lss, binI_leq, binI_gtr, binI_geq, binI_eql, binI_neq, Nat.reduceEqDiff, Nat.reduceAdd, Nat.reduceMul, Nat.reduceSub, Nat.reduceLeDiff, Nat.reduceLT, reduceIte, reduceCtorEq]; exact kB) ?_
  simp only [go_sem, binI_lss, binI_leq, binI_gtr, binI_geq, binI_eql, binI_neq, Nat.reduceEqDiff, Nat.reduceAdd, Nat.reduceMul, Nat.reduceSub, Nat.reduceLeDiff, Nat.reduceLT, reduceIte, reduceCtorEq]
  have a9B := a9A.trans aAB (Nat.le_refl _) (by omega)
  have e3B : Ag 0 H3.length H3 HB := e39.trans a9B (Nat.le_refl _) (by omega)
  refine seq_assoc (seq_reg ?_)
  simp only [go_sem, binI_lss, binI_leq, binI_gtr, binI_geq, binI_eql, binI_neq, Nat.reduceEqDiff, Nat.reduceAdd, Nat.reduceMul, Nat.reduceSub, Nat.reduceLeDiff, Nat.reduceLT, reduceIte, reduceCtorEq]
  refine op_callQ (by simp only [go_sem, binI_lss, binI_leq, binI_gtr, binI_geq, binI_eql, binI_neq, Nat.reduceEqDiff, Nat.reduceAdd, Nat.reduceMul, Nat.reduceSub, Nat.reduceLeDiff, Nat.reduceLT, reduceIte, reduceCtorEq]; exact gew HB _ _ (viewL a x) ⟨_, by simp only [go_sem, binI_lss, binI_leq, binI_gtr, binI_geq, binI_eql, binI_neq, Nat.reduceEqDiff, Nat.reduceAdd, Nat.reduceMul, Nat.reduceSub, Nat.reduceLeDiff, Nat.reduceLT, reduceIte, reduceCtorEq], Co.rd_sl.2 (hh0.mono (Ag.refl _ _ _).vws)⟩ ⟨_, by simp only [go_sem, binI_lss, binI_leq, binI_gtr, binI_geq, binI_eql, binI_neq, Nat.reduceEqDiff, Nat.reduceAdd, Nat.reduceMul, Nat.reduceSub, Nat.reduceLeDiff, Nat.reduceLT, reduceIte, reduceCtorEq], Co.rd_sl.2 (hw0.mono (e3B.sub (Nat.zero_le _) (Nat.le_refl _)).vws)⟩) ?_
  simp only [go_sem, binI_lss, binI_leq, binI_gtr, binI_geq, binI_eql, binI_neq, Nat.reduceEqDiff, Nat.reduceAdd, Nat.reduceMul, Nat.reduceSub, Nat.reduceLeDiff, Nat.reduceLT, reduceIte, reduceCtorEq]
  refine seq_cond (t := false) (by simp only [go_sem, binI_lss, binI_leq, binI_gtr, binI_geq, binI_eql, binI_neq, Nat.reduceEqDiff, Nat.reduceAdd, Nat.reduceMul, Nat.reduceSub, Nat.reduceLeDiff, Nat.reduceLT, reduceIte, reduceCtorEq]) ?_
  simp only [go_sem, binI_lss, binI_leq, binI_gtr, binI_geq, binI_eql, binI_neq, Nat.reduceEqDiff, Nat.reduceAdd, Nat.reduceMul, Nat.reduceSub, Nat.reduceLeDiff, Nat.reduceLT, reduceIte, reduceCtorEq]
  refine seq_skip (seq_reg ?_)
  simp only [go_sem, binI_lss, binI_leq, binI_gtr, binI_geq, binI_eql, binI_neq, Nat.reduceEqDiff, Nat.reduceAdd, Nat.reduceMul, Nat.reduceSub, Nat.reduceLeDiff, Nat.reduceLT, reduceIte, reduceCtorEq]
  refine seq_reg ?_
  simp only [go_sem, binI_lss, binI_leq, binI_gtr, binI_geq, binI_eql, binI_neq, Nat.reduceEqDiff, Nat.reduceAdd, Nat.reduceMul, Nat.reduceSub, Nat.reduceLeDiff, Nat.reduceLT, reduceIte, reduceCtorEq]
  have hheld2 : HeldR HB g0 7 (viewL a x).length b o 1 := hheld.mono (by
    by_cases h0 : (viewL a x).length = 0
    · exact .inl h0
    obtain ⟨_, _, _, hb⟩ := hfl
    obtain ⟨_, _, hb2, _⟩ := hb.resolve_left h0
    exact .inr (a9B b (Nat.zero_le _) (by omega)))
  refine op_callQ (by simp only [go_sem, binI_lss, binI_leq, binI_gtr, binI_geq, binI_eql, binI_neq, Nat.reduceEqDiff, Nat.reduceAdd, Nat.reduceMul, Nat.reduceSub, Nat.reduceLeDiff, Nat.reduceLT, reduceIte, reduceCtorEq]; exact gh HB g0 _ b o 1 hheld2 (by omega) (by omega)) ?_
  simp only [go_sem, binI_lss, binI_leq, binI_gtr, binI_geq, binI_eql, binI_neq, Nat.reduceEqDiff, Nat.reduceAdd, Nat.reduceMul, Nat.reduceSub, Nat.reduceLeDiff, Nat.reduceLT, reduceIte, reduceCtorEq]
  refine seq_assoc (seq_reg ?_)
  simp only [go_sem, binI_lss, binI_leq, binI_gtr, binI_geq, binI_eql, binI_neq, Nat.reduceEqDiff, Nat.reduceAdd, Nat.reduceMul, Nat.reduceSub, Nat.reduceLeDiff, Nat.reduceLT, reduceIte, reduceCtorEq]
  refine seq_cond (t := false) (by simp only [go_sem, binI_lss, binI_leq, binI_gtr, binI_geq, binI_eql, binI_neq, Nat.reduceEqDiff, Nat.reduceAdd, Nat.reduceMul, Nat.reduceSub, Nat.reduceLeDiff, Nat.reduceLT, reduceIte, reduceCtorEq]; rw [decide_eq_false (by omega)]) ?_
  simp only [go_sem, binI_lss, binI_leq, binI_gtr, binI_geq, binI_eql, binI_neq, Nat.reduceEqDiff, Nat.reduceAdd, Nat.reduceMul, Nat.reduceSub, Nat.reduceLeDiff, Nat.reduceLT, reduceIte, reduceCtorEq]
  refine seq_skip (seq_assoc (seq_reg ?_))
  simp only [go_sem, binI_lss, binI_leq, binI_gtr, binI_geq, binI_eql, binI_neq, Nat.reduceEqDiff, Nat.reduceAdd, Nat.reduceMul, Nat.reduceSub, Nat.reduceLeDiff, Nat.reduceLT, reduceIte, reduceCtorEq, bne_self_eq_false]
  refine seq_cond (t := false) (by simp only [go_sem, binI_lss, binI_leq, binI_gtr, binI_geq, binI_eql, binI_neq, Nat.reduceEqDiff, Nat.reduceAdd, Nat.reduceMul, Nat.reduceSub, Nat.reduceLeDiff, Nat.reduceLT, reduceIte, reduceCtorEq]) ?_
  simp only [go_sem, binI_lss, binI_leq, binI_gtr, binI_geq, binI_eql, binI_neq, Nat.reduceEqDiff, Nat.reduceAdd, Nat.reduceMul, Nat.reduceSub, Nat.reduceLeDiff, Nat.reduceLT, reduceIte, reduceCtorEq]
  refine seq_skip (seq_reg ?_)
  simp only [go_sem, binI_lss, binI_leq, binI_gtr, binI_geq, binI_eql, binI_neq, Nat.reduceEqDiff, Nat.reduceAdd, Nat.reduceMul, Nat.reduceSub, Nat.reduceLeDiff, Nat.reduceLT, reduceIte, reduceCtorEq]
  exact wpc_ret ⟨Or.inr rfl, .bool true, by simp only [go_sem, binI_lss, binI_leq, binI_gtr, binI_geq, binI_eql, binI_neq, Nat.reduceEqDiff, Nat.reduceAdd, Nat.reduceMul, Nat.reduceSub, Nat.reduceLeDiff, Nat.reduceLT, reduceIte, reduceCtorEq], rfl, rfl⟩
end Go.Proofs.YtkdhdklggdbgdaaI
