/- The law FnExactPlanHome on the ideal machine. -/
import Derived.Test.YtkdhdklggdbgdaaQ12
set_option linter.unusedVariables false
set_option linter.unusedSimpArgs false
namespace Go.Proofs.YtkdhdklggdbgdaaI
open Go Go.RowKit
theorem setL_full {cs vs : List Value} (h : vs.length = cs.length) : setL cs 0 vs = vs := by
  rw [setL_eq _ _ _ (by omega), List.take_zero, List.nil_append, List.drop_of_length_le (by omega), List.append_nil]
def c_lawPH : IFn := ⟨4, 51, [.t 8],
 .seq (.reg none [
    ⟨(some 4), none, .box (.t 0)⟩,
    ⟨(some 8), none, .mov (.c (.bool false))⟩])
 (.seq (.seq (.reg none [
     ⟨(some 14), none, .mov (.t 1)⟩,
     ⟨(some 15), none, .len (.t 14)⟩,
     ⟨(some 16), none, .bin .gtr (.t 15) (.c (.int .i64 1048576))⟩])
  (.cond (.t 16) (.seq (.reg none [
      ⟨(some 8), none, .mov (.c (.bool true))⟩])
   (.ret)) (.skip)))
 (.seq (.reg none [
    ⟨(some 9), none, .mov (.c (.int .i64 1048576))⟩])
 (.seq (.reg none [
    ⟨(some 17), none, .load true 2 (.t 4)⟩,
    ⟨(some 18), none, .mov (.t 9)⟩,
    ⟨(some 19), none, .call .q (.f 11) [(.t 17), (.t 18)]⟩,
    ⟨(some 9), none, .mov (.t 19)⟩])
 (.seq (.seq (.reg none [
     ⟨(some 20), none, .mov (.t 9)⟩,
     ⟨(some 21), none, .bin .lss (.t 20) (.c (.int .i64 0))⟩])
  (.cond (.t 21) (.seq (.reg none [
      ⟨(some 8), none, .mov (.c (.bool true))⟩])
   (.ret)) (.skip)))
 (.seq (.reg none [
    ⟨(some 22), none, .load true 2 (.t 4)⟩,
    ⟨(some 23), none, .call .k (.f 13) [(.t 22)]⟩,
    ⟨(some 24), none, .mov (.t 1)⟩,
    ⟨(some 25), none, .call .k (.f 14) [(.t 24)]⟩,
    ⟨(some 26), none, .mov (.t 2)⟩,
    ⟨(some 27), none, .mov (.t 3)⟩,
    ⟨(some 28), none, .call .q (.f 12) [(.t 23), (.t 25), (.t 26), (.t 27)]⟩,
    ⟨(some 10), none, .mov (.t 28)⟩])
 (.seq (.reg none [
    ⟨(some 29), none, .load true 2 (.t 4)⟩,
    ⟨(some 30), none, .call .k (.f 13) [(.t 29)]⟩,
    ⟨(some 11), none, .new [(.slice none 0 0), (.slice none 0 0)]⟩,
    ⟨none, none, .store 2 (.t 11) (.t 30)⟩])
 (.seq (.reg none [
    ⟨(some 31), none, .mov (.t 1)⟩,
    ⟨(some 32), none, .call .k (.f 14) [(.t 31)]⟩,
    ⟨(some 12), none, .mov (.t 32)⟩])
 (.seq (.reg none [
    ⟨(some 33), none, .load true 2 (.t 11)⟩,
    ⟨(some 34), none, .mov (.t 12)⟩,
    ⟨(some 35), none, .mov (.t 2)⟩,
    ⟨(some 36), none, .mov (.t 3)⟩,
    ⟨(some 37), none, .call .q (.f 15) [(.t 33), (.t 34), (.t 35), (.t 36)]⟩,
    ⟨(some 13), none, .mov (.t 37)⟩])
 (.seq (.seq (.reg none [
     ⟨(some 38), none, .mov (.t 13)⟩,
     ⟨(some 39), none, .mov (.t 10)⟩,
     ⟨(some 40), none, .beq true (.t 38) (.t 39)⟩])
  (.cond (.t 40) (.seq (.reg none [
      ⟨(some 8), none, .mov (.c (.bool false))⟩])
   (.ret)) (.skip)))
 (.seq (.seq (.reg (some 3) [
     ⟨(some 41), none, .load true 2 (.t 11)⟩,
     ⟨(some 42), none, .load true 2 (.t 4)⟩,
     ⟨(some 43), none, .call .k (.f 13) [(.t 42)]⟩,
     ⟨(some 44), none, .call .q (.f 16) [(.t 41), (.t 43)]⟩,
     ⟨(some 45), none, .un .not (.t 44)⟩])
  (.cond (.t 45) (.seq (.reg none [
      ⟨(some 8), none, .mov (.c (.bool false))⟩])
   (.ret)) (.skip)))
 (.seq (.seq (.reg none [
     ⟨(some 46), none, .mov (.t 12)⟩,
     ⟨(some 47), none, .mov (.t 1)⟩,
     ⟨(some 48), none, .call .k (.f 14) [(.t 47)]⟩,
     ⟨(some 49), none, .call .q (.f 17) [(.t 46), (.t 48)]⟩,
     ⟨(some 50), none, .un .not (.t 49)⟩])
  (.cond (.t 50) (.seq (.reg none [
      ⟨(some 8), none, .mov (.c (.bool false))⟩])
   (.ret)) (.skip)))
 (.seq (.reg none [
    ⟨(some 8), none, .mov (.c (.bool true))⟩])
 (.ret)))))))))))))⟩
theorem lawPH_ok {F : Nat → Option IFn} {f : Nat} (hf : F f = some c_lawPH) (gs : ∀ n, SzOk F (Co.prog n) true 11) (gt : ∀ n, ToOk F (Co.prog n) true .k 13) (gti : ToOk F (Co.sl Co.int) false .k 14) (ge : ∀ n, EqOk F (Co.prog n) true 16) (gei : EqOk F (Co.sl Co.int) false 17)
    (gp : HomeOk F 12) (gi : HomeOk F 15) :
    ∀ (H : Heap) (n : Nat) (v u : Value) (a : TProg n) (ts : List Int) (x y : Int), Rd (Co.prog n) true (vw 0 H) v a → SlR Co.int (vw 0 H) u ts → QC F f [v, u, .int .i64 x, .int .i64 y] H (.bool true) := by
  intro H n v u a ts x y hr hu
  have hr' := hr
  have hu' : ∀ L, Rd (Co.sl Co.int) false (vw 0 (H ++ L)) u ts := fun L => ⟨_, rfl, Co.rd_sl.2 (hu.mono (vw_app 0 H L))⟩
  obtain ⟨cs, hc, hcs⟩ := hr
  have hl := (Co.prog n).len hcs
  have ho : cs.all one = true := by rw [List.all_eq_true]; exact (Co.prog n).ones hcs
  simp only [go_sem, binI_lss, binI_leq, binI_gtr, binI_geq, binI_eql, binI_neq, Nat.reduceEqDiff, Nat.reduceAdd, Nat.reduceMul, Nat.reduceSub, Nat.reduceLeDiff, Nat.reduceLT, reduceIte, reduceCtorEq, Option.some.injEq] at hc
  subst hc
  have l2 : cs.length = 2 := hl
  have t2 : List.take 2 cs = cs := List.take_of_length_le (by omega)
  have hul := hu.1
  obtain ⟨au, xu⟩ := hu.shape
  subst xu
  refine QC.mk hf rfl ?_
  refine seq_reg ?_
  simp only [go_sem, binI_lss, binI_leq, binI_gtr, binI_geq, binI_eql, binI_neq, Nat.reduceEqDiff, Nat.reduceAdd, Nat.reduceMul, Nat.reduceSub, Nat.reduceLeDiff, Nat.reduceLT, reduceIte, reduceCtorEq, ho]
  refine seq_assoc (seq_reg ?_)
  simp only [go_sem, binI_lss, binI_leq, binI_gtr, binI_geq, binI_eql, binI_neq, Nat.reduceEqDiff, Nat.reduceAdd, Nat.reduceMul, Nat.reduceSub, Nat.reduceLeDiff, Nat.reduceLT, reduceIte, reduceCtorEq]
  by_cases hbig : 1048576 < (ts.length : Int)
  · refine seq_cond (t := true) (by simp only [go_sem, binI_lss, binI_leq, binI_gtr, binI_geq, binI_eql, binI_neq, Nat.reduceEqDiff, Nat.reduceAdd, Nat.reduceMul, Nat.reduceSub, Nat.reduceLeDiff, Nat.reduceLT, reduceIte, reduceCtorEq]; rw [decide_eq_true hbig]) ?_
    simp only [go_sem, binI_lss, binI_leq, binI_gtr, binI_geq, binI_eql, binI_neq, Nat.reduceEqDiff, Nat.reduceAdd, Nat.reduceMul, Nat.reduceSub, Nat.reduceLeDiff, Nat.reduceLT, reduceIte, reduceCtorEq]
    refine seq_assoc (seq_reg ?_)
    simp only [go_sem, binI_lss, binI_leq, binI_gtr, binI_geq, binI_eql, binI_neq, Nat.reduceEqDiff, Nat.reduceAdd, Nat.reduceMul, Nat.reduceSub, Nat.reduceLeDiff, Nat.reduceLT, reduceIte, reduceCtorEq]
    exact seq_ret ⟨Or.inr rfl, .bool true, by simp only [go_sem, binI_lss, binI_leq, binI_gtr, binI_geq, binI_eql, binI_neq, Nat.reduceEqDiff, Nat.reduceAdd, Nat.reduceMul, Nat.reduceSub, Nat.reduceLeDiff, Nat.reduceLT, reduceIte, reduceCtorEq], rfl, rfl⟩
  refine seq_cond (t := false) (by simp only [go_sem, binI_lss, binI_leq, binI_gtr, binI_geq, binI_eql, binI_neq, Nat.reduceEqDiff, Nat.reduceAdd, Nat.reduceMul, Nat.reduceSub, Nat.reduceLeDiff, Nat.reduceLT, reduceIte, reduceCtorEq]; rw [decide_eq_false hbig]) ?_
  simp only [go_sem, binI_lss, binI_leq, binI_gtr, binI_geq, binI_eql, binI_neq, Nat.reduceEqDiff, Nat.reduceAdd, Nat.reduceMul, Nat.reduceSub, Nat.reduceLeDiff, Nat.reduceLT, reduceIte, reduceCtorEq]
  have hsu : (Co.sl Co.int).sm ts := ⟨by omega, fun _ _ => trivial⟩
  refine seq_skip (seq_reg ?_)
  simp only [go_sem, binI_lss, binI_leq, binI_gtr, binI_geq, binI_eql, binI_neq, Nat.reduceEqDiff, Nat.reduceAdd, Nat.reduceMul, Nat.reduceSub, Nat.reduceLeDiff, Nat.reduceLT, reduceIte, reduceCtorEq]
  refine seq_reg ?_
  simp only [go_sem, binI_lss, binI_leq, binI_gtr, binI_geq, binI_eql, binI_neq, Nat.reduceEqDiff, Nat.reduceAdd, Nat.reduceMul, Nat.reduceSub, Nat.reduceLeDiff, Nat.reduceLT, reduceIte, reduceCtorEq, inBlk, l2, t2]
  obtain ⟨r, q1, q2, q3⟩ := gs n (H ++ [⟨cs, 0, 0, false, true⟩]) _ a 1048576 (hr'.mono (vw_app 0 H _)) (by omega) (by omega)
  refine op_callQ (by simp only [go_sem, binI_lss, binI_leq, binI_gtr, binI_geq, binI_eql, binI_neq, Nat.reduceEqDiff, Nat.reduceAdd, Nat.reduceMul, Nat.reduceSub, Nat.reduceLeDiff, Nat.reduceLT, reduceIte, reduceCtorEq]; exact q1) ?_
  simp only [go_sem, binI_lss, binI_leq, binI_gtr, binI_geq, binI_eql, binI_neq, Nat.reduceEqDiff, Nat.reduceAdd, Nat.reduceMul, Nat.reduceSub, Nat.reduceLeDiff, Nat.reduceLT, reduceIte, reduceCtorEq]
  refine seq_assoc (seq_reg ?_)
  simp only [go_sem, binI_lss, binI_leq, binI_gtr, binI_geq, binI_eql, binI_neq, Nat.reduceEqDiff, Nat.reduceAdd, Nat.reduceMul, Nat.reduceSub, Nat.reduceLeDiff, Nat.reduceLT, reduceIte, reduceCtorEq]
  by_cases hn : r < 0
  · refine seq_cond (t := true) (by simp only [go_sem, binI_lss, binI_leq, binI_gtr, binI_geq, binI_eql, binI_neq, Nat.reduceEqDiff, Nat.reduceAdd, Nat.reduceMul, Nat.reduceSub, Nat.reduceLeDiff, Nat.reduceLT, reduceIte, reduceCtorEq]; rw [decide_eq_true hn]) ?_
    simp only [go_sem, binI_lss, binI_leq, binI_gtr, binI_geq, binI_eql, binI_neq, Nat.reduceEqDiff, Nat.reduceAdd, Nat.reduceMul, Nat.reduceSub, Nat.reduceLeDiff, Nat.reduceLT, reduceIte, reduceCtorEq]
    refine seq_assoc (seq_reg ?_)
    simp only [go_sem, binI_lss, binI_leq, binI_gtr, binI_geq, binI_eql, binI_neq, Nat.reduceEqDiff, Nat.reduceAdd, Nat.reduceMul, Nat.reduceSub, Nat.reduceLeDiff, Nat.reduceLT, reduceIte, reduceCtorEq]
    exact seq_ret ⟨Or.inr rfl, .bool true, by simp only [go_sem, binI_lss, binI_leq, binI_gtr, binI_geq, binI_eql, binI_neq, Nat.reduceEqDiff, Nat.reduceAdd, Nat.reduceMul, Nat.reduceSub, Nat.reduceLeDiff, Nat.reduceLT, reduceIte, reduceCtorEq], rfl, rfl⟩
  refine seq_cond (t := false) (by simp only [go_sem, binI_lss, binI_leq, binI_gtr, binI_geq, binI_eql, binI_neq, Nat.reduceEqDiff, Nat.reduceAdd, Nat.reduceMul, Nat.reduceSub, Nat.reduceLeDiff, Nat.reduceLT, reduceIte, reduceCtorEq]; rw [decide_eq_false hn]) ?_
  simp only [go_sem, binI_lss, binI_leq, binI_gtr, binI_geq, binI_eql, binI_neq, Nat.reduceEqDiff, Nat.reduceAdd, Nat.reduceMul, Nat.reduceSub, Nat.reduceLeDiff, Nat.reduceLT, reduceIte, reduceCtorEq]
  have hs := q3 (by omega)
  refine seq_skip (seq_reg ?_)
  simp only [go_sem, binI_lss, binI_leq, binI_gtr, binI_geq, binI_eql, binI_neq, Nat.reduceEqDiff, Nat.reduceAdd, Nat.reduceMul, Nat.reduceSub, Nat.reduceLeDiff, Nat.reduceLT, reduceIte, reduceCtorEq, inBlk, l2, t2]
  refine gt n _ _ a (hr'.mono (vw_app 0 H _)) hs _ _ _ _ (by simp only [go_sem, binI_lss, binI_leq, binI_gtr, binI_geq, binI_eql, binI_neq, Nat.reduceEqDiff, Nat.reduceAdd, Nat.reduceMul, Nat.reduceSub, Nat.reduceLeDiff, Nat.reduceLT, reduceIte, reduceCtorEq]) ?_
  intro w0 L0 hw0
  have hw0' := fun L => hw0.mono (Sub.trans (vw_grow (Nat.zero_le _) fun _ _ _ => rfl) (vw_app 0 _ L))
  simp only [go_sem, binI_lss, binI_leq, binI_gtr, binI_geq, binI_eql, binI_neq, Nat.reduceEqDiff, Nat.reduceAdd, Nat.reduceMul, Nat.reduceSub, Nat.reduceLeDiff, Nat.reduceLT, reduceIte, reduceCtorEq] at hw0'
  simp only [go_sem, binI_lss, binI_leq, binI_gtr, binI_geq, binI_eql, binI_neq, Nat.reduceEqDiff, Nat.reduceAdd, Nat.reduceMul, Nat.reduceSub, Nat.reduceLeDiff, Nat.reduceLT, reduceIte, reduceCtorEq]
  refine gti _ _ ts (hu' _) hsu _ _ _ _ (by simp only [go_sem, binI_lss, binI_leq, binI_gtr, binI_geq, binI_eql, binI_neq, Nat.reduceEqDiff, Nat.reduceAdd, Nat.reduceMul, Nat.reduceSub, Nat.reduceLeDiff, Nat.reduceLT, reduceIte, reduceCtorEq]) ?_
  rintro w1 L1 hw1
  have hw1' := hw1.mono (vw_grow (Nat.zero_le _) fun _ _ _ => rfl)
  obtain ⟨c1, hc1, k1⟩ := hw1'
  obtain ⟨u1, rfl, k1⟩ := k1
  simp only [go_sem, binI_lss, binI_leq, binI_gtr, binI_geq, binI_eql, binI_neq, Nat.reduceEqDiff, Nat.reduceAdd, Nat.reduceMul, Nat.reduceSub, Nat.reduceLeDiff, Nat.reduceLT, reduceIte, reduceCtorEq, Option.some.injEq] at hc1
  subst hc1
  simp only [go_sem, binI_lss, binI_leq, binI_gtr, binI_geq, binI_eql, binI_neq, Nat.reduceEqDiff, Nat.reduceAdd, Nat.reduceMul, Nat.reduceSub, Nat.reduceLeDiff, Nat.reduceLT, reduceIte, reduceCtorEq] at k1
  simp only [go_sem, binI_lss, binI_leq, binI_gtr, binI_geq, binI_eql, binI_neq, Nat.reduceEqDiff, Nat.reduceAdd, Nat.reduceMul, Nat.reduceSub, Nat.reduceLeDiff, Nat.reduceLT, reduceIte, reduceCtorEq]
  refine op_callQ (by simp only [go_sem, binI_lss, binI_leq, binI_gtr, binI_geq, binI_eql, binI_neq, Nat.reduceEqDiff, Nat.reduceAdd, Nat.reduceMul, Nat.reduceSub, Nat.reduceLeDiff, Nat.reduceLT, reduceIte, reduceCtorEq]; exact gp _ n _ _ a ts x y (hw0' _) hs k1) ?_
  simp only [go_sem, binI_lss, binI_leq, binI_gtr, binI_geq, binI_eql, binI_neq, Nat.reduceEqDiff, Nat.reduceAdd, Nat.reduceMul, Nat.reduceSub, Nat.reduceLeDiff, Nat.reduceLT, reduceIte, reduceCtorEq]
  refine seq_reg ?_
  simp only [go_sem, binI_lss, binI_leq, binI_gtr, binI_geq, binI_eql, binI_neq, Nat.reduceEqDiff, Nat.reduceAdd, Nat.reduceMul, Nat.reduceSub, Nat.reduceLeDiff, Nat.reduceLT, reduceIte, reduceCtorEq, inBlk, l2, t2]
  refine gt n _ _ a (hr'.mono (vw_app 0 H _)) hs _ _ _ _ (by simp only [go_sem, binI_lss, binI_leq, binI_gtr, binI_geq, binI_eql, binI_neq, Nat.reduceEqDiff, Nat.reduceAdd, Nat.reduceMul, Nat.reduceSub, Nat.reduceLeDiff, Nat.reduceLT, reduceIte, reduceCtorEq]) ?_
  rintro w2 L2 hw2
  have hw2' := fun L => hw2.mono (Sub.trans (vw_grow (Nat.zero_le _) fun _ _ _ => rfl) (vw_app 0 _ L))
  simp only [go_sem, binI_lss, binI_leq, binI_gtr, binI_geq, binI_eql, binI_neq, Nat.reduceEqDiff, Nat.reduceAdd, Nat.reduceMul, Nat.reduceSub, Nat.reduceLeDiff, Nat.reduceLT, reduceIte, reduceCtorEq] at hw2'
  obtain ⟨c2, hc2, hcs2⟩ := hw2
  have ho2 : c2.all one = true := by rw [List.all_eq_true]; exact (Co.prog n).ones hcs2
  have f5 : c2.length = 2 := (Co.prog n).len hcs2
  have f6 : List.take 2 c2 = c2 := List.take_of_length_le (by omega)
  simp only [go_sem, binI_lss, binI_leq, binI_gtr, binI_geq, binI_eql, binI_neq, Nat.reduceEqDiff, Nat.reduceAdd, Nat.reduceMul, Nat.reduceSub, Nat.reduceLeDiff, Nat.reduceLT, reduceIte, reduceCtorEq, Option.some.injEq] at hc2
  subst hc2
  simp only [go_sem, binI_lss, binI_leq, binI_gtr, binI_geq, binI_eql, binI_neq, Nat.reduceEqDiff, Nat.reduceAdd, Nat.reduceMul, Nat.reduceSub, Nat.reduceLeDiff, Nat.reduceLT, reduceIte, reduceCtorEq, ho2, f5, setL_full]
  refine seq_reg ?_
  simp only [go_sem, binI_lss, binI_leq, binI_gtr, binI_geq, binI_eql, binI_neq, Nat.reduceEqDiff, Nat.reduceAdd, Nat.reduceMul, Nat.reduceSub, Nat.reduceLeDiff, Nat.reduceLT, reduceIte, reduceCtorEq]
  refine gti _ _ ts (hu' _) hsu _ _ _ _ (by simp only [go_sem, binI_lss, binI_leq, binI_gtr, binI_geq, binI_eql, binI_neq, Nat.reduceEqDiff, Nat.reduceAdd, Nat.reduceMul, Nat.reduceSub, Nat.reduceLeDiff, Nat.reduceLT, reduceIte, reduceCtorEq]) ?_
  rintro w3 L3 hw3
  have hw3' := fun L => hw3.mono (Sub.trans (vw_grow (Nat.zero_le _) fun _ _ _ => rfl) (vw_app 0 _ L))
  have hw3c := hw3' []
  rw [List.append_nil] at hw3c
  obtain ⟨c3, hc3, k3⟩ := hw3c
  obtain ⟨u3, rfl, k3⟩ := k3
  simp only [go_sem, binI_lss, binI_leq, binI_gtr, binI_geq, binI_eql, binI_neq, Nat.reduceEqDiff, Nat.reduceAdd, Nat.reduceMul, Nat.reduceSub, Nat.reduceLeDiff, Nat.reduceLT, reduceIte, reduceCtorEq, Option.some.injEq] at hc3
  subst hc3
  simp only [go_sem, binI_lss, binI_leq, binI_gtr, binI_geq, binI_eql, binI_neq, Nat.reduceEqDiff, Nat.reduceAdd, Nat.reduceMul, Nat.reduceSub, Nat.reduceLeDiff, Nat.reduceLT, reduceIte, reduceCtorEq] at k3 hw3'
  simp only [go_sem, binI_lss, binI_leq, binI_gtr, binI_geq, binI_eql, binI_neq, Nat.reduceEqDiff, Nat.reduceAdd, Nat.reduceMul, Nat.reduceSub, Nat.reduceLeDiff, Nat.reduceLT, reduceIte, reduceCtorEq]
  refine seq_reg ?_
  simp only [go_sem, binI_lss, binI_leq, binI_gtr, binI_geq, binI_eql, binI_neq, Nat.reduceEqDiff, Nat.reduceAdd, Nat.reduceMul, Nat.reduceSub, Nat.reduceLeDiff, Nat.reduceLT, reduceIte, reduceCtorEq, inBlk, f5, f6]
  refine op_callQ (by simp only [go_sem, binI_lss, binI_leq, binI_gtr, binI_geq, binI_eql, binI_neq, Nat.reduceEqDiff, Nat.reduceAdd, Nat.reduceMul, Nat.reduceSub, Nat.reduceLeDiff, Nat.reduceLT, reduceIte, reduceCtorEq]; exact gi _ n _ _ a ts x y (hw2' _) hs k3) ?_
  simp only [go_sem, binI_lss, binI_leq, binI_gtr, binI_geq, binI_eql, binI_neq, Nat.reduceEqDiff, Nat.reduceAdd, Nat.reduceMul, Nat.reduceSub, Nat.reduceLeDiff, Nat.reduceLT, reduceIte, reduceCtorEq]
  refine seq_assoc (seq_reg ?_)
  simp only [go_sem, binI_lss, binI_leq, binI_gtr, binI_geq, binI_eql, binI_neq, Nat.reduceEqDiff, Nat.reduceAdd, Nat.reduceMul, Nat.reduceSub, Nat.reduceLeDiff, Nat.reduceLT, reduceIte, reduceCtorEq, beq_self_eq_true]
  refine seq_cond (t := false) (by simp only [go_sem, binI_lss, binI_leq, binI_gtr, binI_geq, binI_eql, binI_neq, Nat.reduceEqDiff, Nat.reduceAdd, Nat.reduceMul, Nat.reduceSub, Nat.reduceLeDiff, Nat.reduceLT, reduceIte, reduceCtorEq]) ?_
  simp only [go_sem, binI_lss, binI_leq, binI_gtr, binI_geq, binI_eql, binI_neq, Nat.reduceEqDiff, Nat.reduceAdd, Nat.reduceMul, Nat.reduceSub, Nat.reduceLeDiff, Nat.reduceLT, reduceIte, reduceCtorEq]
  refine seq_skip (seq_assoc (seq_regD ?_))
  simp only [go_sem, binI_lss, binI_leq, binI_gtr, binI_geq, binI_eql, binI_neq, Nat.reduceEqDiff, Nat.reduceAdd, Nat.reduceMul, Nat.reduceSub, Nat.reduceLeDiff, Nat.reduceLT, reduceIte, reduceCtorEq, inBlk, f5, f6, l2, t2]
  refine gt n _ _ a (hr'.mono (vw_app 0 H _)) hs _ _ _ _ (by simp only [go_sem, binI_lss, binI_leq, binI_gtr, binI_geq, binI_eql, binI_neq, Nat.reduceEqDiff, Nat.reduceAdd, Nat.reduceMul, Nat.reduceSub, Nat.reduceLeDiff, Nat.reduceLT, reduceIte, reduceCtorEq]) ?_
  intro w4 L4 hw4
  simp only [go_sem, binI_lss, binI_leq, binI_gtr, binI_geq, binI_eql, binI_neq, Nat.reduceEqDiff, Nat.reduceAdd, Nat.reduceMul, Nat.reduceSub, Nat.reduceLeDiff, Nat.reduceLT, reduceIte, reduceCtorEq] at hw4
  simp only [go_sem, binI_lss, binI_leq, binI_gtr, binI_geq, binI_eql, binI_neq, Nat.reduceEqDiff, Nat.reduceAdd, Nat.reduceMul, Nat.reduceSub, Nat.reduceLeDiff, Nat.reduceLT, reduceIte, reduceCtorEq]
  refine op_callQ (by simp only [go_sem, binI_lss, binI_leq, binI_gtr, binI_geq, binI_eql, binI_neq, Nat.reduceEqDiff, Nat.reduceAdd, Nat.reduceMul, Nat.reduceSub, Nat.reduceLeDiff, Nat.reduceLT, reduceIte, reduceCtorEq]; exact ge n _ _ _ a (hw2' _) (hw4.mono (vw_grow (Nat.zero_le _) fun _ _ _ => rfl))) ?_
  simp only [go_sem, binI_lss, binI_leq, binI_gtr, binI_geq, binI_eql, binI_neq, Nat.reduceEqDiff, Nat.reduceAdd, Nat.reduceMul, Nat.reduceSub, Nat.reduceLeDiff, Nat.reduceLT, reduceIte, reduceCtorEq]
  refine seq_cond (t := false) (by simp only [go_sem, binI_lss, binI_leq, binI_gtr, binI_geq, binI_eql, binI_neq, Nat.reduceEqDiff, Nat.reduceAdd, Nat.reduceMul, Nat.reduceSub, Nat.reduceLeDiff, Nat.reduceLT, reduceIte, reduceCtorEq]) ?_
  simp only [go_sem, binI_lss, binI_leq, binI_gtr, binI_geq, binI_eql, binI_neq, Nat.reduceEqDiff, Nat.reduceAdd, Nat.reduceMul, Nat.reduceSub, Nat.reduceLeDiff, Nat.reduceLT, reduceIte, reduceCtorEq]
  refine seq_skip (seq_assoc (seq_reg ?_))
  simp only [go_sem, binI_lss, binI_leq, binI_gtr, binI_geq, binI_eql, binI_neq, Nat.reduceEqDiff, Nat.reduceAdd, Nat.reduceMul, Nat.reduceSub, Nat.reduceLeDiff, Nat.reduceLT, reduceIte, reduceCtorEq]
  refine gti _ _ ts (hu' _) hsu _ _ _ _ (by simp only [go_sem, binI_lss, binI_leq, binI_gtr, binI_geq, binI_eql, binI_neq, Nat.reduceEqDiff, Nat.reduceAdd, Nat.reduceMul, Nat.reduceSub, Nat.reduceLeDiff, Nat.reduceLT, reduceIte, reduceCtorEq]) ?_
  intro w5 L5 hw5
  simp only [go_sem, binI_lss, binI_leq, binI_gtr, binI_geq, binI_eql, binI_neq, Nat.reduceEqDiff, Nat.reduceAdd, Nat.reduceMul, Nat.reduceSub, Nat.reduceLeDiff, Nat.reduceLT, reduceIte, reduceCtorEq] at hw5
  simp only [go_sem, binI_lss, binI_leq, binI_gtr, binI_geq, binI_eql, binI_neq, Nat.reduceEqDiff, Nat.reduceAdd, Nat.reduceMul, Nat.reduceSub, Nat.reduceLeDiff, Nat.reduceLT, reduceIte, reduceCtorEq]
  refine op_callQ (by simp only [go_sem, binI_lss, binI_leq, binI_gtr, binI_geq, binI_eql, binI_neq, Nat.reduceEqDiff, Nat.reduceAdd, Nat.reduceMul, Nat.reduceSub, Nat.reduceLeDiff, Nat.reduceLT, reduceIte, reduceCtorEq]; exact gei _ _ _ ts (hw3' _) (hw5.mono (vw_grow (Nat.zero_le _) fun _ _ _ => rfl))) ?_
  simp only [go_sem, binI_lss, binI_leq, binI_gtr, binI_geq, binI_eql, binI_neq, Nat.reduceEqDiff, Nat.reduceAdd, Nat.reduceMul, Nat.reduceSub, Nat.reduceLeDiff, Nat.reduceLT, reduceIte, reduceCtorEq]
  refine seq_cond (t := false) (by simp only [go_sem, binI_lss, binI_leq, binI_gtr, binI_geq, binI_eql, binI_neq, Nat.reduceEqDiff, Nat.reduceAdd, Nat.reduceMul, Nat.reduceSub, Nat.reduceLeDiff, Nat.reduceLT, reduceIte, reduceCtorEq]) ?_
  simp only [go_sem, binI_lss, binI_leq, binI_gtr, binI_geq, binI_eql, binI_neq, Nat.reduceEqDiff, Nat.reduceAdd, Nat.reduceMul, Nat.reduceSub, Nat.reduceLeDiff, Nat.reduceLT, reduceIte, reduceCtorEq]
  refine seq_skip (seq_reg ?_)
  simp only [go_sem, binI_lss, binI_leq, binI_gtr, binI_geq, binI_eql, binI_neq, Nat.reduceEqDiff, Nat.reduceAdd, Nat.reduceMul, Nat.reduceSub, Nat.reduceLeDiff, Nat.reduceLT, reduceIte, reduceCtorEq]
  refine wpc_ret ⟨Or.inr rfl, _, ?_, rfl, rfl⟩
  simp only [go_sem, binI_lss, binI_leq, binI_gtr, binI_geq, binI_eql, binI_neq, Nat.reduceEqDiff, Nat.reduceAdd, Nat.reduceMul, Nat.reduceSub, Nat.reduceLeDiff, Nat.reduceLT, reduceIte, reduceCtorEq]
end Go.Proofs.YtkdhdklggdbgdaaI
