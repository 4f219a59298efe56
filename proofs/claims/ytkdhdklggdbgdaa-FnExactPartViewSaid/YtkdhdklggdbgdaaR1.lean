/- A part: copies in blocks of one's own, marks, and what a host is told. -/
import Derived.Test.YtkdhdklggdbgdaaP1
import Derived.Test.YtkdhdklggdbgdaaQ2
import Derived.Test.YtkdhdklggdbgdaaI24
set_option linter.unusedVariables false
set_option linter.unusedSimpArgs false
namespace Go.Proofs.YtkdhdklggdbgdaaI
open Go Go.RowKit
theorem toWrite_okS {F : Nat → Option IFn} {f : Nat} (hf : F f = some c_toWrite) : ToOkS F Co.p2 true .q f := by
  refine ToOkS.ofQ ?_
  rintro H v ⟨a0, a1⟩ ⟨cs, hc, _, _, rfl, ⟨rfl, b0⟩, ⟨rfl, b1⟩⟩ hs
  simp only [go_sem, binI_lss, binI_leq, binI_gtr, binI_geq, binI_eql, binI_neq, Nat.reduceEqDiff, Nat.reduceAdd, Nat.reduceMul, Nat.reduceSub, Nat.reduceLeDiff, Nat.reduceLT, reduceIte, reduceCtorEq, Option.some.injEq] at hc
  subst hc
  refine ⟨_, QC.mk hf rfl ?_, ⟨_, rfl, _, _, rfl, ⟨rfl, b0⟩, ⟨rfl, b1⟩⟩⟩
  repeat (refine seq_reg ?_; simp only [go_sem, binI_lss, binI_leq, binI_gtr, binI_geq, binI_eql, binI_neq, Nat.reduceEqDiff, Nat.reduceAdd, Nat.reduceMul, Nat.reduceSub, Nat.reduceLeDiff, Nat.reduceLT, reduceIte, reduceCtorEq])
  refine wpc_ret ⟨Or.inr rfl, _, ?_, rfl, rfl⟩
  simp only [go_sem, binI_lss, binI_leq, binI_gtr, binI_geq, binI_eql, binI_neq, Nat.reduceEqDiff, Nat.reduceAdd, Nat.reduceMul, Nat.reduceSub, Nat.reduceLeDiff, Nat.reduceLT, reduceIte, reduceCtorEq]
theorem toWord_okS {F : Nat → Option IFn} {f : Nat} (hf : F f = some c_toWord) : ToOkS F Co.word true .q f := by
  refine ToOkS.ofQ ?_
  rintro H v ⟨a0, a1, a2, a3, a4, a5, a6⟩ ⟨cs, hc, _, _, rfl, ⟨rfl, b0⟩, _, _, rfl, ⟨rfl, b1⟩, _, _, rfl, ⟨rfl, b2⟩, _, _, rfl, ⟨rfl, b3⟩, _, _, rfl, ⟨rfl, b4⟩, _, _, rfl, ⟨rfl, b5⟩, ⟨rfl, b6⟩⟩ hs
  simp only [go_sem, binI_lss, binI_leq, binI_gtr, binI_geq, binI_eql, binI_neq, Nat.reduceEqDiff, Nat.reduceAdd, Nat.reduceMul, Nat.reduceSub, Nat.reduceLeDiff, Nat.reduceLT, reduceIte, reduceCtorEq, Option.some.injEq] at hc
  subst hc
  refine ⟨_, QC.mk hf rfl ?_, ⟨_, rfl, _, _, rfl, ⟨rfl, b0⟩, _, _, rfl, ⟨rfl, b1⟩, _, _, rfl, ⟨rfl, b2⟩, _, _, rfl, ⟨rfl, b3⟩, _, _, rfl, ⟨rfl, b4⟩, _, _, rfl, ⟨rfl, b5⟩, ⟨rfl, b6⟩⟩⟩
  repeat (refine seq_reg ?_; simp only [go_sem, binI_lss, binI_leq, binI_gtr, binI_geq, binI_eql, binI_neq, Nat.reduceEqDiff, Nat.reduceAdd, Nat.reduceMul, Nat.reduceSub, Nat.reduceLeDiff, Nat.reduceLT, reduceIte, reduceCtorEq])
  refine wpc_ret ⟨Or.inr rfl, _, ?_, rfl, rfl⟩
  simp only [go_sem, binI_lss, binI_leq, binI_gtr, binI_geq, binI_eql, binI_neq, Nat.reduceEqDiff, Nat.reduceAdd, Nat.reduceMul, Nat.reduceSub, Nat.reduceLeDiff, Nat.reduceLT, reduceIte, reduceCtorEq]
theorem toRun_okS {F : Nat → Option IFn} {f : Nat} (hf : F f = some c_toRun) (g0 : ToOkS F (Co.sl Co.int) false .k 14) (g1 : ToOkS F (Co.sl Co.p2) false .k 56) (g2 : ToOkS F (Co.sl Co.p2) false .k 57) : ToOkS F Co.run true .k f := by
  refine ToOkS.ofK ?_
  rintro H v ⟨a0, a1, a2⟩ ⟨cs, hc, _, _, rfl, ⟨v0, rfl, r0⟩, _, _, rfl, ⟨v1, rfl, r1⟩, ⟨v2, rfl, r2⟩⟩ ⟨s0, s1, s2⟩
  simp only [go_sem, binI_lss, binI_leq, binI_gtr, binI_geq, binI_eql, binI_neq, Nat.reduceEqDiff, Nat.reduceAdd, Nat.reduceMul, Nat.reduceSub, Nat.reduceLeDiff, Nat.reduceLT, reduceIte, reduceCtorEq, Option.some.injEq] at hc
  subst hc
  obtain ⟨_, x0⟩ := r0.shape
  subst x0
  obtain ⟨_, x1⟩ := r1.shape
  subst x1
  obtain ⟨_, x2⟩ := r2.shape
  subst x2
  refine KC.mk hf rfl ?_
  refine seq_reg ?_
  simp only [go_sem, binI_lss, binI_leq, binI_gtr, binI_geq, binI_eql, binI_neq, Nat.reduceEqDiff, Nat.reduceAdd, Nat.reduceMul, Nat.reduceSub, Nat.reduceLeDiff, Nat.reduceLT, reduceIte, reduceCtorEq]
  refine seq_reg ?_
  simp only [go_sem, binI_lss, binI_leq, binI_gtr, binI_geq, binI_eql, binI_neq, Nat.reduceEqDiff, Nat.reduceAdd, Nat.reduceMul, Nat.reduceSub, Nat.reduceLeDiff, Nat.reduceLT, reduceIte, reduceCtorEq]
  refine seq_reg ?_
  simp only [go_sem, binI_lss, binI_leq, binI_gtr, binI_geq, binI_eql, binI_neq, Nat.reduceEqDiff, Nat.reduceAdd, Nat.reduceMul, Nat.reduceSub, Nat.reduceLeDiff, Nat.reduceLT, reduceIte, reduceCtorEq]
  refine g0 _ _ a0 ⟨_, rfl, ⟨_, rfl, r0.mono (vw_app 0 H _)⟩⟩ s0 _ _ _ _ (by simp only [go_sem, binI_lss, binI_leq, binI_gtr, binI_geq, binI_eql, binI_neq, Nat.reduceEqDiff, Nat.reduceAdd, Nat.reduceMul, Nat.reduceSub, Nat.reduceLeDiff, Nat.reduceLT, reduceIte, reduceCtorEq]) ?_
  rintro w0 L0 ⟨_, hc, vq0, rfl, rq0⟩
  simp only [go_sem, binI_lss, binI_leq, binI_gtr, binI_geq, binI_eql, binI_neq, Nat.reduceEqDiff, Nat.reduceAdd, Nat.reduceMul, Nat.reduceSub, Nat.reduceLeDiff, Nat.reduceLT, reduceIte, reduceCtorEq, Option.some.injEq] at hc
  subst hc
  obtain ⟨_, xq0⟩ := rq0.shape
  subst xq0
  simp only [go_sem, binI_lss, binI_leq, binI_gtr, binI_geq, binI_eql, binI_neq, Nat.reduceEqDiff, Nat.reduceAdd, Nat.reduceMul, Nat.reduceSub, Nat.reduceLeDiff, Nat.reduceLT, reduceIte, reduceCtorEq]
  refine seq_reg ?_
  simp only [go_sem, binI_lss, binI_leq, binI_gtr, binI_geq, binI_eql, binI_neq, Nat.reduceEqDiff, Nat.reduceAdd, Nat.reduceMul, Nat.reduceSub, Nat.reduceLeDiff, Nat.reduceLT, reduceIte, reduceCtorEq]
  refine g1 _ _ a1 ⟨_, rfl, ⟨_, rfl, r1.mono (vw_app 0 H _)⟩⟩ s1 _ _ _ _ (by simp only [go_sem, binI_lss, binI_leq, binI_gtr, binI_geq, binI_eql, binI_neq, Nat.reduceEqDiff, Nat.reduceAdd, Nat.reduceMul, Nat.reduceSub, Nat.reduceLeDiff, Nat.reduceLT, reduceIte, reduceCtorEq]) ?_
  rintro w1 L1 ⟨_, hc, vq1, rfl, rq1⟩
  simp only [go_sem, binI_lss, binI_leq, binI_gtr, binI_geq, binI_eql, binI_neq, Nat.reduceEqDiff, Nat.reduceAdd, Nat.reduceMul, Nat.reduceSub, Nat.reduceLeDiff, Nat.reduceLT, reduceIte, reduceCtorEq, Option.some.injEq] at hc
  subst hc
  obtain ⟨_, xq1⟩ := rq1.shape
  subst xq1
  simp only [go_sem, binI_lss, binI_leq, binI_gtr, binI_geq, binI_eql, binI_neq, Nat.reduceEqDiff, Nat.reduceAdd, Nat.reduceMul, Nat.reduceSub, Nat.reduceLeDiff, Nat.reduceLT, reduceIte, reduceCtorEq]
  refine seq_reg ?_
  simp only [go_sem, binI_lss, binI_leq, binI_gtr, binI_geq, binI_eql, binI_neq, Nat.reduceEqDiff, Nat.reduceAdd, Nat.reduceMul, Nat.reduceSub, Nat.reduceLeDiff, Nat.reduceLT, reduceIte, reduceCtorEq]
  refine g2 _ _ a2 ⟨_, rfl, ⟨_, rfl, r2.mono (vw_app 0 H _)⟩⟩ s2 _ _ _ _ (by simp only [go_sem, binI_lss, binI_leq, binI_gtr, binI_geq, binI_eql, binI_neq, Nat.reduceEqDiff, Nat.reduceAdd, Nat.reduceMul, Nat.reduceSub, Nat.reduceLeDiff, Nat.reduceLT, reduceIte, reduceCtorEq]) ?_
  rintro w2 L2 ⟨_, hc, vq2, rfl, rq2⟩
  simp only [go_sem, binI_lss, binI_leq, binI_gtr, binI_geq, binI_eql, binI_neq, Nat.reduceEqDiff, Nat.reduceAdd, Nat.reduceMul, Nat.reduceSub, Nat.reduceLeDiff, Nat.reduceLT, reduceIte, reduceCtorEq, Option.some.injEq] at hc
  subst hc
  obtain ⟨_, xq2⟩ := rq2.shape
  subst xq2
  simp only [go_sem, binI_lss, binI_leq, binI_gtr, binI_geq, binI_eql, binI_neq, Nat.reduceEqDiff, Nat.reduceAdd, Nat.reduceMul, Nat.reduceSub, Nat.reduceLeDiff, Nat.reduceLT, reduceIte, reduceCtorEq]
  refine seq_reg ?_
  simp only [go_sem, binI_lss, binI_leq, binI_gtr, binI_geq, binI_eql, binI_neq, Nat.reduceEqDiff, Nat.reduceAdd, Nat.reduceMul, Nat.reduceSub, Nat.reduceLeDiff, Nat.reduceLT, reduceIte, reduceCtorEq]
  refine wpc_ret ⟨Or.inr rfl, _, by simp only [go_sem, binI_lss, binI_leq, binI_gtr, binI_geq, binI_eql, binI_neq, Nat.reduceEqDiff, Nat.reduceAdd, Nat.reduceMul, Nat.reduceSub, Nat.reduceLeDiff, Nat.reduceLT, reduceIte, reduceCtorEq], _, rfl, _, rfl, _, _, rfl, ⟨_, rfl, rq0.mono (vws_in (H.length + 3) L0 (L1 ++ L2) (by simp only [go_sem, binI_lss, binI_leq, binI_gtr, binI_geq, binI_eql, binI_neq, Nat.reduceEqDiff, Nat.reduceAdd, Nat.reduceMul, Nat.reduceSub, Nat.reduceLeDiff, Nat.reduceLT, reduceIte, reduceCtorEq]; try omega) (by omega) (by simp only [go_sem, binI_lss, binI_leq, binI_gtr, binI_geq, binI_eql, binI_neq, Nat.reduceEqDiff, Nat.reduceAdd, Nat.reduceMul, Nat.reduceSub, Nat.reduceLeDiff, Nat.reduceLT, reduceIte, reduceCtorEq]) (by simp only [go_sem, binI_lss, binI_leq, binI_gtr, binI_geq, binI_eql, binI_neq, Nat.reduceEqDiff, Nat.reduceAdd, Nat.reduceMul, Nat.reduceSub, Nat.reduceLeDiff, Nat.reduceLT, reduceIte, reduceCtorEq]))⟩, _, _, rfl, ⟨_, rfl, rq1.mono (vws_in (H.length + 3) (L0 ++ L1) L2 (by simp only [go_sem, binI_lss, binI_leq, binI_gtr, binI_geq, binI_eql, binI_neq, Nat.reduceEqDiff, Nat.reduceAdd, Nat.reduceMul, Nat.reduceSub, Nat.reduceLeDiff, Nat.reduceLT, reduceIte, reduceCtorEq]; try omega) (by omega) (by simp only [go_sem, binI_lss, binI_leq, binI_gtr, binI_geq, binI_eql, binI_neq, Nat.reduceEqDiff, Nat.reduceAdd, Nat.reduceMul, Nat.reduceSub, Nat.reduceLeDiff, Nat.reduceLT, reduceIte, reduceCtorEq]) (by simp only [go_sem, binI_lss, binI_leq, binI_gtr, binI_geq, binI_eql, binI_neq, Nat.reduceEqDiff, Nat.reduceAdd, Nat.reduceMul, Nat.reduceSub, Nat.reduceLeDiff, Nat.reduceLT, reduceIte, reduceCtorEq]))⟩, ⟨_, rfl, rq2.mono (vws_in (H.length + 3) (L0 ++ (L1 ++ L2)) [] (by simp only [go_sem, binI_lss, binI_leq, binI_gtr, binI_geq, binI_eql, binI_neq, Nat.reduceEqDiff, Nat.reduceAdd, Nat.reduceMul, Nat.reduceSub, Nat.reduceLeDiff, Nat.reduceLT, reduceIte, reduceCtorEq]; try omega) (by omega) (by simp only [go_sem, binI_lss, binI_leq, binI_gtr, binI_geq, binI_eql, binI_neq, Nat.reduceEqDiff, Nat.reduceAdd, Nat.reduceMul, Nat.reduceSub, Nat.reduceLeDiff, Nat.reduceLT, reduceIte, reduceCtorEq]) (by simp only [go_sem, binI_lss, binI_leq, binI_gtr, binI_geq, binI_eql, binI_neq, Nat.reduceEqDiff, Nat.reduceAdd, Nat.reduceMul, Nat.reduceSub, Nat.reduceLeDiff, Nat.reduceLT, reduceIte, reduceCtorEq]))⟩⟩
theorem toPart_okS {F : Nat → Option IFn} {f : Nat} (hf : F f = some c_toPart) (g0 : ToOkS F Co.run true .k 26) (g1 : ToOkS F (Co.sl (Co.sl Co.word)) false .k 27) : ToOkS F Co.part true .k f := by
  refine ToOkS.ofK ?_
  rintro H v ⟨⟨a0, a1, a2⟩, a3, a4⟩ ⟨cs, hc, _, _, rfl, ⟨_, _, rfl, ⟨v0, rfl, r0⟩, _, _, rfl, ⟨v1, rfl, r1⟩, ⟨v2, rfl, r2⟩⟩, _, _, rfl, ⟨v3, rfl, r3⟩, rfl⟩ ⟨⟨s0, s1, s2⟩, s3, s4⟩
  simp only [go_sem, binI_lss, binI_leq, binI_gtr, binI_geq, binI_eql, binI_neq, Nat.reduceEqDiff, Nat.reduceAdd, Nat.reduceMul, Nat.reduceSub, Nat.reduceLeDiff, Nat.reduceLT, reduceIte, reduceCtorEq, Option.some.injEq] at hc
  subst hc
  obtain ⟨_, x0⟩ := r0.shape
  subst x0
  obtain ⟨_, x1⟩ := r1.shape
  subst x1
  obtain ⟨_, x2⟩ := r2.shape
  subst x2
  obtain ⟨_, x3⟩ := r3.shape
  subst x3
  refine KC.mk hf rfl ?_
  refine seq_reg ?_
  simp only [go_sem, binI_lss, binI_leq, binI_gtr, binI_geq, binI_eql, binI_neq, Nat.reduceEqDiff, Nat.reduceAdd, Nat.reduceMul, Nat.reduceSub, Nat.reduceLeDiff, Nat.reduceLT, reduceIte, reduceCtorEq]
  refine seq_reg ?_
  simp only [go_sem, binI_lss, binI_leq, binI_gtr, binI_geq, binI_eql, binI_neq, Nat.reduceEqDiff, Nat.reduceAdd, Nat.reduceMul, Nat.reduceSub, Nat.reduceLeDiff, Nat.reduceLT, reduceIte, reduceCtorEq]
  refine seq_reg ?_
  simp only [go_sem, binI_lss, binI_leq, binI_gtr, binI_geq, binI_eql, binI_neq, Nat.reduceEqDiff, Nat.reduceAdd, Nat.reduceMul, Nat.reduceSub, Nat.reduceLeDiff, Nat.reduceLT, reduceIte, reduceCtorEq]
  refine g0 _ _ ⟨a0, a1, a2⟩ ⟨_, rfl, ⟨_, _, rfl, ⟨_, rfl, r0.mono (vw_app 0 H _)⟩, _, _, rfl, ⟨_, rfl, r1.mono (vw_app 0 H _)⟩, ⟨_, rfl, r2.mono (vw_app 0 H _)⟩⟩⟩ ⟨s0, s1, s2⟩ _ _ _ _ (by simp only [go_sem, binI_lss, binI_leq, binI_gtr, binI_geq, binI_eql, binI_neq, Nat.reduceEqDiff, Nat.reduceAdd, Nat.reduceMul, Nat.reduceSub, Nat.reduceLeDiff, Nat.reduceLT, reduceIte, reduceCtorEq]) ?_
  rintro w0 L0 ⟨_, hc, _, _, rfl, ⟨vq0, rfl, rq0⟩, _, _, rfl, ⟨vq1, rfl, rq1⟩, ⟨vq2, rfl, rq2⟩⟩
  simp only [go_sem, binI_lss, binI_leq, binI_gtr, binI_geq, binI_eql, binI_neq, Nat.reduceEqDiff, Nat.reduceAdd, Nat.reduceMul, Nat.reduceSub, Nat.reduceLeDiff, Nat.reduceLT, reduceIte, reduceCtorEq, Option.some.injEq] at hc
  subst hc
  obtain ⟨_, xq0⟩ := rq0.shape
  subst xq0
  obtain ⟨_, xq1⟩ := rq1.shape
  subst xq1
  obtain ⟨_, xq2⟩ := rq2.shape
  subst xq2
  simp only [go_sem, binI_lss, binI_leq, binI_gtr, binI_geq, binI_eql, binI_neq, Nat.reduceEqDiff, Nat.reduceAdd, Nat.reduceMul, Nat.reduceSub, Nat.reduceLeDiff, Nat.reduceLT, reduceIte, reduceCtorEq]
  refine seq_reg ?_
  simp only [go_sem, binI_lss, binI_leq, binI_gtr, binI_geq, binI_eql, binI_neq, Nat.reduceEqDiff, Nat.reduceAdd, Nat.reduceMul, Nat.reduceSub, Nat.reduceLeDiff, Nat.reduceLT, reduceIte, reduceCtorEq]
  refine g1 _ _ a3 ⟨_, rfl, ⟨_, rfl, r3.mono (vw_app 0 H _)⟩⟩ s3 _ _ _ _ (by simp only [go_sem, binI_lss, binI_leq, binI_gtr, binI_geq, binI_eql, binI_neq, Nat.reduceEqDiff, Nat.reduceAdd, Nat.reduceMul, Nat.reduceSub, Nat.reduceLeDiff, Nat.reduceLT, reduceIte, reduceCtorEq]) ?_
  rintro w1 L1 ⟨_, hc, vq3, rfl, rq3⟩
  simp only [go_sem, binI_lss, binI_leq, binI_gtr, binI_geq, binI_eql, binI_neq, Nat.reduceEqDiff, Nat.reduceAdd, Nat.reduceMul, Nat.reduceSub, Nat.reduceLeDiff, Nat.reduceLT, reduceIte, reduceCtorEq, Option.some.injEq] at hc
  subst hc
  obtain ⟨_, xq3⟩ := rq3.shape
  subst xq3
  simp only [go_sem, binI_lss, binI_leq, binI_gtr, binI_geq, binI_eql, binI_neq, Nat.reduceEqDiff, Nat.reduceAdd, Nat.reduceMul, Nat.reduceSub, Nat.reduceLeDiff, Nat.reduceLT, reduceIte, reduceCtorEq]
  refine seq_reg ?_
  simp only [go_sem, binI_lss, binI_leq, binI_gtr, binI_geq, binI_eql, binI_neq, Nat.reduceEqDiff, Nat.reduceAdd, Nat.reduceMul, Nat.reduceSub, Nat.reduceLeDiff, Nat.reduceLT, reduceIte, reduceCtorEq]
  refine seq_reg ?_
  simp only [go_sem, binI_lss, binI_leq, binI_gtr, binI_geq, binI_eql, binI_neq, Nat.reduceEqDiff, Nat.reduceAdd, Nat.reduceMul, Nat.reduceSub, Nat.reduceLeDiff, Nat.reduceLT, reduceIte, reduceCtorEq]
  refine wpc_ret ⟨Or.inr rfl, _, by simp only [go_sem, binI_lss, binI_leq, binI_gtr, binI_geq, binI_eql, binI_neq, Nat.reduceEqDiff, Nat.reduceAdd, Nat.reduceMul, Nat.reduceSub, Nat.reduceLeDiff, Nat.reduceLT, reduceIte, reduceCtorEq], _, rfl, _, rfl, _, _, rfl, ⟨_, _, rfl, ⟨_, rfl, rq0.mono (vws_in (H.length + 3) L0 L1 (by simp only [go_sem, binI_lss, binI_leq, binI_gtr, binI_geq, binI_eql, binI_neq, Nat.reduceEqDiff, Nat.reduceAdd, Nat.reduceMul, Nat.reduceSub, Nat.reduceLeDiff, Nat.reduceLT, reduceIte, reduceCtorEq]; try omega) (by omega) (by simp only [go_sem, binI_lss, binI_leq, binI_gtr, binI_geq, binI_eql, binI_neq, Nat.reduceEqDiff, Nat.reduceAdd, Nat.reduceMul, Nat.reduceSub, Nat.reduceLeDiff, Nat.reduceLT, reduceIte, reduceCtorEq]) (by simp only [go_sem, binI_lss, binI_leq, binI_gtr, binI_geq, binI_eql, binI_neq, Nat.reduceEqDiff, Nat.reduceAdd, Nat.reduceMul, Nat.reduceSub, Nat.reduceLeDiff, Nat.reduceLT, reduceIte, reduceCtorEq]))⟩, _, _, rfl, ⟨_, rfl, rq1.mono (vws_in (H.length + 3) L0 L1 (by simp only [go_sem, binI_lss, binI_leq, binI_gtr, binI_geq, binI_eql, binI_neq, Nat.reduceEqDiff, Nat.reduceAdd, Nat.reduceMul, Nat.reduceSub, Nat.reduceLeDiff, Nat.reduceLT, reduceIte, reduceCtorEq]; try omega) (by omega) (by simp only [go_sem, binI_lss, binI_leq, binI_gtr, binI_geq, binI_eql, binI_neq, Nat.reduceEqDiff, Nat.reduceAdd, Nat.reduceMul, Nat.reduceSub, Nat.reduceLeDiff, Nat.reduceLT, reduceIte, reduceCtorEq]) (by simp only [go_sem, binI_lss, binI_leq, binI_gtr, binI_geq, binI_eql, binI_neq, Nat.reduceEqDiff, Nat.reduceAdd, Nat.reduceMul, Nat.reduceSub, Nat.reduceLeDiff, Nat.reduceLT, reduceIte, reduceCtorEq]))⟩, ⟨_, rfl, rq2.mono (vws_in (H.length + 3) L0 L1 (by simp only [go_sem, binI_lss, binI_leq, binI_gtr, binI_geq, binI_eql, binI_neq, Nat.reduceEqDiff, Nat.reduceAdd, Nat.reduceMul, Nat.reduceSub, Nat.reduceLeDiff, Nat.reduceLT, reduceIte, reduceCtorEq]; try omega) (by omega) (by simp only [go_sem, binI_lss, binI_leq, binI_gtr, binI_geq, binI_eql, binI_neq, Nat.reduceEqDiff, Nat.reduceAdd, Nat.reduceMul, Nat.reduceSub, Nat.reduceLeDiff, Nat.reduceLT, reduceIte, reduceCtorEq]) (by simp only [go_sem, binI_lss, binI_leq, binI_gtr, binI_geq, binI_eql, binI_neq, Nat.reduceEqDiff, Nat.reduceAdd, Nat.reduceMul, Nat.reduceSub, Nat.reduceLeDiff, Nat.reduceLT, reduceIte, reduceCtorEq]))⟩⟩, _, _, rfl, ⟨_, rfl, rq3.mono (vws_in (H.length + 3) (L0 ++ L1) [] (by simp only [go_sem, binI_lss, binI_leq, binI_gtr, binI_geq, binI_eql, binI_neq, Nat.reduceEqDiff, Nat.reduceAdd, Nat.reduceMul, Nat.reduceSub, Nat.reduceLeDiff, Nat.reduceLT, reduceIte, reduceCtorEq]; try omega) (by omega) (by simp only [go_sem, binI_lss, binI_leq, binI_gtr, binI_geq, binI_eql, binI_neq, Nat.reduceEqDiff, Nat.reduceAdd, Nat.reduceMul, Nat.reduceSub, Nat.reduceLeDiff, Nat.reduceLT, reduceIte, reduceCtorEq]) (by simp only [go_sem, binI_lss, binI_leq, binI_gtr, binI_geq, binI_eql, binI_neq, Nat.reduceEqDiff, Nat.reduceAdd, Nat.reduceMul, Nat.reduceSub, Nat.reduceLeDiff, Nat.reduceLT, reduceIte, reduceCtorEq]))⟩, rfl⟩
def c_markRun : IFn := ⟨2, 18, [.t 4],
 .seq (.reg none [
    ⟨(some 2), none, .box (.t 0)⟩,
    ⟨(some 4), none, .mov (.c (.int .i64 0))⟩])
 (.seq (.reg none [
    ⟨(some 5), none, .fad 0 (.t 2)⟩,
    ⟨(some 6), none, .load false 1 (.t 5)⟩,
    ⟨(some 7), none, .mov (.t 1)⟩,
    ⟨(some 8), none, .call .n (.f 80) [(.t 6), (.t 7)]⟩,
    ⟨(some 1), none, .mov (.t 8)⟩])
 (.seq (.reg none [
    ⟨(some 9), none, .fad 1 (.t 2)⟩,
    ⟨(some 10), none, .load false 1 (.t 9)⟩,
    ⟨(some 11), none, .mov (.t 1)⟩,
    ⟨(some 12), none, .call .n (.f 81) [(.t 10), (.t 11)]⟩,
    ⟨(some 1), none, .mov (.t 12)⟩])
 (.seq (.reg none [
    ⟨(some 13), none, .fad 2 (.t 2)⟩,
    ⟨(some 14), none, .load false 1 (.t 13)⟩,
    ⟨(some 15), none, .mov (.t 1)⟩,
    ⟨(some 16), none, .call .n (.f 82) [(.t 14), (.t 15)]⟩,
    ⟨(some 1), none, .mov (.t 16)⟩])
 (.seq (.reg none [
    ⟨(some 17), none, .mov (.t 1)⟩,
    ⟨(some 4), none, .mov (.t 17)⟩])
 (.ret)))))⟩
def c_markPart : IFn := ⟨2, 14, [.t 4],
 .seq (.reg none [
    ⟨(some 2), none, .box (.t 0)⟩,
    ⟨(some 4), none, .mov (.c (.int .i64 0))⟩])
 (.seq (.reg none [
    ⟨(some 5), none, .fad 0 (.t 2)⟩,
    ⟨(some 6), none, .load true 3 (.t 5)⟩,
    ⟨(some 7), none, .mov (.t 1)⟩,
    ⟨(some 8), none, .call .n (.f 50) [(.t 6), (.t 7)]⟩,
    ⟨(some 1), none, .mov (.t 8)⟩])
 (.seq (.reg none [
    ⟨(some 9), none, .fad 3 (.t 2)⟩,
    ⟨(some 10), none, .load false 1 (.t 9)⟩,
    ⟨(some 11), none, .mov (.t 1)⟩,
    ⟨(some 12), none, .call .n (.f 51) [(.t 10), (.t 11)]⟩,
    ⟨(some 1), none, .mov (.t 12)⟩])
 (.seq (.reg none [
    ⟨(some 13), none, .mov (.t 1)⟩,
    ⟨(some 4), none, .mov (.t 13)⟩])
 (.ret))))⟩
def nI (l : List Int) : Nat := l.length * 1
def nP (l : List (Int × Int)) : Nat := l.length * 2
def nW (l : List (Int × Int × Int × Int × Int × Int × Int)) : Nat := l.length * 7
def nWW (l : List (List (Int × Int × Int × Int × Int × Int × Int))) : Nat := (l.map nW).sum
def nRun (a : List Int × List (Int × Int) × List (Int × Int)) : Nat := nI a.1 + nP a.2.1 + nP a.2.2
def nPart (a : (List Int × List (Int × Int) × List (Int × Int)) × List (List (Int × Int × Int × Int × Int × Int × Int)) × Bool) : Nat := nRun a.1 + nWW a.2.1
theorem sI : CoSim (Co.sl Co.int) nI := CoSim.int.len 1
theorem sP : CoSim (Co.sl Co.p2) nP := (CoSim.pair CoSim.int CoSim.int).len 2
theorem sW : CoSim (Co.sl Co.word) nW := (CoSim.pair CoSim.int (CoSim.pair CoSim.int (CoSim.pair CoSim.int (CoSim.pair CoSim.int (CoSim.pair CoSim.int (CoSim.pair CoSim.int CoSim.int)))))).len 7
theorem sWW : CoSim (Co.sl (Co.sl Co.word)) nWW := sW.sum
theorem sRun : CoSim Co.run nRun := (CoSim.pair sI (CoSim.pair sP sP)).comp (fun p => p.1 + p.2.1 + p.2.2)
theorem aiP : AllI Co.p2 := AllI.pair AllI.int AllI.int
theorem aiW : AllI Co.word := AllI.pair AllI.int (AllI.pair AllI.int (AllI.pair AllI.int (AllI.pair AllI.int (AllI.pair AllI.int (AllI.pair AllI.int AllI.int)))))
theorem markRun_ok {F : Nat → Option IFn} {f : Nat} (hf : F f = some c_markRun) (g0 : MkOk F (Co.sl Co.int) false 80 nI) (s0 : CoSim (Co.sl Co.int) nI) (g1 : MkOk F (Co.sl Co.p2) false 81 nP) (s1 : CoSim (Co.sl Co.p2) nP) (g2 : MkOk F (Co.sl Co.p2) false 82 nP) (s2 : CoSim (Co.sl Co.p2) nP) : MkOk F Co.run true f (fun a => nI a.1 + nP a.2.1 + nP a.2.2) := by
  rintro H v ⟨a0, a1, a2⟩ lo hi lo0 k ⟨cs, hc, _, _, rfl, ⟨v0, rfl, r0⟩, _, _, rfl, ⟨v1, rfl, r1⟩, ⟨v2, rfl, r2⟩⟩ hhi hlo hk hkn
  simp only [go_sem, binI_lss, binI_leq, binI_gtr, binI_geq, binI_eql, binI_neq, Nat.reduceEqDiff, Nat.reduceAdd, Nat.reduceMul, Nat.reduceSub, Nat.reduceLeDiff, Nat.reduceLT, reduceIte, reduceCtorEq, Option.some.injEq] at hc hkn
  subst hc
  have q0 := r0
  have q1 := r1
  have q2 := r2
  obtain ⟨_, x0⟩ := r0.shape
  subst x0
  obtain ⟨_, x1⟩ := r1.shape
  subst x1
  obtain ⟨_, x2⟩ := r2.shape
  subst x2
  suffices h : ∃ w H', NC F lo0 f [_, .int .i64 k] H w H' ∧ (w = .int .i64 (k + (((nI a0 + nP a1 + nP a2 : Nat)) : Int)) ∧ FrI lo hi H H') by
    obtain ⟨w, H', h1, rfl, h2⟩ := h
    exact ⟨H', h1, h2⟩
  refine NC.mk hf rfl ?_
  refine seq_reg ?_
  simp only [go_sem, binI_lss, binI_leq, binI_gtr, binI_geq, binI_eql, binI_neq, Nat.reduceEqDiff, Nat.reduceAdd, Nat.reduceMul, Nat.reduceSub, Nat.reduceLeDiff, Nat.reduceLT, reduceIte, reduceCtorEq]
  refine wpc_gen fun Hb hHb => ?_
  have hab : Ag 0 H.length H Hb := hHb ▸ ag_app _ _
  have hlb : Hb.length = H.length + 1 := by rw [hHb, List.length_append]; rfl
  have hbx := fun o n => hHb ▸ gc_new0 H _ o n
  simp only [go_sem, binI_lss, binI_leq, binI_gtr, binI_geq, binI_eql, binI_neq, Nat.reduceEqDiff, Nat.reduceAdd, Nat.reduceMul, Nat.reduceSub, Nat.reduceLeDiff, Nat.reduceLT, reduceIte, reduceCtorEq] at hbx
  have hsb : Sub (vwb lo hi H) (vwb lo hi Hb) := vwb_same fun b _ h => hab b (Nat.zero_le _) (by omega)
  have fr : FrI lo hi H Hb := hHb ▸ FrI.grow _ _
  have fr0 : FrI lo hi Hb Hb := FrI.refl _ _ _
  refine seq_reg ?_
  simp only [go_sem, binI_lss, binI_leq, binI_gtr, binI_geq, binI_eql, binI_neq, Nat.reduceEqDiff, Nat.reduceAdd, Nat.reduceMul, Nat.reduceSub, Nat.reduceLeDiff, Nat.reduceLT, reduceIte, reduceCtorEq, hbx]
  obtain ⟨d0, x0, y0⟩ := s0 _ _ _ _ a0 fr0.vsim (CsSim.refl _) (show (Co.sl Co.int).rd (vwb lo hi Hb) _ a0 from ⟨_, rfl, r0.mono hsb⟩)
  obtain ⟨H0, m0, f0⟩ := g0 Hb _ d0 lo hi lo0 (k) ⟨_, (by simp only [go_sem, binI_lss, binI_leq, binI_gtr, binI_geq, binI_eql, binI_neq, Nat.reduceEqDiff, Nat.reduceAdd, Nat.reduceMul, Nat.reduceSub, Nat.reduceLeDiff, Nat.reduceLT, reduceIte, reduceCtorEq]; rfl), x0⟩ (Nat.le_trans (by omega) fr0.1) hlo (by omega) (by rw [y0]; omega)
  rw [y0] at m0
  refine op_callN (by simp only [go_sem, binI_lss, binI_leq, binI_gtr, binI_geq, binI_eql, binI_neq, Nat.reduceEqDiff, Nat.reduceAdd, Nat.reduceMul, Nat.reduceSub, Nat.reduceLeDiff, Nat.reduceLT, reduceIte, reduceCtorEq]; exact m0) ?_
  simp only [go_sem, binI_lss, binI_leq, binI_gtr, binI_geq, binI_eql, binI_neq, Nat.reduceEqDiff, Nat.reduceAdd, Nat.reduceMul, Nat.reduceSub, Nat.reduceLeDiff, Nat.reduceLT, reduceIte, reduceCtorEq]
  have fr00 := fr0.trans f0
  refine seq_reg ?_
  simp only [go_sem, binI_lss, binI_leq, binI_gtr, binI_geq, binI_eql, binI_neq, Nat.reduceEqDiff, Nat.reduceAdd, Nat.reduceMul, Nat.reduceSub, Nat.reduceLeDiff, Nat.reduceLT, reduceIte, reduceCtorEq, hbx, fun o n => (fr00.gc (b := H.length) (by omega) (.inr hhi) o n).trans (hbx o n)]
  obtain ⟨d1, x1, y1⟩ := s1 _ _ _ _ a1 fr00.vsim (CsSim.refl _) (show (Co.sl Co.p2).rd (vwb lo hi Hb) _ a1 from ⟨_, rfl, r1.mono hsb⟩)
  obtain ⟨H1, m1, f1⟩ := g1 H0 _ d1 lo hi lo0 (k + (nI a0 : Nat)) ⟨_, (by simp only [go_sem, binI_lss, binI_leq, binI_gtr, binI_geq, binI_eql, binI_neq, Nat.reduceEqDiff, Nat.reduceAdd, Nat.reduceMul, Nat.reduceSub, Nat.reduceLeDiff, Nat.reduceLT, reduceIte, reduceCtorEq]; rfl), x1⟩ (Nat.le_trans (by omega) fr00.1) hlo (by omega) (by rw [y1]; omega)
  rw [y1] at m1
  refine op_callN (by simp only [go_sem, binI_lss, binI_leq, binI_gtr, binI_geq, binI_eql, binI_neq, Nat.reduceEqDiff, Nat.reduceAdd, Nat.reduceMul, Nat.reduceSub, Nat.reduceLeDiff, Nat.reduceLT, reduceIte, reduceCtorEq]; exact m1) ?_
  simp only [go_sem, binI_lss, binI_leq, binI_gtr, binI_geq, binI_eql, binI_neq, Nat.reduceEqDiff, Nat.reduceAdd, Nat.reduceMul, Nat.reduceSub, Nat.reduceLeDiff, Nat.reduceLT, reduceIte, reduceCtorEq]
  have fr11 := fr00.trans f1
  refine seq_reg ?_
  simp only [go_sem, binI_lss, binI_leq, binI_gtr, binI_geq, binI_eql, binI_neq, Nat.reduceEqDiff, Nat.reduceAdd, Nat.reduceMul, Nat.reduceSub, Nat.reduceLeDiff, Nat.reduceLT, reduceIte, reduceCtorEq, hbx, fun o n => (fr11.gc (b := H.length) (by omega) (.inr hhi) o n).trans (hbx o n)]
  obtain ⟨d2, x2, y2⟩ := s2 _ _ _ _ a2 fr11.vsim (CsSim.refl _) (show (Co.sl Co.p2).rd (vwb lo hi Hb) _ a2 from ⟨_, rfl, r2.mono hsb⟩)
  obtain ⟨H2, m2, f2⟩ := g2 H1 _ d2 lo hi lo0 (k + (nI a0 : Nat) + (nP a1 : Nat)) ⟨_, (by simp only [go_sem, binI_lss, binI_leq, binI_gtr, binI_geq, binI_eql, binI_neq, Nat.reduceEqDiff, Nat.reduceAdd, Nat.reduceMul, Nat.reduceSub, Nat.reduceLeDiff, Nat.reduceLT, reduceIte, reduceCtorEq]; rfl), x2⟩ (Nat.le_trans (by omega) fr11.1) hlo (by omega) (by rw [y2]; omega)
  rw [y2] at m2
  refine op_callN (by simp only [go_sem, binI_lss, binI_leq, binI_gtr, binI_geq, binI_eql, binI_neq, Nat.reduceEqDiff, Nat.reduceAdd, Nat.reduceMul, Nat.reduceSub, Nat.reduceLeDiff, Nat.reduceLT, reduceIte, reduceCtorEq]; exact m2) ?_
  simp only [go_sem, binI_lss, binI_leq, binI_gtr, binI_geq, binI_eql, binI_neq, Nat.reduceEqDiff, Nat.reduceAdd, Nat.reduceMul, Nat.reduceSub, Nat.reduceLeDiff, Nat.reduceLT, reduceIte, reduceCtorEq]
  have fr22 := fr11.trans f2
  refine seq_reg ?_
  simp only [go_sem, binI_lss, binI_leq, binI_gtr, binI_geq, binI_eql, binI_neq, Nat.reduceEqDiff, Nat.reduceAdd, Nat.reduceMul, Nat.reduceSub, Nat.reduceLeDiff, Nat.reduceLT, reduceIte, reduceCtorEq]
  refine wpc_ret ⟨Or.inr rfl, _, (by simp only [go_sem, binI_lss, binI_leq, binI_gtr, binI_geq, binI_eql, binI_neq, Nat.reduceEqDiff, Nat.reduceAdd, Nat.reduceMul, Nat.reduceSub, Nat.reduceLeDiff, Nat.reduceLT, reduceIte, reduceCtorEq]; rfl), ?_, fr.trans fr22⟩
  congr 1
  omega
theorem markPart_ok {F : Nat → Option IFn} {f : Nat} (hf : F f = some c_markPart) (g0 : MkOk F Co.run true 50 nRun) (s0 : CoSim Co.run nRun) (g1 : MkOk F (Co.sl (Co.sl Co.word)) false 51 nWW) (s1 : CoSim (Co.sl (Co.sl Co.word)) nWW) : MkOk F Co.part true f (fun a => nRun a.1 + nWW a.2.1) := by
  rintro H v ⟨⟨a0, a1, a2⟩, a3, a4⟩ lo hi lo0 k ⟨cs, hc, _, _, rfl, ⟨_, _, rfl, ⟨v0, rfl, r0⟩, _, _, rfl, ⟨v1, rfl, r1⟩, ⟨v2, rfl, r2⟩⟩, _, _, rfl, ⟨v3, rfl, r3⟩, rfl⟩ hhi hlo hk hkn
  simp only [go_sem, binI_lss, binI_leq, binI_gtr, binI_geq, binI_eql, binI_neq, Nat.reduceEqDiff, Nat.reduceAdd, Nat.reduceMul, Nat.reduceSub, Nat.reduceLeDiff, Nat.reduceLT, reduceIte, reduceCtorEq, Option.some.injEq] at hc hkn
  subst hc
  have q0 := r0
  have q1 := r1
  have q2 := r2
  have q3 := r3
  obtain ⟨_, x0⟩ := r0.shape
  subst x0
  obtain ⟨_, x1⟩ := r1.shape
  subst x1
  obtain ⟨_, x2⟩ := r2.shape
  subst x2
  obtain ⟨_, x3⟩ := r3.shape
  subst x3
  suffices h : ∃ w H', NC F lo0 f [_, .int .i64 k] H w H' ∧ (w = .int .i64 (k + (((nRun (a0, a1, a2) + nWW a3 : Nat)) : Int)) ∧ FrI lo hi H H') by
    obtain ⟨w, H', h1, rfl, h2⟩ := h
    exact ⟨H', h1, h2⟩
  refine NC.mk hf rfl ?_
  refine seq_reg ?_
  simp only [go_sem, binI_lss, binI_leq, binI_gtr, binI_geq, binI_eql, binI_neq, Nat.reduceEqDiff, Nat.reduceAdd, Nat.reduceMul, Nat.reduceSub, Nat.reduceLeDiff, Nat.reduceLT, reduceIte, reduceCtorEq]
  refine wpc_gen fun Hb hHb => ?_
  have hab : Ag 0 H.length H Hb := hHb ▸ ag_app _ _
  have hlb : Hb.length = H.length + 1 := by rw [hHb, List.length_append]; rfl
  have hbx := fun o n => hHb ▸ gc_new0 H _ o n
  simp only [go_sem, binI_lss, binI_leq, binI_gtr, binI_geq, binI_eql, binI_neq, Nat.reduceEqDiff, Nat.reduceAdd, Nat.reduceMul, Nat.reduceSub, Nat.reduceLeDiff, Nat.reduceLT, reduceIte, reduceCtorEq] at hbx
  have hsb : Sub (vwb lo hi H) (vwb lo hi Hb) := vwb_same fun b _ h => hab b (Nat.zero_le _) (by omega)
  have fr : FrI lo hi H Hb := hHb ▸ FrI.grow _ _
  have fr0 : FrI lo hi Hb Hb := FrI.refl _ _ _
  refine seq_reg ?_
  simp only [go_sem, binI_lss, binI_leq, binI_gtr, binI_geq, binI_eql, binI_neq, Nat.reduceEqDiff, Nat.reduceAdd, Nat.reduceMul, Nat.reduceSub, Nat.reduceLeDiff, Nat.reduceLT, reduceIte, reduceCtorEq, hbx]
  obtain ⟨d0, x0, y0⟩ := s0 _ _ _ _ (a0, a1, a2) fr0.vsim (CsSim.refl _) (show Co.run.rd (vwb lo hi Hb) _ (a0, a1, a2) from ⟨_, _, rfl, ⟨_, rfl, r0.mono hsb⟩, _, _, rfl, ⟨_, rfl, r1.mono hsb⟩, ⟨_, rfl, r2.mono hsb⟩⟩)
  obtain ⟨H0, m0, f0⟩ := g0 Hb _ d0 lo hi lo0 (k) ⟨_, (by simp only [go_sem, binI_lss, binI_leq, binI_gtr, binI_geq, binI_eql, binI_neq, Nat.reduceEqDiff, Nat.reduceAdd, Nat.reduceMul, Nat.reduceSub, Nat.reduceLeDiff, Nat.reduceLT, reduceIte, reduceCtorEq]; rfl), x0⟩ (Nat.le_trans (by omega) fr0.1) hlo (by omega) (by rw [y0]; omega)
  rw [y0] at m0
  refine op_callN (by simp only [go_sem, binI_lss, binI_leq, binI_gtr, binI_geq, binI_eql, binI_neq, Nat.reduceEqDiff, Nat.reduceAdd, Nat.reduceMul, Nat.reduceSub, Nat.reduceLeDiff, Nat.reduceLT, reduceIte, reduceCtorEq]; exact m0) ?_
  simp only [go_sem, binI_lss, binI_leq, binI_gtr, binI_geq, binI_eql, binI_neq, Nat.reduceEqDiff, Nat.reduceAdd, Nat.reduceMul, Nat.reduceSub, Nat.reduceLeDiff, Nat.reduceLT, reduceIte, reduceCtorEq]
  have fr00 := fr0.trans f0
  refine seq_reg ?_
  simp only [go_sem, binI_lss, binI_leq, binI_gtr, binI_geq, binI_eql, binI_neq, Nat.reduceEqDiff, Nat.reduceAdd, Nat.reduceMul, Nat.reduceSub, Nat.reduceLeDiff, Nat.reduceLT, reduceIte, reduceCtorEq, hbx, fun o n => (fr00.gc (b := H.length) (by omega) (.inr hhi) o n).trans (hbx o n)]
  obtain ⟨d1, x1, y1⟩ := s1 _ _ _ _ a3 fr00.vsim (CsSim.refl _) (show (Co.sl (Co.sl Co.word)).rd (vwb lo hi Hb) _ a3 from ⟨_, rfl, r3.mono hsb⟩)
  obtain ⟨H1, m1, f1⟩ := g1 H0 _ d1 lo hi lo0 (k + (nRun (a0, a1, a2) : Nat)) ⟨_, (by simp only [go_sem, binI_lss, binI_leq, binI_gtr, binI_geq, binI_eql, binI_neq, Nat.reduceEqDiff, Nat.reduceAdd, Nat.reduceMul, Nat.reduceSub, Nat.reduceLeDiff, Nat.reduceLT, reduceIte, reduceCtorEq]; rfl), x1⟩ (Nat.le_trans (by omega) fr00.1) hlo (by omega) (by rw [y1]; omega)
  rw [y1] at m1
  refine op_callN (by simp only [go_sem, binI_lss, binI_leq, binI_gtr, binI_geq, binI_eql, binI_neq, Nat.reduceEqDiff, Nat.reduceAdd, Nat.reduceMul, Nat.reduceSub, Nat.reduceLeDiff, Nat.reduceLT, reduceIte, reduceCtorEq]; exact m1) ?_
  simp only [go_sem, binI_lss, binI_leq, binI_gtr, binI_geq, binI_eql, binI_neq, Nat.reduceEqDiff, Nat.reduceAdd, Nat.reduceMul, Nat.reduceSub, Nat.reduceLeDiff, Nat.reduceLT, reduceIte, reduceCtorEq]
  have fr11 := fr00.trans f1
  refine seq_reg ?_
  simp only [go_sem, binI_lss, binI_leq, binI_gtr, binI_geq, binI_eql, binI_neq, Nat.reduceEqDiff, Nat.reduceAdd, Nat.reduceMul, Nat.reduceSub, Nat.reduceLeDiff, Nat.reduceLT, reduceIte, reduceCtorEq]
  refine wpc_ret ⟨Or.inr rfl, _, (by simp only [go_sem, binI_lss, binI_leq, binI_gtr, binI_geq, binI_eql, binI_neq, Nat.reduceEqDiff, Nat.reduceAdd, Nat.reduceMul, Nat.reduceSub, Nat.reduceLeDiff, Nat.reduceLT, reduceIte, reduceCtorEq]; rfl), ?_, fr.trans fr11⟩
  congr 1
  omega
def c_sView : IFn := ⟨2, 20, [.t 4],
 .seq (.reg none [
    ⟨(some 2), none, .box (.t 0)⟩,
    ⟨(some 4), none, .mov (.c (.slice none 0 0))⟩])
 (.seq (.seq (.reg none [
     ⟨(some 5), none, .mov (.t 1)⟩,
     ⟨(some 6), none, .fad 3 (.t 2)⟩,
     ⟨(some 7), none, .load false 1 (.t 6)⟩,
     ⟨(some 8), none, .len (.t 7)⟩,
     ⟨(some 9), none, .bin .sub (.t 8) (.c (.int .i64 1))⟩,
     ⟨(some 10), none, .call .q (.f 35) [(.t 5), (.c (.int .i64 0)), (.t 9)]⟩,
     ⟨(some 11), none, .un .not (.t 10)⟩])
  (.cond (.t 11) (.seq (.reg none [
      ⟨(some 12), none, .lit 7 87 0 [] []⟩,
      ⟨(some 4), none, .mov (.t 12)⟩])
   (.ret)) (.skip)))
 (.seq (.reg none [
    ⟨(some 13), none, .lit 7 87 0 [] []⟩,
    ⟨(some 14), none, .fad 3 (.t 2)⟩,
    ⟨(some 15), none, .load false 1 (.t 14)⟩,
    ⟨(some 16), none, .mov (.t 1)⟩,
    ⟨(some 17), none, .iad 1 (.t 15) (.t 16)⟩,
    ⟨(some 18), none, .load false 1 (.t 17)⟩,
    ⟨(some 19), none, .app 7 87 56 false (.t 13) (.t 18)⟩,
    ⟨(some 4), none, .mov (.t 19)⟩])
 (.ret)))⟩
def c_iView : IFn := ⟨2, 18, [.t 4],
 .seq (.reg none [
    ⟨(some 2), none, .box (.t 0)⟩,
    ⟨(some 4), none, .mov (.c (.slice none 0 0))⟩])
 (.seq (.seq (.reg none [
     ⟨(some 5), none, .mov (.t 1)⟩,
     ⟨(some 6), none, .fad 3 (.t 2)⟩,
     ⟨(some 7), none, .load false 1 (.t 6)⟩,
     ⟨(some 8), none, .len (.t 7)⟩,
     ⟨(some 9), none, .bin .sub (.t 8) (.c (.int .i64 1))⟩,
     ⟨(some 10), none, .call .q (.f 48) [(.t 5), (.c (.int .i64 0)), (.t 9)]⟩,
     ⟨(some 11), none, .un .not (.t 10)⟩])
  (.cond (.t 11) (.seq (.reg none [
      ⟨(some 4), none, .mov (.c (.slice none 0 0))⟩])
   (.ret)) (.skip)))
 (.seq (.reg none [
    ⟨(some 12), none, .fad 3 (.t 2)⟩,
    ⟨(some 13), none, .load false 1 (.t 12)⟩,
    ⟨(some 14), none, .mov (.t 1)⟩,
    ⟨(some 15), none, .iad 1 (.t 13) (.t 14)⟩,
    ⟨(some 16), none, .load false 1 (.t 15)⟩,
    ⟨(some 17), none, .app 7 87 56 false (.c (.slice none 0 0)) (.t 16)⟩,
    ⟨(some 4), none, .mov (.t 17)⟩])
 (.ret)))⟩
def viewL (a : (List Int × List (Int × Int) × List (Int × Int)) × List (List (Int × Int × Int × Int × Int × Int × Int)) × Bool) (x : Int) : List (Int × Int × Int × Int × Int × Int × Int) := if inB x 0 (a.2.1.length - 1) then (a.2.1[x.toNat]?).getD [] else []
def ViewOk (F : Nat → Option IFn) (f : Nat) : Prop := ∀ (H : Heap) (v : Value) a (x : Int), Rd Co.part true (vw 0 H) v a → Co.part.sm a → ∃ w H1, KC F f [v, .int .i64 x] H w H1 ∧ ∃ L, H1 = H ++ L ∧ SlR Co.word (vws H.length (H ++ L)) w (viewL a x)
theorem word_none {V V' : Vw} {cs : List Value} {a : Int × Int × Int × Int × Int × Int × Int} (h : Co.word.rd V cs a) : Co.word.rd V' cs a := h
theorem getCells_app {H L : Heap} {b o n : Nat} {cs : List Value} (h : getCells H b o n = some cs) : getCells (H ++ L) b o n = some cs := by
  unfold getCells at h ⊢
  split at h
  · rename_i k hk
    rw [List.getElem?_append_left (List.getElem?_eq_some_iff.1 hk).1, hk]
    exact h
  · cases h
theorem sView_ok {F : Nat → Option IFn} {f : Nat} (hf : F f = some c_sView) (gi : ∀ (H : Heap) (a b c : Int), QC F 35 [.int .i64 a, .int .i64 b, .int .i64 c] H (.bool (inB a b c))) : ViewOk F f := by
  rintro H v ⟨⟨a0, a1, a2⟩, a3, a4⟩ x ⟨cs, hc, _, _, rfl, ⟨_, _, rfl, ⟨v0, rfl, r0⟩, _, _, rfl, ⟨v1, rfl, r1⟩, ⟨v2, rfl, r2⟩⟩, _, _, rfl, ⟨v3, rfl, r3⟩, rfl⟩ ⟨_, ⟨hs1, hs2⟩, _⟩
  simp only [go_sem, binI_lss, binI_leq, binI_gtr, binI_geq, binI_eql, binI_neq, Nat.reduceEqDiff, Nat.reduceAdd, Nat.reduceMul, Nat.reduceSub, Nat.reduceLeDiff, Nat.reduceLT, reduceIte, reduceCtorEq, Option.some.injEq] at hc
  subst hc
  obtain ⟨_, x0⟩ := r0.shape
  subst x0
  obtain ⟨_, x1⟩ := r1.shape
  subst x1
  obtain ⟨_, x2⟩ := r2.shape
  subst x2
  obtain ⟨h0, a, rfl, h2⟩ := r3
  simp only at h0 hs1 hs2
  refine KC.mk hf rfl ?_
  refine seq_reg ?_
  simp only [go_sem, binI_lss, binI_leq, binI_gtr, binI_geq, binI_eql, binI_neq, Nat.reduceEqDiff, Nat.reduceAdd, Nat.reduceMul, Nat.reduceSub, Nat.reduceLeDiff, Nat.reduceLT, reduceIte, reduceCtorEq]
  refine seq_assoc (seq_reg ?_)
  simp only [go_sem, binI_lss, binI_leq, binI_gtr, binI_geq, binI_eql, binI_neq, Nat.reduceEqDiff, Nat.reduceAdd, Nat.reduceMul, Nat.reduceSub, Nat.reduceLeDiff, Nat.reduceLT, reduceIte, reduceCtorEq]
  rw [wrap_id (x := (a3.length : Int) - 1) (by omega) (by omega)]
  refine op_callQ (by simp only [go_sem, binI_lss, binI_leq, binI_gtr, binI_geq, binI_eql, binI_neq, Nat.reduceEqDiff, Nat.reduceAdd, Nat.reduceMul, Nat.reduceSub, Nat.reduceLeDiff, Nat.reduceLT, reduceIte, reduceCtorEq]; exact gi _ _ _ _) ?_
  simp only [go_sem, binI_lss, binI_leq, binI_gtr, binI_geq, binI_eql, binI_neq, Nat.reduceEqDiff, Nat.reduceAdd, Nat.reduceMul, Nat.reduceSub, Nat.reduceLeDiff, Nat.reduceLT, reduceIte, reduceCtorEq]
  have hvl : viewL ((a0, a1, a2), a3, a4) x = if inB x 0 ((a3.length : Int) - 1) then (a3[x.toNat]?).getD [] else [] := rfl
  rw [hvl]
  cases hx : inB x 0 ((a3.length : Int) - 1) with
  | false =>
    refine seq_cond (t := true) (by simp only [go_sem, binI_lss, binI_leq, binI_gtr, binI_geq, binI_eql, binI_neq, Nat.reduceEqDiff, Nat.reduceAdd, Nat.reduceMul, Nat.reduceSub, Nat.reduceLeDiff, Nat.reduceLT, reduceIte, reduceCtorEq]) ?_
    simp only [go_sem, binI_lss, binI_leq, binI_gtr, binI_geq, binI_eql, binI_neq, Nat.reduceEqDiff, Nat.reduceAdd, Nat.reduceMul, Nat.reduceSub, Nat.reduceLeDiff, Nat.reduceLT, reduceIte, reduceCtorEq]
    refine seq_assoc (seq_reg ?_)
    simp only [go_sem, binI_lss, binI_leq, binI_gtr, binI_geq, binI_eql, binI_neq, Nat.reduceEqDiff, Nat.reduceAdd, Nat.reduceMul, Nat.reduceSub, Nat.reduceLeDiff, Nat.reduceLT, reduceIte, reduceCtorEq]
    refine seq_ret ⟨Or.inr rfl, _, (by simp only [go_sem, binI_lss, binI_leq, binI_gtr, binI_geq, binI_eql, binI_neq, Nat.reduceEqDiff, Nat.reduceAdd, Nat.reduceMul, Nat.reduceSub, Nat.reduceLeDiff, Nat.reduceLT, reduceIte, reduceCtorEq]; rfl), _, rfl, ?_⟩
    exact ⟨Nat.zero_le _, _, rfl, .inl rfl⟩
  | true =>
    refine seq_cond (t := false) (by simp only [go_sem, binI_lss, binI_leq, binI_gtr, binI_geq, binI_eql, binI_neq, Nat.reduceEqDiff, Nat.reduceAdd, Nat.reduceMul, Nat.reduceSub, Nat.reduceLeDiff, Nat.reduceLT, reduceIte, reduceCtorEq]) ?_
    simp only [go_sem, binI_lss, binI_leq, binI_gtr, binI_geq, binI_eql, binI_neq, Nat.reduceEqDiff, Nat.reduceAdd, Nat.reduceMul, Nat.reduceSub, Nat.reduceLeDiff, Nat.reduceLT, reduceIte, reduceCtorEq]
    have hxb : 0 ≤ x ∧ x ≤ (a3.length : Int) - 1 := by simpa [inB] using hx
    have hil : x.toNat < a3.length := by omega
    obtain ⟨i, rfl⟩ : ∃ i : Nat, x = i := ⟨x.toNat, by omega⟩
    rcases h2 with h2 | ⟨b, o, rfl, h2⟩
    · have h2q : a3 = [] := h2
      rw [h2q] at hil; simp at hil
    simp only [Int.toNat_natCast] at hil
    obtain ⟨cs, h3, ⟨w, rfl, h4⟩⟩ := h2 i hil
    have h4 : SlR Co.word (vw 0 H) w a3[i] := h4
    have g3 := fun L => rng_gc (rng_sub (vw_app 0 H L) h3)
    simp only [Co.sl] at g3
    have hsm := hs2 a3[i] (List.getElem_mem _)
    obtain ⟨hsm1, _⟩ := hsm
    refine seq_skip (seq_reg ?_)
    simp only [go_sem, binI_lss, binI_leq, binI_gtr, binI_geq, binI_eql, binI_neq, Nat.reduceEqDiff, Nat.reduceAdd, Nat.reduceMul, Nat.reduceSub, Nat.reduceLeDiff, Nat.reduceLT, reduceIte, reduceCtorEq, g3, Int.toNat_natCast]
    refine ⟨⟨by omega, by omega⟩, ?_⟩
    simp only [go_sem, binI_lss, binI_leq, binI_gtr, binI_geq, binI_eql, binI_neq, Nat.reduceEqDiff, Nat.reduceAdd, Nat.reduceMul, Nat.reduceSub, Nat.reduceLeDiff, Nat.reduceLT, reduceIte, reduceCtorEq, hx, List.getElem?_eq_getElem hil, Option.getD_some]
    rcases List.eq_nil_or_concat a3[i] with hnil | hcons
    · rw [hnil] at h4 ⊢
      obtain ⟨_, a5, rfl, _⟩ := h4
      refine op_app_zero _ _ _ _ _ (by simp only [go_sem, binI_lss, binI_leq, binI_gtr, binI_geq, binI_eql, binI_neq, Nat.reduceEqDiff, Nat.reduceAdd, Nat.reduceMul, Nat.reduceSub, Nat.reduceLeDiff, Nat.reduceLT, reduceIte, reduceCtorEq]; rfl) (by simp only [go_sem, binI_lss, binI_leq, binI_gtr, binI_geq, binI_eql, binI_neq, Nat.reduceEqDiff, Nat.reduceAdd, Nat.reduceMul, Nat.reduceSub, Nat.reduceLeDiff, Nat.reduceLT, reduceIte, reduceCtorEq]; rfl) ?_
      simp only [go_sem, binI_lss, binI_leq, binI_gtr, binI_geq, binI_eql, binI_neq, Nat.reduceEqDiff, Nat.reduceAdd, Nat.reduceMul, Nat.reduceSub, Nat.reduceLeDiff, Nat.reduceLT, reduceIte, reduceCtorEq]
      refine wpc_ret ⟨Or.inr rfl, _, (by simp only [go_sem, binI_lss, binI_leq, binI_gtr, binI_geq, binI_eql, binI_neq, Nat.reduceEqDiff, Nat.reduceAdd, Nat.reduceMul, Nat.reduceSub, Nat.reduceLeDiff, Nat.reduceLT, reduceIte, reduceCtorEq]; rfl), _, rfl, ?_⟩
      exact ⟨Nat.zero_le _, _, rfl, .inl rfl⟩
    · have hne : a3[i] ≠ [] := by obtain ⟨l, c, hlc⟩ := hcons; rw [hlc]; simp
      obtain ⟨b5, o5, ys, rfl, hg, hyl, hye⟩ := sl_cells (w := 7) rfl h4 hne
      have hlen : a3[i].length ≠ 0 := fun h => hne (List.eq_nil_of_length_eq_zero h)
      have hg' := fun L => getCells_app (L := L) hg
      refine op_app _ _ _ _ _ (b := ⟨H.length + 1, 0, none⟩) (n := 0) (c := 0) (kb := ⟨[], 7, 87, true, true⟩) (by simp only [go_sem, binI_lss, binI_leq, binI_gtr, binI_geq, binI_eql, binI_neq, Nat.reduceEqDiff, Nat.reduceAdd, Nat.reduceMul, Nat.reduceSub, Nat.reduceLeDiff, Nat.reduceLT, reduceIte, reduceCtorEq]; rfl) (by simp only [go_sem, binI_lss, binI_leq, binI_gtr, binI_geq, binI_eql, binI_neq, Nat.reduceEqDiff, Nat.reduceAdd, Nat.reduceMul, Nat.reduceSub, Nat.reduceLeDiff, Nat.reduceLT, reduceIte, reduceCtorEq]; rfl) hlen (hg' _) (by simp only [go_sem, binI_lss, binI_leq, binI_gtr, binI_geq, binI_eql, binI_neq, Nat.reduceEqDiff, Nat.reduceAdd, Nat.reduceMul, Nat.reduceSub, Nat.reduceLeDiff, Nat.reduceLT, reduceIte, reduceCtorEq]) ⟨Nat.le_succ _, rfl, rfl, rfl, rfl, rfl, by omega, by omega⟩ ?_
      simp only [go_sem, binI_lss, binI_leq, binI_gtr, binI_geq, binI_eql, binI_neq, Nat.reduceEqDiff, Nat.reduceAdd, Nat.reduceMul, Nat.reduceSub, Nat.reduceLeDiff, Nat.reduceLT, reduceIte, reduceCtorEq]
      refine wpc_ret ⟨Or.inr rfl, _, (by simp only [go_sem, binI_lss, binI_leq, binI_gtr, binI_geq, binI_eql, binI_neq, Nat.reduceEqDiff, Nat.reduceAdd, Nat.reduceMul, Nat.reduceSub, Nat.reduceLeDiff, Nat.reduceLT, reduceIte, reduceCtorEq]; rfl), _, rfl, ?_⟩
      exact sl_at (A := Co.word) (w := 7) (k := 2) rfl (by simp only [go_sem, binI_lss, binI_leq, binI_gtr, binI_geq, binI_eql, binI_neq, Nat.reduceEqDiff, Nat.reduceAdd, Nat.reduceMul, Nat.reduceSub, Nat.reduceLeDiff, Nat.reduceLT, reduceIte, reduceCtorEq]; rfl) (Nat.le_refl _) hyl (by omega) (fun i hi => word_none (hye i hi))
theorem iView_ok {F : Nat → Option IFn} {f : Nat} (hf : F f = some c_iView) (gi : ∀ (H : Heap) (a b c : Int), QC F 48 [.int .i64 a, .int .i64 b, .int .i64 c] H (.bool (inB a b c))) : ViewOk F f := by
  rintro H v ⟨⟨a0, a1, a2⟩, a3, a4⟩ x ⟨cs, hc, _, _, rfl, ⟨_, _, rfl, ⟨v0, rfl, r0⟩, _, _, rfl, ⟨v1, rfl, r1⟩, ⟨v2, rfl, r2⟩⟩, _, _, rfl, ⟨v3, rfl, r3⟩, rfl⟩ ⟨_, ⟨hs1, hs2⟩, _⟩
  simp only [go_sem, binI_lss, binI_leq, binI_gtr, binI_geq, binI_eql, binI_neq, Nat.reduceEqDiff, Nat.reduceAdd, Nat.reduceMul, Nat.reduceSub, Nat.reduceLeDiff, Nat.reduceLT, reduceIte, reduceCtorEq, Option.some.injEq] at hc
  subst hc
  obtain ⟨_, x0⟩ := r0.shape
  subst x0
  obtain ⟨_, x1⟩ := r1.shape
  subst x1
  obtain ⟨_, x2⟩ := r2.shape
  subst x2
  obtain ⟨h0, a, rfl, h2⟩ := r3
  simp only at h0 hs1 hs2
  refine KC.mk hf rfl ?_
  refine seq_reg ?_
  simp only [go_sem, binI_lss, binI_leq, binI_gtr, binI_geq, binI_eql, binI_neq, Nat.reduceEqDiff, Nat.reduceAdd, Nat.reduceMul, Nat.reduceSub, Nat.reduceLeDiff, Nat.reduceLT, reduceIte, reduceCtorEq]
  refine seq_assoc (seq_reg ?_)
  simp only [go_sem, binI_lss, binI_leq, binI_gtr, binI_geq, binI_eql, binI_neq, Nat.reduceEqDiff, Nat.reduceAdd, Nat.reduceMul, Nat.reduceSub, Nat.reduceLeDiff, Nat.reduceLT, reduceIte, reduceCtorEq]
  rw [wrap_id (x := (a3.length : Int) - 1) (by omega) (by omega)]
  refine op_callQ (by simp only [go_sem, binI_lss, binI_leq, binI_gtr, binI_geq, binI_eql, binI_neq, Nat.reduceEqDiff, Nat.reduceAdd, Nat.reduceMul, Nat.reduceSub, Nat.reduceLeDiff, Nat.reduceLT, reduceIte, reduceCtorEq]; exact gi _ _ _ _) ?_
  simp only [go_sem, binI_lss, binI_leq, binI_gtr, binI_geq, binI_eql, binI_neq, Nat.reduceEqDiff, Nat.reduceAdd, Nat.reduceMul, Nat.reduceSub, Nat.reduceLeDiff, Nat.reduceLT, reduceIte, reduceCtorEq]
  have hvl : viewL ((a0, a1, a2), a3, a4) x = if inB x 0 ((a3.length : Int) - 1) then (a3[x.toNat]?).getD [] else [] := rfl
  rw [hvl]
  cases hx : inB x 0 ((a3.length : Int) - 1) with
  | false =>
    refine seq_cond (t := true) (by simp only [go_sem, binI_lss, binI_leq, binI_gtr, binI_geq, binI_eql, binI_neq, Nat.reduceEqDiff, Nat.reduceAdd, Nat.reduceMul, Nat.reduceSub, Nat.reduceLeDiff, Nat.reduceLT, reduceIte, reduceCtorEq]) ?_
    simp only [go_sem, binI_lss, binI_leq, binI_gtr, binI_geq, binI_eql, binI_neq, Nat.reduceEqDiff, Nat.reduceAdd, Nat.reduceMul, Nat.reduceSub, Nat.reduceLeDiff, Nat.reduceLT, reduceIte, reduceCtorEq]
    refine seq_assoc (seq_reg ?_)
    simp only [go_sem, binI_lss, binI_leq, binI_gtr, binI_geq, binI_eql, binI_neq, Nat.reduceEqDiff, Nat.reduceAdd, Nat.reduceMul, Nat.reduceSub, Nat.reduceLeDiff, Nat.reduceLT, reduceIte, reduceCtorEq]
    refine seq_ret ⟨Or.inr rfl, _, (by simp only [go_sem, binI_lss, binI_leq, binI_gtr, binI_geq, binI_eql, binI_neq, Nat.reduceEqDiff, Nat.reduceAdd, Nat.reduceMul, Nat.reduceSub, Nat.reduceLeDiff, Nat.reduceLT, reduceIte, reduceCtorEq]; rfl), _, rfl, ?_⟩
    exact ⟨Nat.zero_le _, _, rfl, .inl rfl⟩
  | true =>
    refine seq_cond (t := false) (by simp only [go_sem, binI_lss, binI_leq, binI_gtr, binI_geq, binI_eql, binI_neq, Nat.reduceEqDiff, Nat.reduceAdd, Nat.reduceMul, Nat.reduceSub, Nat.reduceLeDiff, Nat.reduceLT, reduceIte, reduceCtorEq]) ?_
    simp only [go_sem, binI_lss, binI_leq, binI_gtr, binI_geq, binI_eql, binI_neq, Nat.reduceEqDiff, Nat.reduceAdd, Nat.reduceMul, Nat.reduceSub, Nat.reduceLeDiff, Nat.reduceLT, reduceIte, reduceCtorEq]
    have hxb : 0 ≤ x ∧ x ≤ (a3.length : Int) - 1 := by simpa [inB] using hx
    have hil : x.toNat < a3.length := by omega
    obtain ⟨i, rfl⟩ : ∃ i : Nat, x = i := ⟨x.toNat, by omega⟩
    rcases h2 with h2 | ⟨b, o, rfl, h2⟩
    · have h2q : a3 = [] := h2
      rw [h2q] at hil; simp at hil
    simp only [Int.toNat_natCast] at hil
    obtain ⟨cs, h3, ⟨w, rfl, h4⟩⟩ := h2 i hil
    have h4 : SlR Co.word (vw 0 H) w a3[i] := h4
    have g3 := fun L => rng_gc (rng_sub (vw_app 0 H L) h3)
    simp only [Co.sl] at g3
    have hsm := hs2 a3[i] (List.getElem_mem _)
    obtain ⟨hsm1, _⟩ := hsm
    refine seq_skip (seq_reg ?_)
    simp only [go_sem, binI_lss, binI_leq, binI_gtr, binI_geq, binI_eql, binI_neq, Nat.reduceEqDiff, Nat.reduceAdd, Nat.reduceMul, Nat.reduceSub, Nat.reduceLeDiff, Nat.reduceLT, reduceIte, reduceCtorEq, g3, Int.toNat_natCast]
    refine ⟨⟨by omega, by omega⟩, ?_⟩
    simp only [go_sem, binI_lss, binI_leq, binI_gtr, binI_geq, binI_eql, binI_neq, Nat.reduceEqDiff, Nat.reduceAdd, Nat.reduceMul, Nat.reduceSub, Nat.reduceLeDiff, Nat.reduceLT, reduceIte, reduceCtorEq, hx, List.getElem?_eq_getElem hil, Option.getD_some]
    rcases List.eq_nil_or_concat a3[i] with hnil | hcons
    · rw [hnil] at h4 ⊢
      obtain ⟨_, a5, rfl, _⟩ := h4
      refine op_app_zero _ _ _ _ _ (by simp only [go_sem, binI_lss, binI_leq, binI_gtr, binI_geq, binI_eql, binI_neq, Nat.reduceEqDiff, Nat.reduceAdd, Nat.reduceMul, Nat.reduceSub, Nat.reduceLeDiff, Nat.reduceLT, reduceIte, reduceCtorEq]; rfl) (by simp only [go_sem, binI_lss, binI_leq, binI_gtr, binI_geq, binI_eql, binI_neq, Nat.reduceEqDiff, Nat.reduceAdd, Nat.reduceMul, Nat.reduceSub, Nat.reduceLeDiff, Nat.reduceLT, reduceIte, reduceCtorEq]; rfl) ?_
      simp only [go_sem, binI_lss, binI_leq, binI_gtr, binI_geq, binI_eql, binI_neq, Nat.reduceEqDiff, Nat.reduceAdd, Nat.reduceMul, Nat.reduceSub, Nat.reduceLeDiff, Nat.reduceLT, reduceIte, reduceCtorEq]
      refine wpc_ret ⟨Or.inr rfl, _, (by simp only [go_sem, binI_lss, binI_leq, binI_gtr, binI_geq, binI_eql, binI_neq, Nat.reduceEqDiff, Nat.reduceAdd, Nat.reduceMul, Nat.reduceSub, Nat.reduceLeDiff, Nat.reduceLT, reduceIte, reduceCtorEq]; rfl), _, rfl, ?_⟩
      exact ⟨Nat.zero_le _, _, rfl, .inl rfl⟩
    · have hne : a3[i] ≠ [] := by obtain ⟨l, c, hlc⟩ := hcons; rw [hlc]; simp
      obtain ⟨b5, o5, ys, rfl, hg, hyl, hye⟩ := sl_cells (w := 7) rfl h4 hne
      have hlen : a3[i].length ≠ 0 := fun h => hne (List.eq_nil_of_length_eq_zero h)
      have hg' := fun L => getCells_app (L := L) hg
      refine op_app_nil _ _ _ _ _ (by simp only [go_sem, binI_lss, binI_leq, binI_gtr, binI_geq, binI_eql, binI_neq, Nat.reduceEqDiff, Nat.reduceAdd, Nat.reduceMul, Nat.reduceSub, Nat.reduceLeDiff, Nat.reduceLT, reduceIte, reduceCtorEq]; rfl) (by simp only [go_sem, binI_lss, binI_leq, binI_gtr, binI_geq, binI_eql, binI_neq, Nat.reduceEqDiff, Nat.reduceAdd, Nat.reduceMul, Nat.reduceSub, Nat.reduceLeDiff, Nat.reduceLT, reduceIte, reduceCtorEq]; rfl) hlen (hg' _) (by omega) (by omega) ?_
      simp only [go_sem, binI_lss, binI_leq, binI_gtr, binI_geq, binI_eql, binI_neq, Nat.reduceEqDiff, Nat.reduceAdd, Nat.reduceMul, Nat.reduceSub, Nat.reduceLeDiff, Nat.reduceLT, reduceIte, reduceCtorEq]
      refine wpc_ret ⟨Or.inr rfl, _, (by simp only [go_sem, binI_lss, binI_leq, binI_gtr, binI_geq, binI_eql, binI_neq, Nat.reduceEqDiff, Nat.reduceAdd, Nat.reduceMul, Nat.reduceSub, Nat.reduceLeDiff, Nat.reduceLT, reduceIte, reduceCtorEq]; rfl), _, rfl, ?_⟩
      exact sl_at (A := Co.word) (w := 7) (k := 1) rfl (by simp only [go_sem, binI_lss, binI_leq, binI_gtr, binI_geq, binI_eql, binI_neq, Nat.reduceEqDiff, Nat.reduceAdd, Nat.reduceMul, Nat.reduceSub, Nat.reduceLeDiff, Nat.reduceLT, reduceIte, reduceCtorEq]; rfl) (Nat.le_refl _) hyl (by omega) (fun i hi => word_none (hye i hi))
end Go.Proofs.YtkdhdklggdbgdaaI
