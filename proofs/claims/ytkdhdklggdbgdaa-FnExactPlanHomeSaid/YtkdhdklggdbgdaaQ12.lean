/- Where a variable may be: the reference. -/
import Derived.Test.YtkdhdklggdbgdaaQ11
set_option linter.unusedVariables false
set_option linter.unusedSimpArgs false
namespace Go.Proofs.YtkdhdklggdbgdaaI
open Go Go.RowKit
attribute [local irreducible] optP wpo wpp wpc binI Kc Kp wpOp thenX
theorem sHome_ok {F : Nat → Option IFn} {f : Nat} (hf : F f = some c_sHome) (g0 : ProgOk F 32) (g1 : TrOk F 33) (g2 : ∀ (H : Heap) (n : Nat) (v : Value) (p : TProg n) (a : Int) (_ : Rd (Co.prog n) true (vw 0 H) v p), QC F 34 [v, .int .i64 a] H (.bool (varB p.1.length a))) (g3 : ∀ (H : Heap) (a b c : Int), QC F 35 [.int .i64 a, .int .i64 b, .int .i64 c] H (.bool (inB a b c)))
    (g4 : HasOk F 36) (g5 : WitOk F 37) (g6 : ByOk F 38) : HomeOk F f := by
  rintro H m u w ⟨p0, p1⟩ ts v h hp0 hsm hw
  obtain ⟨pc, hpc, _, _, rfl, ⟨v0, rfl, r0⟩, ⟨v1, rfl, r1⟩⟩ := hp0
  have hp : ∀ L, Rd (Co.prog m) true (vw 0 (H ++ L)) (.agg #[v0, v1]) (p0, p1) := fun L => ⟨_, rfl, _, _, rfl, ⟨_, rfl, r0.mono (vw_app 0 H L)⟩, ⟨_, rfl, r1.mono (vw_app 0 H L)⟩⟩
  simp only [go_sem, binI_lss, binI_leq, binI_gtr, binI_geq, binI_eql, binI_neq, Nat.reduceEqDiff, Nat.reduceAdd, Nat.reduceMul, Nat.reduceSub, Nat.reduceLeDiff, Nat.reduceLT, reduceIte, reduceCtorEq, Option.some.injEq] at hpc
  subst hpc
  obtain ⟨_, xw⟩ := hw.shape
  subst xw
  obtain ⟨_, x1⟩ := r1.shape
  subst x1
  by_cases hyes : progB m (p0, p1) = true ∧ varB p0.length v = true
  · obtain ⟨hP, hvar⟩ := hyes
    have hall : p0.all labB = true := by
      simp only [progB, Bool.and_eq_true] at hP; exact hP.1.1.2
    have hv : 0 ≤ v ∧ v ≤ (p0.length : Int) - 1 := inB_iff.1 hvar
    have hil : v.toNat < p0.length := by omega
    have r0d := r0
    obtain ⟨h0, a, rfl, h2⟩ := r0
    rcases h2 with h2 | ⟨b, o, hab, h2⟩
    · have h2q : p0 = [] := h2
      rw [h2q] at hil; simp at hil
    subst hab
    obtain ⟨cs, h3, h4⟩ := h2 v.toNat hil
    have hgd : p0.getD v.toNat (0, 0) = p0[v.toNat] := by simp [List.getD, hil]
    have hlab := List.all_eq_true.1 hall _ (List.getElem_mem hil)
    simp only at h3 h4 hlab hgd
    generalize p0[v.toNat] = y at h4 hlab hgd
    obtain ⟨y0, y1⟩ := y
    obtain ⟨_, _, rfl, ⟨rfl, b0⟩, ⟨rfl, b1⟩⟩ := h4
    simp only [labB, Bool.and_eq_true, inB_iff] at hlab
    have gr3 := fun L => rng_gc (rng_sub (vw_app 0 H L) h3)
    rw [show Co.p2.w = 2 from rfl] at gr3
    have g30 := fun L => gc_part (off := 0) (k := 1) (gr3 L) (by omega)
    have g31 := fun L => gc_part (off := 1) (k := 1) (gr3 L) (by omega)
    simp only [go_sem, binI_lss, binI_leq, binI_gtr, binI_geq, binI_eql, binI_neq, Nat.reduceEqDiff, Nat.reduceAdd, Nat.reduceMul, Nat.reduceSub, Nat.reduceLeDiff, Nat.reduceLT, reduceIte, reduceCtorEq] at g30 g31
    refine QC.mk hf rfl ?_
    repeat' (first
      | refine seq_assoc ?_
      | refine seq_reg ?_
      | refine seq_skip ?_
      | refine seq_regD ?_
      | refine seq_cond (t := true) rfl ?_
      | refine seq_cond (t := false) rfl ?_
      | refine wpc_cond (t := true) rfl ?_
      | refine wpc_cond (t := false) rfl ?_
      | refine seq_block ?_
      | refine wpc_block ?_
      | refine seq_ret ?_
      | refine wpc_ret ?_
      | refine wpc_reg ?_
      | refine wpc_regD ?_
      | refine wpc_skip ?_
      | refine fin_t rfl ?_
      | refine seq_exit ?_
      | refine wpc_exit ?_
      | refine ⟨⟨by omega, by omega⟩, ?_⟩
      | refine cmp_lss (fun _ => ?_) (fun _ => ?_)
      | refine cmp_leq (fun _ => ?_) (fun _ => ?_)
      | refine cmp_gtr (fun _ => ?_) (fun _ => ?_)
      | refine cmp_geq (fun _ => ?_) (fun _ => ?_)
      | refine cmp_eql (fun _ => ?_) (fun _ => ?_)
      | refine cmp_neq (fun _ => ?_) (fun _ => ?_)
      | (refine op_callB (by simp only [go_sem, Nat.reduceEqDiff, Nat.reduceAdd, Nat.reduceMul, Nat.reduceSub, Nat.reduceLeDiff, Nat.reduceLT, reduceIte, reduceCtorEq, out_n, out_r, out_e, thenX_n, thenX_r, thenX_e, g30, g31, Nat.add_zero]; exact g0 _ m _ (p0, p1) (hp _) hsm) (fun _ => ?_) (fun _ => ?_))
      | (refine op_callB (by simp only [go_sem, Nat.reduceEqDiff, Nat.reduceAdd, Nat.reduceMul, Nat.reduceSub, Nat.reduceLeDiff, Nat.reduceLT, reduceIte, reduceCtorEq, out_n, out_r, out_e, thenX_n, thenX_r, thenX_e, g30, g31, Nat.add_zero]; exact g1.dec _ _ _ (hw.mono (vw_app 0 H _))) (fun _ => ?_) (fun _ => ?_))
      | (refine op_callB (by simp only [go_sem, Nat.reduceEqDiff, Nat.reduceAdd, Nat.reduceMul, Nat.reduceSub, Nat.reduceLeDiff, Nat.reduceLT, reduceIte, reduceCtorEq, out_n, out_r, out_e, thenX_n, thenX_r, thenX_e, g30, g31, Nat.add_zero]; exact g2 _ m _ (p0, p1) _ (hp _)) (fun _ => ?_) (fun _ => ?_))
      | (refine op_callB (by simp only [go_sem, Nat.reduceEqDiff, Nat.reduceAdd, Nat.reduceMul, Nat.reduceSub, Nat.reduceLeDiff, Nat.reduceLT, reduceIte, reduceCtorEq, out_n, out_r, out_e, thenX_n, thenX_r, thenX_e, g30, g31, Nat.add_zero]; exact g3 _ _ _ _) (fun _ => ?_) (fun _ => ?_))
      | (refine op_callB (by simp only [go_sem, Nat.reduceEqDiff, Nat.reduceAdd, Nat.reduceMul, Nat.reduceSub, Nat.reduceLeDiff, Nat.reduceLT, reduceIte, reduceCtorEq, out_n, out_r, out_e, thenX_n, thenX_r, thenX_e, g30, g31, Nat.add_zero]; exact g4 _ _ _ hlab.1.1 hlab.1.2) (fun _ => ?_) (fun _ => ?_))
      | (refine op_callQ (by simp only [go_sem, Nat.reduceEqDiff, Nat.reduceAdd, Nat.reduceMul, Nat.reduceSub, Nat.reduceLeDiff, Nat.reduceLT, reduceIte, reduceCtorEq, out_n, out_r, out_e, thenX_n, thenX_r, thenX_e, g30, g31, Nat.add_zero]; exact g6 _ _ _ _ (hw.mono (vw_app 0 H _)) (trB_iff.1 (by assumption)) (inB_iff.1 ‹inB h 0 2 = true›).1 (inB_iff.1 ‹inB h 0 2 = true›).2) ?_)
      | (refine op_callB (by simp only [go_sem, Nat.reduceEqDiff, Nat.reduceAdd, Nat.reduceMul, Nat.reduceSub, Nat.reduceLeDiff, Nat.reduceLT, reduceIte, reduceCtorEq, out_n, out_r, out_e, thenX_n, thenX_r, thenX_e, g30, g31, Nat.add_zero]; exact g5 _ _ _ hlab.2.1 hlab.2.2 by_bd.1 by_bd.2) (fun _ => ?_) (fun _ => ?_))
      | simp only [go_sem, Nat.reduceEqDiff, Nat.reduceAdd, Nat.reduceMul, Nat.reduceSub, Nat.reduceLeDiff, Nat.reduceLT, reduceIte, reduceCtorEq, out_n, out_r, out_e, thenX_n, thenX_r, thenX_e, g30, g31, Nat.add_zero]
      )
    all_goals first | (refine ⟨congrArg _ ?_, rfl⟩; simp only [homeB, hgd, *]; done) | (refine ⟨congrArg _ ?_, rfl⟩; simp only [homeB, hgd, *]; rfl) | (refine ⟨congrArg _ ?_, rfl⟩; exfalso; simp_all)
  · obtain ⟨_, x0⟩ := r0.shape
    subst x0
    refine QC.mk hf rfl ?_
    repeat' (first
      | refine seq_assoc ?_
      | refine seq_reg ?_
      | refine seq_skip ?_
      | refine seq_regD ?_
      | refine seq_cond (t := true) rfl ?_
      | refine seq_cond (t := false) rfl ?_
      | refine wpc_cond (t := true) rfl ?_
      | refine wpc_cond (t := false) rfl ?_
      | refine seq_block ?_
      | refine wpc_block ?_
      | refine seq_ret ?_
      | refine wpc_ret ?_
      | refine wpc_reg ?_
      | refine wpc_regD ?_
      | refine wpc_skip ?_
      | refine fin_t rfl ?_
      | refine seq_exit ?_
      | refine wpc_exit ?_
      | refine cmp_lss (fun _ => ?_) (fun _ => ?_)
      | refine cmp_leq (fun _ => ?_) (fun _ => ?_)
      | refine cmp_gtr (fun _ => ?_) (fun _ => ?_)
      | refine cmp_geq (fun _ => ?_) (fun _ => ?_)
      | refine cmp_eql (fun _ => ?_) (fun _ => ?_)
      | refine cmp_neq (fun _ => ?_) (fun _ => ?_)
      | (refine op_callB (by simp only [go_sem, Nat.reduceEqDiff, Nat.reduceAdd, Nat.reduceMul, Nat.reduceSub, Nat.reduceLeDiff, Nat.reduceLT, reduceIte, reduceCtorEq, out_n, out_r, out_e, thenX_n, thenX_r, thenX_e]; exact g0 _ m _ (p0, p1) (hp _) hsm) (fun _ => ?_) (fun _ => ?_))
      | (refine op_callB (by simp only [go_sem, Nat.reduceEqDiff, Nat.reduceAdd, Nat.reduceMul, Nat.reduceSub, Nat.reduceLeDiff, Nat.reduceLT, reduceIte, reduceCtorEq, out_n, out_r, out_e, thenX_n, thenX_r, thenX_e]; exact g1.dec _ _ _ (hw.mono (vw_app 0 H _))) (fun _ => ?_) (fun _ => ?_))
      | (refine op_callB (by simp only [go_sem, Nat.reduceEqDiff, Nat.reduceAdd, Nat.reduceMul, Nat.reduceSub, Nat.reduceLeDiff, Nat.reduceLT, reduceIte, reduceCtorEq, out_n, out_r, out_e, thenX_n, thenX_r, thenX_e]; exact g2 _ m _ (p0, p1) _ (hp _)) (fun _ => ?_) (fun _ => ?_))
      | (refine op_callB (by simp only [go_sem, Nat.reduceEqDiff, Nat.reduceAdd, Nat.reduceMul, Nat.reduceSub, Nat.reduceLeDiff, Nat.reduceLT, reduceIte, reduceCtorEq, out_n, out_r, out_e, thenX_n, thenX_r, thenX_e]; exact g3 _ _ _ _) (fun _ => ?_) (fun _ => ?_))
      | simp only [go_sem, Nat.reduceEqDiff, Nat.reduceAdd, Nat.reduceMul, Nat.reduceSub, Nat.reduceLeDiff, Nat.reduceLT, reduceIte, reduceCtorEq, out_n, out_r, out_e, thenX_n, thenX_r, thenX_e]
      )
    all_goals first | (exact absurd ⟨by assumption, by assumption⟩ hyes) | (refine ⟨congrArg _ ?_, rfl⟩; simp only [homeB, *]; done) | (refine ⟨congrArg _ ?_, rfl⟩; simp only [homeB, *]; rfl)
end Go.Proofs.YtkdhdklggdbgdaaI
