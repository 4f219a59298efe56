/- Where a variable may be, told twice. -/
import Derived.Test.YtkdhdklggdbgdaaQ9
import Derived.Test.YtkdhdklggdbgdaaQ10
import Derived.Test.YtkdhdklggdbgdaaI17
set_option linter.unusedVariables false
set_option linter.unusedSimpArgs false
namespace Go.Proofs.YtkdhdklggdbgdaaI
open Go Go.RowKit
noncomputable def trB (ts : List Int) : Bool := @decide (trP ts) (Classical.propDecidable _)
theorem trB_iff {ts : List Int} : trB ts = true ↔ trP ts := by unfold trB; exact @decide_eq_true_iff _ (Classical.propDecidable _)
theorem TrOk.dec {F : Nat → Option IFn} {f : Nat} (h : TrOk F f) : ∀ (H : Heap) (u : Value) (ts : List Int), SlR Co.int (vw 0 H) u ts → QC F f [u] H (.bool (trB ts)) := by
  intro H u ts hu
  obtain ⟨b, h1, h2⟩ := h H u ts hu
  have : b = trB ts := by rw [Bool.eq_iff_iff, h2, trB_iff]
  exact this ▸ h1
attribute [local irreducible] optP wpo wpp wpc binI Kc Kp wpOp thenX
noncomputable def homeB (n : Nat) (p : TProg n) (ts : List Int) (v h : Int) : Bool := progB n p && trB ts && varB p.1.length v && inB h 0 2 && (hasB (p.1.getD v.toNat (0, 0)).1 h && witB (p.1.getD v.toNat (0, 0)).2 (byS ts h 3))
def HomeOk (F : Nat → Option IFn) (f : Nat) : Prop := ∀ (H : Heap) (n : Nat) (u w : Value) (p : TProg n) (ts : List Int) (v h : Int), Rd (Co.prog n) true (vw 0 H) u p → (Co.prog n).sm p → SlR Co.int (vw 0 H) w ts → QC F f [u, w, .int .i64 v, .int .i64 h] H (.bool (homeB n p ts v h))
theorem by_bd {ts : List Int} {h : Int} : 0 ≤ byS ts h 3 ∧ byS ts h 3 ≤ 7 := by
  have := byS_lt ts h 3
  have h2 : (2 : Int) ^ 3 = 8 := by decide
  omega
def c_sHome : IFn := ⟨4, 48, [.t 8],
 .seq (.reg none [
    ⟨(some 4), none, .box (.t 0)⟩,
    ⟨(some 8), none, .mov (.c (.bool false))⟩])
 (.seq (.seq (.reg none [
     ⟨(some 9), none, .load true 2 (.t 4)⟩,
     ⟨(some 10), none, .call .q (.f 32) [(.t 9)]⟩,
     ⟨(some 11), none, .un .not (.t 10)⟩,
     ⟨(some 12), none, .mov (.t 11)⟩,
     ⟨(some 13), (some (12, false)), .mov (.t 1)⟩,
     ⟨(some 14), (some (12, false)), .call .q (.f 33) [(.t 13)]⟩,
     ⟨(some 15), (some (12, false)), .un .not (.t 14)⟩,
     ⟨(some 16), none, .pick (.t 12) (.c (.bool true)) (.t 15)⟩,
     ⟨(some 17), none, .mov (.t 16)⟩,
     ⟨(some 18), (some (17, false)), .load true 2 (.t 4)⟩,
     ⟨(some 19), (some (17, false)), .mov (.t 2)⟩,
     ⟨(some 20), (some (17, false)), .call .q (.f 34) [(.t 18), (.t 19)]⟩,
     ⟨(some 21), (some (17, false)), .un .not (.t 20)⟩,
     ⟨(some 22), none, .pick (.t 17) (.c (.bool true)) (.t 21)⟩,
     ⟨(some 23), none, .mov (.t 22)⟩,
     ⟨(some 24), (some (23, false)), .mov (.t 3)⟩,
     ⟨(some 25), (some (23, false)), .call .q (.f 35) [(.t 24), (.c (.int .i64 0)), (.c (.int .i64 2))]⟩,
     ⟨(some 26), (some (23, false)), .un .not (.t 25)⟩,
     ⟨(some 27), none, .pick (.t 23) (.c (.bool true)) (.t 26)⟩])
  (.cond (.t 27) (.seq (.reg none [
      ⟨(some 8), none, .mov (.c (.bool false))⟩])
   (.ret)) (.skip)))
 (.seq (.reg (some 18) [
    ⟨(some 28), none, .fad 0 (.t 4)⟩,
    ⟨(some 29), none, .load false 1 (.t 28)⟩,
    ⟨(some 30), none, .mov (.t 2)⟩,
    ⟨(some 31), none, .iad 2 (.t 29) (.t 30)⟩,
    ⟨(some 32), none, .fad 0 (.t 31)⟩,
    ⟨(some 33), none, .load false 1 (.t 32)⟩,
    ⟨(some 34), none, .mov (.t 3)⟩,
    ⟨(some 35), none, .call .q (.f 36) [(.t 33), (.t 34)]⟩,
    ⟨(some 36), none, .mov (.t 35)⟩,
    ⟨(some 37), (some (36, true)), .fad 0 (.t 4)⟩,
    ⟨(some 38), (some (36, true)), .load false 1 (.t 37)⟩,
    ⟨(some 39), (some (36, true)), .mov (.t 2)⟩,
    ⟨(some 40), (some (36, true)), .iad 2 (.t 38) (.t 39)⟩,
    ⟨(some 41), (some (36, true)), .fad 1 (.t 40)⟩,
    ⟨(some 42), (some (36, true)), .load false 1 (.t 41)⟩,
    ⟨(some 43), (some (36, true)), .mov (.t 1)⟩,
    ⟨(some 44), (some (36, true)), .mov (.t 3)⟩,
    ⟨(some 45), (some (36, true)), .call .q (.f 38) [(.t 43), (.t 44)]⟩,
    ⟨(some 46), (some (36, true)), .call .q (.f 37) [(.t 42), (.t 45)]⟩,
    ⟨(some 47), none, .pick (.t 36) (.t 46) (.c (.bool false))⟩,
    ⟨(some 8), none, .mov (.t 47)⟩])
 (.ret)))⟩
def c_iPlanHome : IFn := ⟨4, 31, [.t 8],
 .seq (.reg none [
    ⟨(some 4), none, .box (.t 0)⟩,
    ⟨(some 8), none, .mov (.c (.bool false))⟩])
 (.seq (.reg none [
    ⟨(some 9), none, .load true 2 (.t 4)⟩,
    ⟨(some 10), none, .call .q (.f 41) [(.t 9)]⟩,
    ⟨(some 11), none, .mov (.t 10)⟩,
    ⟨(some 12), (some (11, true)), .mov (.t 1)⟩,
    ⟨(some 13), (some (11, true)), .call .q (.f 42) [(.t 12)]⟩,
    ⟨(some 14), none, .pick (.t 11) (.t 13) (.c (.bool false))⟩,
    ⟨(some 15), none, .mov (.t 14)⟩,
    ⟨(some 16), (some (15, true)), .load true 2 (.t 4)⟩,
    ⟨(some 17), (some (15, true)), .mov (.t 2)⟩,
    ⟨(some 18), (some (15, true)), .call .q (.f 43) [(.t 16), (.t 17)]⟩,
    ⟨(some 19), none, .pick (.t 15) (.t 18) (.c (.bool false))⟩,
    ⟨(some 20), none, .mov (.t 19)⟩,
    ⟨(some 21), (some (20, true)), .mov (.t 3)⟩,
    ⟨(some 22), (some (20, true)), .call .q (.f 44) [(.t 21)]⟩,
    ⟨(some 23), none, .pick (.t 20) (.t 22) (.c (.bool false))⟩,
    ⟨(some 24), none, .mov (.t 23)⟩,
    ⟨(some 25), (some (24, true)), .load true 2 (.t 4)⟩,
    ⟨(some 26), (some (24, true)), .mov (.t 1)⟩,
    ⟨(some 27), (some (24, true)), .mov (.t 2)⟩,
    ⟨(some 28), (some (24, true)), .mov (.t 3)⟩,
    ⟨(some 29), (some (24, true)), .call .q (.f 45) [(.t 25), (.t 26), (.t 27), (.t 28)]⟩,
    ⟨(some 30), none, .pick (.t 24) (.t 29) (.c (.bool false))⟩,
    ⟨(some 8), none, .mov (.t 30)⟩])
 (.ret))⟩
def c_iHomeM : IFn := ⟨4, 29, [.t 8],
 .seq (.reg none [
    ⟨(some 4), none, .box (.t 0)⟩,
    ⟨(some 8), none, .mov (.c (.bool false))⟩])
 (.seq (.reg (some 18) [
    ⟨(some 9), none, .fad 0 (.t 4)⟩,
    ⟨(some 10), none, .load false 1 (.t 9)⟩,
    ⟨(some 11), none, .mov (.t 2)⟩,
    ⟨(some 12), none, .iad 2 (.t 10) (.t 11)⟩,
    ⟨(some 13), none, .fad 0 (.t 12)⟩,
    ⟨(some 14), none, .load false 1 (.t 13)⟩,
    ⟨(some 15), none, .mov (.t 3)⟩,
    ⟨(some 16), none, .call .q (.f 75) [(.t 14), (.t 15)]⟩,
    ⟨(some 17), none, .mov (.t 16)⟩,
    ⟨(some 18), (some (17, true)), .fad 0 (.t 4)⟩,
    ⟨(some 19), (some (17, true)), .load false 1 (.t 18)⟩,
    ⟨(some 20), (some (17, true)), .mov (.t 2)⟩,
    ⟨(some 21), (some (17, true)), .iad 2 (.t 19) (.t 20)⟩,
    ⟨(some 22), (some (17, true)), .fad 1 (.t 21)⟩,
    ⟨(some 23), (some (17, true)), .load false 1 (.t 22)⟩,
    ⟨(some 24), (some (17, true)), .mov (.t 1)⟩,
    ⟨(some 25), (some (17, true)), .mov (.t 3)⟩,
    ⟨(some 26), (some (17, true)), .call .q (.f 77) [(.t 24), (.t 25)]⟩,
    ⟨(some 27), (some (17, true)), .call .q (.f 76) [(.t 23), (.t 26)]⟩,
    ⟨(some 28), none, .pick (.t 17) (.t 27) (.c (.bool false))⟩,
    ⟨(some 8), none, .mov (.t 28)⟩])
 (.ret))⟩
theorem iHomeM_ok {F : Nat → Option IFn} {f : Nat} (hf : F f = some c_iHomeM) (g0 : HasOk F 75) (g1 : WitOk F 76) (g2 : ByOk F 77) : ∀ (H : Heap) (n : Nat) (u w : Value) (p : TProg n) (ts : List Int) (v h : Int), Rd (Co.prog n) true (vw 0 H) u p → SlR Co.int (vw 0 H) w ts → p.1.all labB = true → varB p.1.length v = true → trP ts → inB h 0 2 = true →
    QC F f [u, w, .int .i64 v, .int .i64 h] H (.bool (hasB (p.1.getD v.toNat (0, 0)).1 h && witB (p.1.getD v.toNat (0, 0)).2 (byS ts h 3))) := by
  rintro H m u w ⟨p0, p1⟩ ts v h ⟨pc, hpc, _, _, rfl, ⟨v0, rfl, r0⟩, ⟨v1, rfl, r1⟩⟩ hw hall hvar htr hin
  simp only [go_sem, binI_lss, binI_leq, binI_gtr, binI_geq, binI_eql, binI_neq, Nat.reduceEqDiff, Nat.reduceAdd, Nat.reduceMul, Nat.reduceSub, Nat.reduceLeDiff, Nat.reduceLT, reduceIte, reduceCtorEq, Option.some.injEq] at hpc
  subst hpc
  obtain ⟨_, x1⟩ := r1.shape
  subst x1
  have hh := inB_iff.1 hin
  have hv : 0 ≤ v ∧ v ≤ (p0.length : Int) - 1 := inB_iff.1 hvar
  have hil : v.toNat < p0.length := by omega
  have r0d := r0
  obtain ⟨h0, a, rfl, h2⟩ := r0
  rcases h2 with h2 | ⟨b, o, hab, h2⟩
  · have h2q : p0 = [] := h2
    rw [h2q] at hil; simp at hil
  subst hab
  obtain ⟨cs, h3, h4⟩ := h2 v.toNat hil
  have hgd : p0.getD v.toNat (0, 0) = p0[v.toNat] := by simp [List.getD, hil]
  have hlab := List.all_eq_true.1 hall _ (List.getElem_mem hil)
  simp only at h3 h4 hlab hgd
  generalize p0[v.toNat] = y at h4 hlab hgd
  obtain ⟨y0, y1⟩ := y
  obtain ⟨_, _, rfl, ⟨rfl, b0⟩, ⟨rfl, b1⟩⟩ := h4
  simp only [labB, Bool.and_eq_true, inB_iff] at hlab
  have g3 := fun L => rng_gc (rng_sub (vw_app 0 H L) h3)
  rw [show Co.p2.w = 2 from rfl] at g3
  have g30 := fun L => gc_part (off := 0) (k := 1) (g3 L) (by omega)
  have g31 := fun L => gc_part (off := 1) (k := 1) (g3 L) (by omega)
  simp only [go_sem, binI_lss, binI_leq, binI_gtr, binI_geq, binI_eql, binI_neq, Nat.reduceEqDiff, Nat.reduceAdd, Nat.reduceMul, Nat.reduceSub, Nat.reduceLeDiff, Nat.reduceLT, reduceIte, reduceCtorEq] at g30 g31
  rw [hgd]
  obtain ⟨_, xw⟩ := hw.shape
  subst xw
  refine QC.mk hf rfl ?_
  repeat' (first
    | refine seq_assoc ?_
    | refine seq_reg ?_
    | refine seq_skip ?_
    | refine seq_regD ?_
    | refine seq_cond (t := true) rfl ?_
    | refine seq_cond (t := false) rfl ?_
    | refine wpc_cond (t := true) rfl ?_
    | refine wpc_cond (t := false) rfl ?_
    | refine seq_block ?_
    | refine wpc_block ?_
    | refine seq_ret ?_
    | refine wpc_ret ?_
    | refine wpc_reg ?_
    | refine wpc_regD ?_
    | refine wpc_skip ?_
    | refine fin_t rfl ?_
    | refine seq_exit ?_
    | refine wpc_exit ?_
    | refine ⟨⟨by omega, by omega⟩, ?_⟩
    | refine cmp_lss (fun _ => ?_) (fun _ => ?_)
    | refine cmp_leq (fun _ => ?_) (fun _ => ?_)
    | refine cmp_gtr (fun _ => ?_) (fun _ => ?_)
    | refine cmp_geq (fun _ => ?_) (fun _ => ?_)
    | refine cmp_eql (fun _ => ?_) (fun _ => ?_)
    | refine cmp_neq (fun _ => ?_) (fun _ => ?_)
    | (refine op_callB (by simp only [go_sem, Nat.reduceEqDiff, Nat.reduceAdd, Nat.reduceMul, Nat.reduceSub, Nat.reduceLeDiff, Nat.reduceLT, reduceIte, reduceCtorEq, out_n, out_r, out_e, thenX_n, thenX_r, thenX_e, g30, g31, Nat.add_zero]; exact g0 _ _ _ hlab.1.1 hlab.1.2) (fun _ => ?_) (fun _ => ?_))
    | (refine op_callQ (by simp only [go_sem, Nat.reduceEqDiff, Nat.reduceAdd, Nat.reduceMul, Nat.reduceSub, Nat.reduceLeDiff, Nat.reduceLT, reduceIte, reduceCtorEq, out_n, out_r, out_e, thenX_n, thenX_r, thenX_e, g30, g31, Nat.add_zero]; exact g2 _ _ _ _ (hw.mono (vw_app 0 H _)) htr hh.1 hh.2) ?_)
    | (refine op_callB (by simp only [go_sem, Nat.reduceEqDiff, Nat.reduceAdd, Nat.reduceMul, Nat.reduceSub, Nat.reduceLeDiff, Nat.reduceLT, reduceIte, reduceCtorEq, out_n, out_r, out_e, thenX_n, thenX_r, thenX_e, g30, g31, Nat.add_zero]; exact g1 _ _ _ hlab.2.1 hlab.2.2 by_bd.1 by_bd.2) (fun _ => ?_) (fun _ => ?_))
    | simp only [go_sem, Nat.reduceEqDiff, Nat.reduceAdd, Nat.reduceMul, Nat.reduceSub, Nat.reduceLeDiff, Nat.reduceLT, reduceIte, reduceCtorEq, out_n, out_r, out_e, thenX_n, thenX_r, thenX_e, g30, g31, Nat.add_zero]
    )
  all_goals (refine ⟨congrArg _ ?_, rfl⟩)
  all_goals simp [*]
theorem iPlanHome_ok {F : Nat → Option IFn} {f : Nat} (hf : F f = some c_iPlanHome) (g0 : ProgOk F 41) (g1 : TrOk F 42) (g2 : ∀ (H : Heap) (n : Nat) (v : Value) (p : TProg n) (a : Int) (_ : Rd (Co.prog n) true (vw 0 H) v p), QC F 43 [v, .int .i64 a] H (.bool (varB p.1.length a))) (g3 : ∀ (H : Heap) (a : Int), QC F 44 [.int .i64 a] H (.bool (inB a 0 2)))
    (g4 : ∀ (H : Heap) (n : Nat) (u w : Value) (p : TProg n) (ts : List Int) (v h : Int), Rd (Co.prog n) true (vw 0 H) u p → SlR Co.int (vw 0 H) w ts → p.1.all labB = true → varB p.1.length v = true → trP ts → inB h 0 2 = true →
      QC F 45 [u, w, .int .i64 v, .int .i64 h] H (.bool (hasB (p.1.getD v.toNat (0, 0)).1 h && witB (p.1.getD v.toNat (0, 0)).2 (byS ts h 3)))) : HomeOk F f := by
  rintro H m u w ⟨p0, p1⟩ ts v h hp0 hsm hw
  obtain ⟨pc, hpc, _, _, rfl, ⟨v0, rfl, r0⟩, ⟨v1, rfl, r1⟩⟩ := hp0
  have hp : ∀ L, Rd (Co.prog m) true (vw 0 (H ++ L)) (.agg #[v0, v1]) (p0, p1) := fun L => ⟨_, rfl, _, _, rfl, ⟨_, rfl, r0.mono (vw_app 0 H L)⟩, ⟨_, rfl, r1.mono (vw_app 0 H L)⟩⟩
  simp only [go_sem, binI_lss, binI_leq, binI_gtr, binI_geq, binI_eql, binI_neq, Nat.reduceEqDiff, Nat.reduceAdd, Nat.reduceMul, Nat.reduceSub, Nat.reduceLeDiff, Nat.reduceLT, reduceIte, reduceCtorEq, Option.some.injEq] at hpc
  subst hpc
  have r0c := r0
  have r1c := r1
  obtain ⟨_, x0⟩ := r0.shape
  subst x0
  obtain ⟨_, x1⟩ := r1.shape
  subst x1
  have hall : progB m (p0, p1) = true → p0.all labB = true := fun h => by
    simp only [progB, Bool.and_eq_true] at h; exact h.1.1.2
  obtain ⟨_, xw⟩ := hw.shape
  subst xw
  refine QC.mk hf rfl ?_
  repeat' (first
    | refine seq_assoc ?_
    | refine seq_reg ?_
    | refine seq_skip ?_
    | refine seq_regD ?_
    | refine seq_cond (t := true) rfl ?_
    | refine seq_cond (t := false) rfl ?_
    | refine wpc_cond (t := true) rfl ?_
    | refine wpc_cond (t := false) rfl ?_
    | refine seq_block ?_
    | refine wpc_block ?_
    | refine seq_ret ?_
    | refine wpc_ret ?_
    | refine wpc_reg ?_
    | refine wpc_regD ?_
    | refine wpc_skip ?_
    | refine fin_t rfl ?_
    | refine seq_exit ?_
    | refine wpc_exit ?_
    | refine cmp_lss (fun _ => ?_) (fun _ => ?_)
    | refine cmp_leq (fun _ => ?_) (fun _ => ?_)
    | refine cmp_gtr (fun _ => ?_) (fun _ => ?_)
    | refine cmp_geq (fun _ => ?_) (fun _ => ?_)
    | refine cmp_eql (fun _ => ?_) (fun _ => ?_)
    | refine cmp_neq (fun _ => ?_) (fun _ => ?_)
    | (refine op_callB (by simp only [go_sem, Nat.reduceEqDiff, Nat.reduceAdd, Nat.reduceMul, Nat.reduceSub, Nat.reduceLeDiff, Nat.reduceLT, reduceIte, reduceCtorEq, out_n, out_r, out_e, thenX_n, thenX_r, thenX_e]; exact g0 _ m _ (p0, p1) (hp _) hsm) (fun _ => ?_) (fun _ => ?_))
    | (refine op_callB (by simp only [go_sem, Nat.reduceEqDiff, Nat.reduceAdd, Nat.reduceMul, Nat.reduceSub, Nat.reduceLeDiff, Nat.reduceLT, reduceIte, reduceCtorEq, out_n, out_r, out_e, thenX_n, thenX_r, thenX_e]; exact g1.dec _ _ _ (hw.mono (vw_app 0 H _))) (fun _ => ?_) (fun _ => ?_))
    | (refine op_callB (by simp only [go_sem, Nat.reduceEqDiff, Nat.reduceAdd, Nat.reduceMul, Nat.reduceSub, Nat.reduceLeDiff, Nat.reduceLT, reduceIte, reduceCtorEq, out_n, out_r, out_e, thenX_n, thenX_r, thenX_e]; exact g2 _ m _ (p0, p1) _ (hp _)) (fun _ => ?_) (fun _ => ?_))
    | (refine op_callB (by simp only [go_sem, Nat.reduceEqDiff, Nat.reduceAdd, Nat.reduceMul, Nat.reduceSub, Nat.reduceLeDiff, Nat.reduceLT, reduceIte, reduceCtorEq, out_n, out_r, out_e, thenX_n, thenX_r, thenX_e]; exact g3 _ _) (fun _ => ?_) (fun _ => ?_))
    | (refine op_callB (by simp only [go_sem, Nat.reduceEqDiff, Nat.reduceAdd, Nat.reduceMul, Nat.reduceSub, Nat.reduceLeDiff, Nat.reduceLT, reduceIte, reduceCtorEq, out_n, out_r, out_e, thenX_n, thenX_r, thenX_e]; exact g4 _ m _ _ (p0, p1) ts _ _ (hp _) (hw.mono (vw_app 0 H _)) (hall (by assumption)) (by assumption) (trB_iff.1 (by assumption)) (by assumption)) (fun _ => ?_) (fun _ => ?_))
    | simp only [go_sem, Nat.reduceEqDiff, Nat.reduceAdd, Nat.reduceMul, Nat.reduceSub, Nat.reduceLeDiff, Nat.reduceLT, reduceIte, reduceCtorEq, out_n, out_r, out_e, thenX_n, thenX_r, thenX_e]
    )
  all_goals (refine ⟨congrArg _ ?_, rfl⟩)
  all_goals (simp only [homeB, *]; rfl)
end Go.Proofs.YtkdhdklggdbgdaaI
