/- Sets of hosts: who is in, and what lies in what. -/
import Derived.Test.YtkdhdklggdbgdaaQ2
set_option linter.unusedVariables false
set_option linter.unusedSimpArgs false
namespace Go.Proofs.YtkdhdklggdbgdaaI
open Go Go.RowKit
theorem shr_rule {k : IntKind} {x y : Int} {K : Value → Prop} (h0 : 0 ≤ y) (h : K (.int k (x.fdiv (2 ^ (min y.toNat k.bits))))) : optP (binI .shr k x y) K := by
  unfold optP binI
  simp only
  rw [if_neg (by omega)]
  exact h
theorem shl_rule {k : IntKind} {x y : Int} {K : Value → Prop} (h0 : 0 ≤ y) (h : K (.int k (k.wrap (x * 2 ^ (min y.toNat k.bits))))) : optP (binI .shl k x y) K := by
  unfold optP binI
  simp only
  rw [if_neg (by omega)]
  exact h
theorem rem_rule {k : IntKind} {x : Int} {K : Value → Prop} (h : K (.int k (x.tmod 2))) : optP (binI .rem k x 2) K := by
  unfold optP binI
  simpa using h
theorem and_rule {k : IntKind} {x y : Int} {K : Value → Prop} (h : K (.int k (k.wrap ((BitVec.ofInt k.bits x &&& BitVec.ofInt k.bits y).toNat : Nat)))) : optP (binI .and k x y) K := h
theorem or_rule {k : IntKind} {x y : Int} {K : Value → Prop} (h : K (.int k (k.wrap ((BitVec.ofInt k.bits x ||| BitVec.ofInt k.bits y).toNat : Nat)))) : optP (binI .or k x y) K := h
theorem andNot_rule {k : IntKind} {x y : Int} {K : Value → Prop} (h : K (.int k (k.wrap ((BitVec.ofInt k.bits x &&& ~~~ BitVec.ofInt k.bits y).toNat : Nat)))) : optP (binI .andNot k x y) K := h
attribute [local irreducible] optP wpo wpp wpc binI Kc Kp wpOp thenX
def hasB (s h : Int) : Bool := inB h 0 2 && decide ((s / 2 ^ h.toNat) % 2 = 1)
theorem has_and {s h : Int} (h1 : 0 ≤ s) (h2 : s ≤ 7) (h3 : 0 ≤ h) (h4 : h ≤ 2) : (IntKind.i64.wrap ((BitVec.ofInt 64 (s.fdiv (2 ^ (min h.toNat 64))) &&& BitVec.ofInt 64 1).toNat : Nat) = 1) ↔ hasB s h = true := by
  have hs : s = 0 ∨ s = 1 ∨ s = 2 ∨ s = 3 ∨ s = 4 ∨ s = 5 ∨ s = 6 ∨ s = 7 := by omega
  have hh : h = 0 ∨ h = 1 ∨ h = 2 := by omega
  rcases hs with rfl | rfl | rfl | rfl | rfl | rfl | rfl | rfl <;> rcases hh with rfl | rfl | rfl <;> decide
theorem has_rem {s h : Int} (h1 : 0 ≤ s) (h2 : s ≤ 7) (h3 : 0 ≤ h) (h4 : h ≤ 2) : ((s.fdiv (2 ^ (min h.toNat 64))).tmod 2 = 1) ↔ hasB s h = true := by
  have hs : s = 0 ∨ s = 1 ∨ s = 2 ∨ s = 3 ∨ s = 4 ∨ s = 5 ∨ s = 6 ∨ s = 7 := by omega
  have hh : h = 0 ∨ h = 1 ∨ h = 2 := by omega
  rcases hs with rfl | rfl | rfl | rfl | rfl | rfl | rfl | rfl <;> rcases hh with rfl | rfl | rfl <;> decide
def HasOk (F : Nat → Option IFn) (f : Nat) : Prop := ∀ (H : Heap) (s h : Int), 0 ≤ s → s ≤ 7 → QC F f [.int .i64 s, .int .i64 h] H (.bool (hasB s h))
theorem inB_iff {a l h : Int} : inB a l h = true ↔ l ≤ a ∧ a ≤ h := by simp [inB]
theorem hasB_in {s h : Int} (hh : hasB s h = true) : 0 ≤ h ∧ h ≤ 2 := by
  simp only [hasB, Bool.and_eq_true, inB_iff] at hh; exact hh.1
def c_iWithin : IFn := ⟨2, 9, [.t 4],
 .seq (.reg none [
    ⟨(some 4), none, .mov (.c (.bool false))⟩])
 (.seq (.reg none [
    ⟨(some 5), none, .mov (.t 0)⟩,
    ⟨(some 6), none, .mov (.t 1)⟩,
    ⟨(some 7), none, .bin .andNot (.t 5) (.t 6)⟩,
    ⟨(some 8), none, .bin .eql (.t 7) (.c (.int .i64 0))⟩,
    ⟨(some 4), none, .mov (.t 8)⟩])
 (.ret))⟩
def c_sWithin : IFn := ⟨2, 19, [.t 4],
 .seq (.reg none [
    ⟨(some 4), none, .mov (.c (.bool false))⟩])
 (.seq (.seq (.reg none [
     ⟨(some 5), none, .mov (.c (.int .i64 0))⟩])
  (.block 0 (.loop (.seq (.seq (.reg none [
        ⟨(some 6), none, .mov (.t 5)⟩,
        ⟨(some 7), none, .bin .lss (.t 6) (.c (.int .i64 3))⟩])
     (.cond (.t 7) (.skip) (.exit 0)))
    (.seq (.block 1 (.seq (.reg none [
         ⟨(some 10), none, .mov (.t 0)⟩,
         ⟨(some 11), none, .mov (.t 5)⟩,
         ⟨(some 12), none, .call .q (.f 36) [(.t 10), (.t 11)]⟩,
         ⟨(some 13), none, .mov (.t 12)⟩,
         ⟨(some 14), (some (13, true)), .mov (.t 1)⟩,
         ⟨(some 15), (some (13, true)), .mov (.t 5)⟩,
         ⟨(some 16), (some (13, true)), .call .q (.f 36) [(.t 14), (.t 15)]⟩,
         ⟨(some 17), (some (13, true)), .un .not (.t 16)⟩,
         ⟨(some 18), none, .pick (.t 13) (.t 17) (.c (.bool false))⟩])
      (.cond (.t 18) (.seq (.reg none [
          ⟨(some 4), none, .mov (.c (.bool false))⟩])
       (.ret)) (.skip))))
    (.reg none [
      ⟨(some 8), none, .mov (.t 5)⟩,
      ⟨(some 9), none, .bin .add (.t 8) (.c (.int .i64 1))⟩,
      ⟨(some 5), none, .mov (.t 9)⟩]))))))
 (.seq (.reg none [
    ⟨(some 4), none, .mov (.c (.bool true))⟩])
 (.ret)))⟩
theorem iHas_ok {F : Nat → Option IFn} {f : Nat} (hf : F f = some c_iHas) (g0 : ∀ (H : Heap) (a : Int), QC F 44 [.int .i64 a] H (.bool (inB a 0 2))) : HasOk F f := by
  intro H s h h1 h2
  refine QC.mk hf rfl ?_
  by_cases hh : 0 ≤ h ∧ h ≤ 2
  · obtain ⟨hh0, hh2⟩ := hh
    have hk := has_and h1 h2 hh0 hh2
    repeat' (first
      | refine seq_assoc ?_
      | refine seq_reg ?_
      | refine seq_skip ?_
      | refine seq_regD ?_
      | refine seq_cond (t := true) rfl ?_
      | refine seq_cond (t := false) rfl ?_
      | refine wpc_cond (t := true) rfl ?_
      | refine wpc_cond (t := false) rfl ?_
      | refine seq_block ?_
      | refine wpc_block ?_
      | refine seq_ret ?_
      | refine wpc_ret ?_
      | refine wpc_reg ?_
      | refine wpc_regD ?_
      | refine wpc_skip ?_
      | refine fin_t rfl ?_
      | refine seq_exit ?_
      | refine wpc_exit ?_
      | refine shr_rule (by omega) ?_
      | refine rem_rule ?_
      | refine and_rule ?_
      | refine or_rule ?_
      | refine andNot_rule ?_
      | refine shl_rule (by omega) ?_
      | refine cmp_lss (fun _ => ?_) (fun _ => ?_)
      | refine cmp_leq (fun _ => ?_) (fun _ => ?_)
      | refine cmp_gtr (fun _ => ?_) (fun _ => ?_)
      | refine cmp_geq (fun _ => ?_) (fun _ => ?_)
      | refine cmp_eql (fun _ => ?_) (fun _ => ?_)
      | refine cmp_neq (fun _ => ?_) (fun _ => ?_)
      | (refine op_callB (by simp only [go_sem, Nat.reduceEqDiff, Nat.reduceAdd, Nat.reduceMul, Nat.reduceSub, Nat.reduceLeDiff, Nat.reduceLT, reduceIte, reduceCtorEq, out_n, out_r, out_e, thenX_n, thenX_r, thenX_e, IntKind.bits]; exact g0 _ _) (fun _ => ?_) (fun _ => ?_))
      | simp only [go_sem, Nat.reduceEqDiff, Nat.reduceAdd, Nat.reduceMul, Nat.reduceSub, Nat.reduceLeDiff, Nat.reduceLT, reduceIte, reduceCtorEq, out_n, out_r, out_e, thenX_n, thenX_r, thenX_e, IntKind.bits]
      )
    all_goals refine ⟨congrArg _ ?_, rfl⟩
    all_goals first | (rename_i _ he; exact (hk.1 he).symm) | (rename_i _ he; symm; rw [Bool.eq_false_iff]; exact fun h' => he (hk.2 h')) | (rename_i he; exact absurd (inB_iff.2 ⟨hh0, hh2⟩) (by rw [he]; simp))
  · have hB : hasB s h = false := by rw [Bool.eq_false_iff]; exact fun h' => hh (hasB_in h')
    repeat' (first
      | refine seq_assoc ?_
      | refine seq_reg ?_
      | refine seq_skip ?_
      | refine seq_regD ?_
      | refine seq_cond (t := true) rfl ?_
      | refine seq_cond (t := false) rfl ?_
      | refine wpc_cond (t := true) rfl ?_
      | refine wpc_cond (t := false) rfl ?_
      | refine seq_block ?_
      | refine wpc_block ?_
      | refine seq_ret ?_
      | refine wpc_ret ?_
      | refine wpc_reg ?_
      | refine wpc_regD ?_
      | refine wpc_skip ?_
      | refine fin_t rfl ?_
      | refine seq_exit ?_
      | refine wpc_exit ?_
      | refine shr_rule (by first | omega | (have := inB_iff.1 ‹inB h 0 2 = true›; omega)) ?_
      | refine rem_rule ?_
      | refine and_rule ?_
      | refine or_rule ?_
      | refine andNot_rule ?_
      | refine shl_rule (by omega) ?_
      | refine cmp_lss (fun _ => ?_) (fun _ => ?_)
      | refine cmp_leq (fun _ => ?_) (fun _ => ?_)
      | refine cmp_gtr (fun _ => ?_) (fun _ => ?_)
      | refine cmp_geq (fun _ => ?_) (fun _ => ?_)
      | refine cmp_eql (fun _ => ?_) (fun _ => ?_)
      | refine cmp_neq (fun _ => ?_) (fun _ => ?_)
      | (refine op_callB (by simp only [go_sem, Nat.reduceEqDiff, Nat.reduceAdd, Nat.reduceMul, Nat.reduceSub, Nat.reduceLeDiff, Nat.reduceLT, reduceIte, reduceCtorEq, out_n, out_r, out_e, thenX_n, thenX_r, thenX_e, IntKind.bits]; exact g0 _ _) (fun _ => ?_) (fun _ => ?_))
      | simp only [go_sem, Nat.reduceEqDiff, Nat.reduceAdd, Nat.reduceMul, Nat.reduceSub, Nat.reduceLeDiff, Nat.reduceLT, reduceIte, reduceCtorEq, out_n, out_r, out_e, thenX_n, thenX_r, thenX_e, IntKind.bits]
      )
    all_goals refine ⟨congrArg _ ?_, rfl⟩
    all_goals first | (exact hB.symm) | (exact absurd (inB_iff.1 ‹inB h 0 2 = true›) hh)
theorem sHas_ok {F : Nat → Option IFn} {f : Nat} (hf : F f = some c_sHas) : HasOk F f := by
  intro H s h h1 h2
  refine QC.mk hf rfl ?_
  by_cases hh : 0 ≤ h ∧ h ≤ 2
  · obtain ⟨hh0, hh2⟩ := hh
    have hk := has_rem h1 h2 hh0 hh2
    repeat' (first
      | refine seq_assoc ?_
      | refine seq_reg ?_
      | refine seq_skip ?_
      | refine seq_regD ?_
      | refine seq_cond (t := true) rfl ?_
      | refine seq_cond (t := false) rfl ?_
      | refine wpc_cond (t := true) rfl ?_
      | refine wpc_cond (t := false) rfl ?_
      | refine seq_block ?_
      | refine wpc_block ?_
      | refine seq_ret ?_
      | refine wpc_ret ?_
      | refine wpc_reg ?_
      | refine wpc_regD ?_
      | refine wpc_skip ?_
      | refine fin_t rfl ?_
      | refine seq_exit ?_
      | refine wpc_exit ?_
      | refine shr_rule (by omega) ?_
      | refine rem_rule ?_
      | refine and_rule ?_
      | refine or_rule ?_
      | refine andNot_rule ?_
      | refine shl_rule (by omega) ?_
      | refine cmp_lss (fun _ => ?_) (fun _ => ?_)
      | refine cmp_leq (fun _ => ?_) (fun _ => ?_)
      | refine cmp_gtr (fun _ => ?_) (fun _ => ?_)
      | refine cmp_geq (fun _ => ?_) (fun _ => ?_)
      | refine cmp_eql (fun _ => ?_) (fun _ => ?_)
      | refine cmp_neq (fun _ => ?_) (fun _ => ?_)
      | simp only [go_sem, Nat.reduceEqDiff, Nat.reduceAdd, Nat.reduceMul, Nat.reduceSub, Nat.reduceLeDiff, Nat.reduceLT, reduceIte, reduceCtorEq, out_n, out_r, out_e, thenX_n, thenX_r, thenX_e, IntKind.bits]
      )
    all_goals refine ⟨congrArg _ ?_, rfl⟩
    all_goals first | (rename_i _ he; exact (hk.1 he).symm) | (rename_i _ he; symm; rw [Bool.eq_false_iff]; exact fun h' => he (hk.2 h')) | omega
  · have hB : hasB s h = false := by rw [Bool.eq_false_iff]; exact fun h' => hh (hasB_in h')
    repeat' (first
      | refine seq_assoc ?_
      | refine seq_reg ?_
      | refine seq_skip ?_
      | refine seq_regD ?_
      | refine seq_cond (t := true) rfl ?_
      | refine seq_cond (t := false) rfl ?_
      | refine wpc_cond (t := true) rfl ?_
      | refine wpc_cond (t := false) rfl ?_
      | refine seq_block ?_
      | refine wpc_block ?_
      | refine seq_ret ?_
      | refine wpc_ret ?_
      | refine wpc_reg ?_
      | refine wpc_regD ?_
      | refine wpc_skip ?_
      | refine fin_t rfl ?_
      | refine seq_exit ?_
      | refine wpc_exit ?_
      | refine shr_rule (by omega) ?_
      | refine rem_rule ?_
      | refine and_rule ?_
      | refine or_rule ?_
      | refine andNot_rule ?_
      | refine shl_rule (by omega) ?_
      | refine cmp_lss (fun _ => ?_) (fun _ => ?_)
      | refine cmp_leq (fun _ => ?_) (fun _ => ?_)
      | refine cmp_gtr (fun _ => ?_) (fun _ => ?_)
      | refine cmp_geq (fun _ => ?_) (fun _ => ?_)
      | refine cmp_eql (fun _ => ?_) (fun _ => ?_)
      | refine cmp_neq (fun _ => ?_) (fun _ => ?_)
      | simp only [go_sem, Nat.reduceEqDiff, Nat.reduceAdd, Nat.reduceMul, Nat.reduceSub, Nat.reduceLeDiff, Nat.reduceLT, reduceIte, reduceCtorEq, out_n, out_r, out_e, thenX_n, thenX_r, thenX_e, IntKind.bits]
      )
    all_goals refine ⟨congrArg _ ?_, rfl⟩
    all_goals first | (exact hB.symm) | omega
def witB (a b : Int) : Bool := !(hasB a 0 && !hasB b 0) && (!(hasB a 1 && !hasB b 1) && !(hasB a 2 && !hasB b 2))
theorem wit_andNot {a b : Int} (h1 : 0 ≤ a) (h2 : a ≤ 7) (h3 : 0 ≤ b) (h4 : b ≤ 7) : (IntKind.i64.wrap ((BitVec.ofInt 64 a &&& ~~~ BitVec.ofInt 64 b).toNat : Nat) = 0) ↔ witB a b = true := by
  have ha : a = 0 ∨ a = 1 ∨ a = 2 ∨ a = 3 ∨ a = 4 ∨ a = 5 ∨ a = 6 ∨ a = 7 := by omega
  have hb : b = 0 ∨ b = 1 ∨ b = 2 ∨ b = 3 ∨ b = 4 ∨ b = 5 ∨ b = 6 ∨ b = 7 := by omega
  rcases ha with rfl | rfl | rfl | rfl | rfl | rfl | rfl | rfl <;> rcases hb with rfl | rfl | rfl | rfl | rfl | rfl | rfl | rfl <;> decide
def WitOk (F : Nat → Option IFn) (f : Nat) : Prop := ∀ (H : Heap) (a b : Int), 0 ≤ a → a ≤ 7 → 0 ≤ b → b ≤ 7 → QC F f [.int .i64 a, .int .i64 b] H (.bool (witB a b))
theorem iWithin_ok {F : Nat → Option IFn} {f : Nat} (hf : F f = some c_iWithin) : WitOk F f := by
  intro H a b h1 h2 h3 h4
  refine QC.mk hf rfl ?_
  have hk := wit_andNot h1 h2 h3 h4
  repeat' (first
    | refine seq_assoc ?_
    | refine seq_reg ?_
    | refine seq_skip ?_
    | refine seq_regD ?_
    | refine seq_cond (t := true) rfl ?_
    | refine seq_cond (t := false) rfl ?_
    | refine wpc_cond (t := true) rfl ?_
    | refine wpc_cond (t := false) rfl ?_
    | refine seq_block ?_
    | refine wpc_block ?_
    | refine seq_ret ?_
    | refine wpc_ret ?_
    | refine wpc_reg ?_
    | refine wpc_regD ?_
    | refine wpc_skip ?_
    | refine fin_t rfl ?_
    | refine seq_exit ?_
    | refine wpc_exit ?_
    | refine shr_rule (by omega) ?_
    | refine rem_rule ?_
    | refine and_rule ?_
    | refine or_rule ?_
    | refine andNot_rule ?_
    | refine shl_rule (by omega) ?_
    | refine cmp_lss (fun _ => ?_) (fun _ => ?_)
    | refine cmp_leq (fun _ => ?_) (fun _ => ?_)
    | refine cmp_gtr (fun _ => ?_) (fun _ => ?_)
    | refine cmp_geq (fun _ => ?_) (fun _ => ?_)
    | refine cmp_eql (fun _ => ?_) (fun _ => ?_)
    | refine cmp_neq (fun _ => ?_) (fun _ => ?_)
    | simp only [go_sem, Nat.reduceEqDiff, Nat.reduceAdd, Nat.reduceMul, Nat.reduceSub, Nat.reduceLeDiff, Nat.reduceLT, reduceIte, reduceCtorEq, out_n, out_r, out_e, thenX_n, thenX_r, thenX_e, IntKind.bits]
    )
  all_goals refine ⟨congrArg _ ?_, rfl⟩
  all_goals first | (rename_i he; exact (hk.1 he).symm) | (rename_i he; symm; rw [Bool.eq_false_iff]; exact fun h' => he (hk.2 h'))
theorem w01 : IntKind.i64.wrap (0 + 1) = 1 := by decide
theorem w12 : IntKind.i64.wrap (1 + 1) = 2 := by decide
theorem w23 : IntKind.i64.wrap (2 + 1) = 3 := by decide
theorem sWithin_ok {F : Nat → Option IFn} {f : Nat} (hf : F f = some c_sWithin) (g0 : HasOk F 36) : WitOk F f := by
  intro H a b h1 h2 h3 h4
  refine QC.mk hf rfl ?_
  refine seq_reg ?_
  simp only [go_sem, binI_lss, binI_leq, binI_gtr, binI_geq, binI_eql, binI_neq, Nat.reduceEqDiff, Nat.reduceAdd, Nat.reduceMul, Nat.reduceSub, Nat.reduceLeDiff, Nat.reduceLT, reduceIte, reduceCtorEq]
  refine seq_assoc (seq_reg ?_)
  simp only [go_sem, binI_lss, binI_leq, binI_gtr, binI_geq, binI_eql, binI_neq, Nat.reduceEqDiff, Nat.reduceAdd, Nat.reduceMul, Nat.reduceSub, Nat.reduceLeDiff, Nat.reduceLT, reduceIte, reduceCtorEq]
  refine seq_block (wpc_loop ?_)
  suffices hl : ∀ (k i : Nat) (e : Env), i + k = 3 → e 0 = .int .i64 a → e 1 = .int .i64 b → e 5 = .int .i64 i → (∀ j : Nat, j < i → (hasB a j && !hasB b j) = false) → W F H.length _ e _ _ from
    hl 3 0 _ (by omega) (by simp only [go_sem, binI_lss, binI_leq, binI_gtr, binI_geq, binI_eql, binI_neq, Nat.reduceEqDiff, Nat.reduceAdd, Nat.reduceMul, Nat.reduceSub, Nat.reduceLeDiff, Nat.reduceLT, reduceIte, reduceCtorEq]) (by simp only [go_sem, binI_lss, binI_leq, binI_gtr, binI_geq, binI_eql, binI_neq, Nat.reduceEqDiff, Nat.reduceAdd, Nat.reduceMul, Nat.reduceSub, Nat.reduceLeDiff, Nat.reduceLT, reduceIte, reduceCtorEq]) (by simp only [go_sem, binI_lss, binI_leq, binI_gtr, binI_geq, binI_eql, binI_neq, Nat.reduceEqDiff, Nat.reduceAdd, Nat.reduceMul, Nat.reduceSub, Nat.reduceLeDiff, Nat.reduceLT, reduceIte, reduceCtorEq]; rfl) (fun j hj => by omega)
  intro k
  induction k with
  | zero =>
    intro i e hi e0 e1 e5 hj
    refine lp_step ?_
    refine seq_assoc (seq_reg ?_)
    simp only [go_sem, binI_lss, binI_leq, binI_gtr, binI_geq, binI_eql, binI_neq, Nat.reduceEqDiff, Nat.reduceAdd, Nat.reduceMul, Nat.reduceSub, Nat.reduceLeDiff, Nat.reduceLT, reduceIte, reduceCtorEq, e5]
    refine seq_cond (t := false) (by simp only [go_sem, binI_lss, binI_leq, binI_gtr, binI_geq, binI_eql, binI_neq, Nat.reduceEqDiff, Nat.reduceAdd, Nat.reduceMul, Nat.reduceSub, Nat.reduceLeDiff, Nat.reduceLT, reduceIte, reduceCtorEq]; rw [decide_eq_false (by omega)]) ?_
    simp only [go_sem, binI_lss, binI_leq, binI_gtr, binI_geq, binI_eql, binI_neq, Nat.reduceEqDiff, Nat.reduceAdd, Nat.reduceMul, Nat.reduceSub, Nat.reduceLeDiff, Nat.reduceLT, reduceIte, reduceCtorEq]
    refine seq_exit ?_
    simp only [go_sem, binI_lss, binI_leq, binI_gtr, binI_geq, binI_eql, binI_neq, Nat.reduceEqDiff, Nat.reduceAdd, Nat.reduceMul, Nat.reduceSub, Nat.reduceLeDiff, Nat.reduceLT, reduceIte, reduceCtorEq, thenX_e, out_e, thenX_n]
    refine seq_reg ?_
    simp only [go_sem, binI_lss, binI_leq, binI_gtr, binI_geq, binI_eql, binI_neq, Nat.reduceEqDiff, Nat.reduceAdd, Nat.reduceMul, Nat.reduceSub, Nat.reduceLeDiff, Nat.reduceLT, reduceIte, reduceCtorEq]
    refine wpc_ret ⟨Or.inr rfl, .bool true, by simp only [go_sem, binI_lss, binI_leq, binI_gtr, binI_geq, binI_eql, binI_neq, Nat.reduceEqDiff, Nat.reduceAdd, Nat.reduceMul, Nat.reduceSub, Nat.reduceLeDiff, Nat.reduceLT, reduceIte, reduceCtorEq], ?_, rfl⟩
    have j0 := hj 0 (by omega)
    have j1 := hj 1 (by omega)
    have j2 := hj 2 (by omega)
    simp only [witB]
    rw [show hasB a 0 = hasB a ((0 : Nat) : Int) from rfl, show hasB b 0 = hasB b ((0 : Nat) : Int) from rfl, show hasB a 1 = hasB a ((1 : Nat) : Int) from rfl, show hasB b 1 = hasB b ((1 : Nat) : Int) from rfl, show hasB a 2 = hasB a ((2 : Nat) : Int) from rfl, show hasB b 2 = hasB b ((2 : Nat) : Int) from rfl, j0, j1, j2]
    rfl
  | succ k ih =>
    intro i e hi e0 e1 e5 hj
    have hw1 : IntKind.i64.wrap ((i : Int) + 1) = ((i + 1 : Nat) : Int) := by rw [wrap_id (by omega) (by omega)]; omega
    have go : (hasB a i && !hasB b i) = false → ∀ j : Nat, j < i + 1 → (hasB a j && !hasB b j) = false := fun h j hji => by
      by_cases hjj : j = i
      · subst hjj; exact h
      · exact hj j (by omega)
    refine lp_step ?_
    refine seq_assoc (seq_reg ?_)
    simp only [go_sem, binI_lss, binI_leq, binI_gtr, binI_geq, binI_eql, binI_neq, Nat.reduceEqDiff, Nat.reduceAdd, Nat.reduceMul, Nat.reduceSub, Nat.reduceLeDiff, Nat.reduceLT, reduceIte, reduceCtorEq, e5]
    refine seq_cond (t := true) (by simp only [go_sem, binI_lss, binI_leq, binI_gtr, binI_geq, binI_eql, binI_neq, Nat.reduceEqDiff, Nat.reduceAdd, Nat.reduceMul, Nat.reduceSub, Nat.reduceLeDiff, Nat.reduceLT, reduceIte, reduceCtorEq]; rw [decide_eq_true (by omega)]) ?_
    simp only [go_sem, binI_lss, binI_leq, binI_gtr, binI_geq, binI_eql, binI_neq, Nat.reduceEqDiff, Nat.reduceAdd, Nat.reduceMul, Nat.reduceSub, Nat.reduceLeDiff, Nat.reduceLT, reduceIte, reduceCtorEq]
    refine seq_skip (seq_block (seq_reg ?_))
    simp only [go_sem, binI_lss, binI_leq, binI_gtr, binI_geq, binI_eql, binI_neq, Nat.reduceEqDiff, Nat.reduceAdd, Nat.reduceMul, Nat.reduceSub, Nat.reduceLeDiff, Nat.reduceLT, reduceIte, reduceCtorEq, e0, e1, e5]
    refine op_callB (by simp only [go_sem, binI_lss, binI_leq, binI_gtr, binI_geq, binI_eql, binI_neq, Nat.reduceEqDiff, Nat.reduceAdd, Nat.reduceMul, Nat.reduceSub, Nat.reduceLeDiff, Nat.reduceLT, reduceIte, reduceCtorEq, e0, e5]; exact g0 _ _ _ h1 h2) (fun hb => ?_) (fun hb => ?_)
    · simp only [go_sem, binI_lss, binI_leq, binI_gtr, binI_geq, binI_eql, binI_neq, Nat.reduceEqDiff, Nat.reduceAdd, Nat.reduceMul, Nat.reduceSub, Nat.reduceLeDiff, Nat.reduceLT, reduceIte, reduceCtorEq, e0, e1, e5]
      refine op_callB (by simp only [go_sem, binI_lss, binI_leq, binI_gtr, binI_geq, binI_eql, binI_neq, Nat.reduceEqDiff, Nat.reduceAdd, Nat.reduceMul, Nat.reduceSub, Nat.reduceLeDiff, Nat.reduceLT, reduceIte, reduceCtorEq, e1, e5]; exact g0 _ _ _ h3 h4) (fun hc => ?_) (fun hc => ?_)
      · simp only [go_sem, binI_lss, binI_leq, binI_gtr, binI_geq, binI_eql, binI_neq, Nat.reduceEqDiff, Nat.reduceAdd, Nat.reduceMul, Nat.reduceSub, Nat.reduceLeDiff, Nat.reduceLT, reduceIte, reduceCtorEq]
        refine wpc_cond (t := false) (by simp only [go_sem, binI_lss, binI_leq, binI_gtr, binI_geq, binI_eql, binI_neq, Nat.reduceEqDiff, Nat.reduceAdd, Nat.reduceMul, Nat.reduceSub, Nat.reduceLeDiff, Nat.reduceLT, reduceIte, reduceCtorEq]) ?_
        simp only [go_sem, binI_lss, binI_leq, binI_gtr, binI_geq, binI_eql, binI_neq, Nat.reduceEqDiff, Nat.reduceAdd, Nat.reduceMul, Nat.reduceSub, Nat.reduceLeDiff, Nat.reduceLT, reduceIte, reduceCtorEq]
        refine wpc_skip ?_
        simp only [go_sem, binI_lss, binI_leq, binI_gtr, binI_geq, binI_eql, binI_neq, Nat.reduceEqDiff, Nat.reduceAdd, Nat.reduceMul, Nat.reduceSub, Nat.reduceLeDiff, Nat.reduceLT, reduceIte, reduceCtorEq, out_n, thenX_n]
        refine wpc_reg ?_
        simp only [go_sem, binI_lss, binI_leq, binI_gtr, binI_geq, binI_eql, binI_neq, Nat.reduceEqDiff, Nat.reduceAdd, Nat.reduceMul, Nat.reduceSub, Nat.reduceLeDiff, Nat.reduceLT, reduceIte, reduceCtorEq, e5, hw1, thenX_n]
        have hgo := go (by rw [hb, hc]; rfl)
        refine ih (i + 1) _ (by omega) ?_ ?_ ?_ hgo
        · simp only [go_sem, binI_lss, binI_leq, binI_gtr, binI_geq, binI_eql, binI_neq, Nat.reduceEqDiff, Nat.reduceAdd, Nat.reduceMul, Nat.reduceSub, Nat.reduceLeDiff, Nat.reduceLT, reduceIte, reduceCtorEq, e0]
        · simp only [go_sem, binI_lss, binI_leq, binI_gtr, binI_geq, binI_eql, binI_neq, Nat.reduceEqDiff, Nat.reduceAdd, Nat.reduceMul, Nat.reduceSub, Nat.reduceLeDiff, Nat.reduceLT, reduceIte, reduceCtorEq, e1]
        · simp only [go_sem, binI_lss, binI_leq, binI_gtr, binI_geq, binI_eql, binI_neq, Nat.reduceEqDiff, Nat.reduceAdd, Nat.reduceMul, Nat.reduceSub, Nat.reduceLeDiff, Nat.reduceLT, reduceIte, reduceCtorEq]
      · simp only [go_sem, binI_lss, binI_leq, binI_gtr, binI_geq, binI_eql, binI_neq, Nat.reduceEqDiff, Nat.reduceAdd, Nat.reduceMul, Nat.reduceSub, Nat.reduceLeDiff, Nat.reduceLT, reduceIte, reduceCtorEq]
        refine wpc_cond (t := true) (by simp only [go_sem, binI_lss, binI_leq, binI_gtr, binI_geq, binI_eql, binI_neq, Nat.reduceEqDiff, Nat.reduceAdd, Nat.reduceMul, Nat.reduceSub, Nat.reduceLeDiff, Nat.reduceLT, reduceIte, reduceCtorEq]) ?_
        simp only [go_sem, binI_lss, binI_leq, binI_gtr, binI_geq, binI_eql, binI_neq, Nat.reduceEqDiff, Nat.reduceAdd, Nat.reduceMul, Nat.reduceSub, Nat.reduceLeDiff, Nat.reduceLT, reduceIte, reduceCtorEq]
        refine seq_reg ?_
        simp only [go_sem, binI_lss, binI_leq, binI_gtr, binI_geq, binI_eql, binI_neq, Nat.reduceEqDiff, Nat.reduceAdd, Nat.reduceMul, Nat.reduceSub, Nat.reduceLeDiff, Nat.reduceLT, reduceIte, reduceCtorEq]
        refine wpc_ret ?_
        simp only [go_sem, binI_lss, binI_leq, binI_gtr, binI_geq, binI_eql, binI_neq, Nat.reduceEqDiff, Nat.reduceAdd, Nat.reduceMul, Nat.reduceSub, Nat.reduceLeDiff, Nat.reduceLT, reduceIte, reduceCtorEq, out_r, thenX_r]
        refine ⟨Or.inr rfl, .bool false, by simp only [go_sem, binI_lss, binI_leq, binI_gtr, binI_geq, binI_eql, binI_neq, Nat.reduceEqDiff, Nat.reduceAdd, Nat.reduceMul, Nat.reduceSub, Nat.reduceLeDiff, Nat.reduceLT, reduceIte, reduceCtorEq], ?_, rfl⟩
        have hi3 : i = 0 ∨ i = 1 ∨ i = 2 := by omega
        rcases hi3 with rfl | rfl | rfl
        · have hb' : hasB a 0 = true := hb
          have hc' : hasB b 0 = false := hc
          simp [witB, hb', hc']
        · have hb' : hasB a 1 = true := hb
          have hc' : hasB b 1 = false := hc
          simp [witB, hb', hc']
        · have hb' : hasB a 2 = true := hb
          have hc' : hasB b 2 = false := hc
          simp [witB, hb', hc']
    · simp only [go_sem, binI_lss, binI_leq, binI_gtr, binI_geq, binI_eql, binI_neq, Nat.reduceEqDiff, Nat.reduceAdd, Nat.reduceMul, Nat.reduceSub, Nat.reduceLeDiff, Nat.reduceLT, reduceIte, reduceCtorEq]
      refine wpc_cond (t := false) (by simp only [go_sem, binI_lss, binI_leq, binI_gtr, binI_geq, binI_eql, binI_neq, Nat.reduceEqDiff, Nat.reduceAdd, Nat.reduceMul, Nat.reduceSub, Nat.reduceLeDiff, Nat.reduceLT, reduceIte, reduceCtorEq]) ?_
      simp only [go_sem, binI_lss, binI_leq, binI_gtr, binI_geq, binI_eql, binI_neq, Nat.reduceEqDiff, Nat.reduceAdd, Nat.reduceMul, Nat.reduceSub, Nat.reduceLeDiff, Nat.reduceLT, reduceIte, reduceCtorEq]
      refine wpc_skip ?_
      simp only [go_sem, binI_lss, binI_leq, binI_gtr, binI_geq, binI_eql, binI_neq, Nat.reduceEqDiff, Nat.reduceAdd, Nat.reduceMul, Nat.reduceSub, Nat.reduceLeDiff, Nat.reduceLT, reduceIte, reduceCtorEq, out_n, thenX_n]
      refine wpc_reg ?_
      simp only [go_sem, binI_lss, binI_leq, binI_gtr, binI_geq, binI_eql, binI_neq, Nat.reduceEqDiff, Nat.reduceAdd, Nat.reduceMul, Nat.reduceSub, Nat.reduceLeDiff, Nat.reduceLT, reduceIte, reduceCtorEq, e5, hw1, thenX_n]
      have hgo := go (by rw [hb]; rfl)
      refine ih (i + 1) _ (by omega) ?_ ?_ ?_ hgo
      · simp only [go_sem, binI_lss, binI_leq, binI_gtr, binI_geq, binI_eql, binI_neq, Nat.reduceEqDiff, Nat.reduceAdd, Nat.reduceMul, Nat.reduceSub, Nat.reduceLeDiff, Nat.reduceLT, reduceIte, reduceCtorEq, e0]
      · simp only [go_sem, binI_lss, binI_leq, binI_gtr, binI_geq, binI_eql, binI_neq, Nat.reduceEqDiff, Nat.reduceAdd, Nat.reduceMul, Nat.reduceSub, Nat.reduceLeDiff, Nat.reduceLT, reduceIte, reduceCtorEq, e1]
      · simp only [go_sem, binI_lss, binI_leq, binI_gtr, binI_geq, binI_eql, binI_neq, Nat.reduceEqDiff, Nat.reduceAdd, Nat.reduceMul, Nat.reduceSub, Nat.reduceLeDiff, Nat.reduceLT, reduceIte, reduceCtorEq]
end Go.Proofs.YtkdhdklggdbgdaaI
