/- The program's test of steps, in segments. -/
import Derived.Test.YtkdhdklggdbgdaaQ3
import Derived.Test.YtkdhdklggdbgdaaI17
set_option linter.unusedVariables false
set_option linter.unusedSimpArgs false
namespace Go.Proofs.YtkdhdklggdbgdaaI
open Go Go.RowKit
attribute [local irreducible] optP wpo wpp wpc binI Kc Kp wpOp thenX eqsV
def Same (e e1 : Env) : Prop := e1 2 = e 2 ∧ e1 3 = e 3 ∧ e1 8 = e 8 ∧ e1 10 = e 10 ∧ e1 11 = e 11 ∧ e1 12 = e 12
theorem Same.refl (e : Env) : Same e e := ⟨rfl, rfl, rfl, rfl, rfl, rfl⟩
theorem Same.trans {e e1 e2 : Env} (h : Same e e1) (h' : Same e1 e2) : Same e e2 :=
  ⟨h'.1.trans h.1, h'.2.1.trans h.2.1, h'.2.2.1.trans h.2.2.1, h'.2.2.2.1.trans h.2.2.2.1, h'.2.2.2.2.1.trans h.2.2.2.2.1, h'.2.2.2.2.2.trans h.2.2.2.2.2⟩
theorem seg1 {F : Nat → Option IFn} {lo : Nat} {H : Heap} {e : Env} {r : List IOper} {K : Env → Heap → Prop} {c : Nat}  {m : Nat} (g1 : VarOk F 43) {v0 v1 : Value} {p : TProg m} {b : Nat} {d a1 : Int} (hp : Rd (Co.prog m) true (vw 0 H) (.agg #[v0, v1]) p) (e2 : e 2 = .int .i64 d) (e3 : e 3 = ptr b 0) (e8 : e 8 = ptr c 0) (gb : getCells H b 0 2 = some [v0, v1]) (gc1 : getCells H c 1 1 = some [.int .i64 a1]) (hK : ∀ e1, Same e e1 → e1 24 = .bool (decide (d < 1) || !varB p.1.length a1) → wpo F lo r e1 H K) : wpo F lo (⟨(some 16), none, .mov (.t 2)⟩ :: ⟨(some 17), none, .bin .lss (.t 16) (.c (.int .i64 1))⟩ :: ⟨(some 18), none, .mov (.t 17)⟩ :: ⟨(some 19), (some (18, false)), .load true 2 (.t 3)⟩ :: ⟨(some 20), (some (18, false)), .fad 1 (.t 8)⟩ :: ⟨(some 21), (some (18, false)), .load false 1 (.t 20)⟩ :: ⟨(some 22), (some (18, false)), .call .q (.f 43) [(.t 19), (.t 21)]⟩ :: ⟨(some 23), (some (18, false)), .un .not (.t 22)⟩ :: ⟨(some 24), none, .pick (.t 18) (.c (.bool true)) (.t 23)⟩ :: r) e H K := by
  repeat' (first
    | refine seq_assoc ?_
    | refine seq_reg ?_
    | refine seq_skip ?_
    | refine seq_regD ?_
    | refine seq_cond (t := true) rfl ?_
    | refine seq_cond (t := false) rfl ?_
    | refine wpc_cond (t := true) rfl ?_
    | refine wpc_cond (t := false) rfl ?_
    | refine seq_block ?_
    | refine wpc_block ?_
    | refine seq_ret ?_
    | refine wpc_ret ?_
    | refine wpc_reg ?_
    | refine wpc_regD ?_
    | refine wpc_skip ?_
    | refine fin_t rfl ?_
    | refine seq_exit ?_
    | refine wpc_exit ?_
    | refine eqs_rule (fun _ => ?_) (fun _ => ?_)
    | refine cmp_lss (fun _ => ?_) (fun _ => ?_)
    | refine cmp_leq (fun _ => ?_) (fun _ => ?_)
    | refine cmp_gtr (fun _ => ?_) (fun _ => ?_)
    | refine cmp_geq (fun _ => ?_) (fun _ => ?_)
    | refine cmp_eql (fun _ => ?_) (fun _ => ?_)
    | refine cmp_neq (fun _ => ?_) (fun _ => ?_)
    | (refine op_callB (by simp only [go_sem, Nat.reduceEqDiff, Nat.reduceAdd, Nat.reduceMul, Nat.reduceSub, Nat.reduceLeDiff, Nat.reduceLT, reduceIte, reduceCtorEq, out_n, out_r, out_e, thenX_n, thenX_r, thenX_e, e2, e3, e8, gb, gc1]; exact g1 _ m _ p _ hp) (fun _ => ?_) (fun _ => ?_))
    | simp only [go_sem, Nat.reduceEqDiff, Nat.reduceAdd, Nat.reduceMul, Nat.reduceSub, Nat.reduceLeDiff, Nat.reduceLT, reduceIte, reduceCtorEq, out_n, out_r, out_e, thenX_n, thenX_r, thenX_e, e2, e3, e8, gb, gc1]
    )
  all_goals (refine hK _ ?_ ?_ <;> first | exact ⟨by simp only [go_sem, binI_lss, binI_leq, binI_gtr, binI_geq, binI_eql, binI_neq, Nat.reduceEqDiff, Nat.reduceAdd, Nat.reduceMul, Nat.reduceSub, Nat.reduceLeDiff, Nat.reduceLT, reduceIte, reduceCtorEq], by simp only [go_sem, binI_lss, binI_leq, binI_gtr, binI_geq, binI_eql, binI_neq, Nat.reduceEqDiff, Nat.reduceAdd, Nat.reduceMul, Nat.reduceSub, Nat.reduceLeDiff, Nat.reduceLT, reduceIte, reduceCtorEq], by simp only [go_sem, binI_lss, binI_leq, binI_gtr, binI_geq, binI_eql, binI_neq, Nat.reduceEqDiff, Nat.reduceAdd, Nat.reduceMul, Nat.reduceSub, Nat.reduceLeDiff, Nat.reduceLT, reduceIte, reduceCtorEq], by simp only [go_sem, binI_lss, binI_leq, binI_gtr, binI_geq, binI_eql, binI_neq, Nat.reduceEqDiff, Nat.reduceAdd, Nat.reduceMul, Nat.reduceSub, Nat.reduceLeDiff, Nat.reduceLT, reduceIte, reduceCtorEq], by simp only [go_sem, binI_lss, binI_leq, binI_gtr, binI_geq, binI_eql, binI_neq, Nat.reduceEqDiff, Nat.reduceAdd, Nat.reduceMul, Nat.reduceSub, Nat.reduceLeDiff, Nat.reduceLT, reduceIte, reduceCtorEq], by simp only [go_sem, binI_lss, binI_leq, binI_gtr, binI_geq, binI_eql, binI_neq, Nat.reduceEqDiff, Nat.reduceAdd, Nat.reduceMul, Nat.reduceSub, Nat.reduceLeDiff, Nat.reduceLT, reduceIte, reduceCtorEq]⟩ | (simp only [go_sem, binI_lss, binI_leq, binI_gtr, binI_geq, binI_eql, binI_neq, Nat.reduceEqDiff, Nat.reduceAdd, Nat.reduceMul, Nat.reduceSub, Nat.reduceLeDiff, Nat.reduceLT, reduceIte, reduceCtorEq]; simp [*]; done) | (simp only [go_sem, binI_lss, binI_leq, binI_gtr, binI_geq, binI_eql, binI_neq, Nat.reduceEqDiff, Nat.reduceAdd, Nat.reduceMul, Nat.reduceSub, Nat.reduceLeDiff, Nat.reduceLT, reduceIte, reduceCtorEq]; simp_all; done))
theorem seg2 {F : Nat → Option IFn} {lo : Nat} {H : Heap} {e : Env} {r : List IOper} {K : Env → Heap → Prop} {c : Nat}  {t : Bool} {a0 a2 a3 a4 : Int} (e24 : e 24 = .bool t) (e8 : e 8 = ptr c 0) (gc0 : getCells H c 0 1 = some [.int .i64 a0]) (gc2 : getCells H c 2 3 = some [.int .i64 a2, .int .i64 a3, .int .i64 a4]) (hK : ∀ e1, Same e e1 → e1 35 = .bool (t || (!decide (a0 = 1) && !decide ((a2, a3, a4) = (0, 0, 0)))) → wpo F lo r e1 H K) : wpo F lo (⟨(some 25), none, .mov (.t 24)⟩ :: ⟨(some 26), (some (25, false)), .fad 0 (.t 8)⟩ :: ⟨(some 27), (some (25, false)), .load false 1 (.t 26)⟩ :: ⟨(some 28), (some (25, false)), .bin .neq (.t 27) (.c (.int .i64 1))⟩ :: ⟨(some 29), (some (25, false)), .mov (.t 28)⟩ :: ⟨(some 30), (some (29, true)), .fad 2 (.t 8)⟩ :: ⟨(some 31), (some (29, true)), .load true 3 (.t 30)⟩ :: ⟨(some 32), (some (29, true)), .build [(.int .i64 0), (.int .i64 0), (.int .i64 0)] []⟩ :: ⟨(some 33), (some (29, true)), .eqs true 3 (.t 31) (.t 32)⟩ :: ⟨(some 34), (some (25, false)), .pick (.t 29) (.t 33) (.c (.bool false))⟩ :: ⟨(some 35), none, .pick (.t 25) (.c (.bool true)) (.t 34)⟩ :: r) e H K := by
  cases t
  all_goals skip
  repeat' (first
    | refine seq_assoc ?_
    | refine seq_reg ?_
    | refine seq_skip ?_
    | refine seq_regD ?_
    | refine seq_cond (t := true) rfl ?_
    | refine seq_cond (t := false) rfl ?_
    | refine wpc_cond (t := true) rfl ?_
    | refine wpc_cond (t := false) rfl ?_
    | refine seq_block ?_
    | refine wpc_block ?_
    | refine seq_ret ?_
    | refine wpc_ret ?_
    | refine wpc_reg ?_
    | refine wpc_regD ?_
    | refine wpc_skip ?_
    | refine fin_t rfl ?_
    | refine seq_exit ?_
    | refine wpc_exit ?_
    | refine eqs_rule (fun _ => ?_) (fun _ => ?_)
    | refine cmp_lss (fun _ => ?_) (fun _ => ?_)
    | refine cmp_leq (fun _ => ?_) (fun _ => ?_)
    | refine cmp_gtr (fun _ => ?_) (fun _ => ?_)
    | refine cmp_geq (fun _ => ?_) (fun _ => ?_)
    | refine cmp_eql (fun _ => ?_) (fun _ => ?_)
    | refine cmp_neq (fun _ => ?_) (fun _ => ?_)
    | simp only [go_sem, Nat.reduceEqDiff, Nat.reduceAdd, Nat.reduceMul, Nat.reduceSub, Nat.reduceLeDiff, Nat.reduceLT, reduceIte, reduceCtorEq, out_n, out_r, out_e, thenX_n, thenX_r, thenX_e, e24, e8, gc0, gc2]
    )
  all_goals (refine hK _ ?_ ?_ <;> first | exact ⟨by simp only [go_sem, binI_lss, binI_leq, binI_gtr, binI_geq, binI_eql, binI_neq, Nat.reduceEqDiff, Nat.reduceAdd, Nat.reduceMul, Nat.reduceSub, Nat.reduceLeDiff, Nat.reduceLT, reduceIte, reduceCtorEq], by simp only [go_sem, binI_lss, binI_leq, binI_gtr, binI_geq, binI_eql, binI_neq, Nat.reduceEqDiff, Nat.reduceAdd, Nat.reduceMul, Nat.reduceSub, Nat.reduceLeDiff, Nat.reduceLT, reduceIte, reduceCtorEq], by simp only [go_sem, binI_lss, binI_leq, binI_gtr, binI_geq, binI_eql, binI_neq, Nat.reduceEqDiff, Nat.reduceAdd, Nat.reduceMul, Nat.reduceSub, Nat.reduceLeDiff, Nat.reduceLT, reduceIte, reduceCtorEq], by simp only [go_sem, binI_lss, binI_leq, binI_gtr, binI_geq, binI_eql, binI_neq, Nat.reduceEqDiff, Nat.reduceAdd, Nat.reduceMul, Nat.reduceSub, Nat.reduceLeDiff, Nat.reduceLT, reduceIte, reduceCtorEq], by simp only [go_sem, binI_lss, binI_leq, binI_gtr, binI_geq, binI_eql, binI_neq, Nat.reduceEqDiff, Nat.reduceAdd, Nat.reduceMul, Nat.reduceSub, Nat.reduceLeDiff, Nat.reduceLT, reduceIte, reduceCtorEq], by simp only [go_sem, binI_lss, binI_leq, binI_gtr, binI_geq, binI_eql, binI_neq, Nat.reduceEqDiff, Nat.reduceAdd, Nat.reduceMul, Nat.reduceSub, Nat.reduceLeDiff, Nat.reduceLT, reduceIte, reduceCtorEq]⟩ | (simp only [go_sem, binI_lss, binI_leq, binI_gtr, binI_geq, binI_eql, binI_neq, Nat.reduceEqDiff, Nat.reduceAdd, Nat.reduceMul, Nat.reduceSub, Nat.reduceLeDiff, Nat.reduceLT, reduceIte, reduceCtorEq]; simp [*]; done) | (simp only [go_sem, binI_lss, binI_leq, binI_gtr, binI_geq, binI_eql, binI_neq, Nat.reduceEqDiff, Nat.reduceAdd, Nat.reduceMul, Nat.reduceSub, Nat.reduceLeDiff, Nat.reduceLT, reduceIte, reduceCtorEq]; simp_all; done))
theorem seg3 {F : Nat → Option IFn} {lo : Nat} {H : Heap} {e : Env} {r : List IOper} {K : Env → Heap → Prop} {c : Nat}  {t : Bool} {a0 a5 : Int} (e35 : e 35 = .bool t) (e8 : e 8 = ptr c 0) (gc0 : getCells H c 0 1 = some [.int .i64 a0]) (gc5 : getCells H c 5 1 = some [.int .i64 a5]) (hK : ∀ e1, Same e e1 → e1 45 = .bool (t || (!decide (a0 = 3) && !decide (a5 = 0))) → wpo F lo r e1 H K) : wpo F lo (⟨(some 36), none, .mov (.t 35)⟩ :: ⟨(some 37), (some (36, false)), .fad 0 (.t 8)⟩ :: ⟨(some 38), (some (36, false)), .load false 1 (.t 37)⟩ :: ⟨(some 39), (some (36, false)), .bin .neq (.t 38) (.c (.int .i64 3))⟩ :: ⟨(some 40), (some (36, false)), .mov (.t 39)⟩ :: ⟨(some 41), (some (40, true)), .fad 5 (.t 8)⟩ :: ⟨(some 42), (some (40, true)), .load false 1 (.t 41)⟩ :: ⟨(some 43), (some (40, true)), .bin .neq (.t 42) (.c (.int .i64 0))⟩ :: ⟨(some 44), (some (36, false)), .pick (.t 40) (.t 43) (.c (.bool false))⟩ :: ⟨(some 45), none, .pick (.t 36) (.c (.bool true)) (.t 44)⟩ :: r) e H K := by
  cases t
  all_goals skip
  repeat' (first
    | refine seq_assoc ?_
    | refine seq_reg ?_
    | refine seq_skip ?_
    | refine seq_regD ?_
    | refine seq_cond (t := true) rfl ?_
    | refine seq_cond (t := false) rfl ?_
    | refine wpc_cond (t := true) rfl ?_
    | refine wpc_cond (t := false) rfl ?_
    | refine seq_block ?_
    | refine wpc_block ?_
    | refine seq_ret ?_
    | refine wpc_ret ?_
    | refine wpc_reg ?_
    | refine wpc_regD ?_
    | refine wpc_skip ?_
    | refine fin_t rfl ?_
    | refine seq_exit ?_
    | refine wpc_exit ?_
    | refine eqs_rule (fun _ => ?_) (fun _ => ?_)
    | refine cmp_lss (fun _ => ?_) (fun _ => ?_)
    | refine cmp_leq (fun _ => ?_) (fun _ => ?_)
    | refine cmp_gtr (fun _ => ?_) (fun _ => ?_)
    | refine cmp_geq (fun _ => ?_) (fun _ => ?_)
    | refine cmp_eql (fun _ => ?_) (fun _ => ?_)
    | refine cmp_neq (fun _ => ?_) (fun _ => ?_)
    | simp only [go_sem, Nat.reduceEqDiff, Nat.reduceAdd, Nat.reduceMul, Nat.reduceSub, Nat.reduceLeDiff, Nat.reduceLT, reduceIte, reduceCtorEq, out_n, out_r, out_e, thenX_n, thenX_r, thenX_e, e35, e8, gc0, gc5]
    )
  all_goals (refine hK _ ?_ ?_ <;> first | exact ⟨by simp only [go_sem, binI_lss, binI_leq, binI_gtr, binI_geq, binI_eql, binI_neq, Nat.reduceEqDiff, Nat.reduceAdd, Nat.reduceMul, Nat.reduceSub, Nat.reduceLeDiff, Nat.reduceLT, reduceIte, reduceCtorEq], by simp only [go_sem, binI_lss, binI_leq, binI_gtr, binI_geq, binI_eql, binI_neq, Nat.reduceEqDiff, Nat.reduceAdd, Nat.reduceMul, Nat.reduceSub, Nat.reduceLeDiff, Nat.reduceLT, reduceIte, reduceCtorEq], by simp only [go_sem, binI_lss, binI_leq, binI_gtr, binI_geq, binI_eql, binI_neq, Nat.reduceEqDiff, Nat.reduceAdd, Nat.reduceMul, Nat.reduceSub, Nat.reduceLeDiff, Nat.reduceLT, reduceIte, reduceCtorEq], by simp only [go_sem, binI_lss, binI_leq, binI_gtr, binI_geq, binI_eql, binI_neq, Nat.reduceEqDiff, Nat.reduceAdd, Nat.reduceMul, Nat.reduceSub, Nat.reduceLeDiff, Nat.reduceLT, reduceIte, reduceCtorEq], by simp only [go_sem, binI_lss, binI_leq, binI_gtr, binI_geq, binI_eql, binI_neq, Nat.reduceEqDiff, Nat.reduceAdd, Nat.reduceMul, Nat.reduceSub, Nat.reduceLeDiff, Nat.reduceLT, reduceIte, reduceCtorEq], by simp only [go_sem, binI_lss, binI_leq, binI_gtr, binI_geq, binI_eql, binI_neq, Nat.reduceEqDiff, Nat.reduceAdd, Nat.reduceMul, Nat.reduceSub, Nat.reduceLeDiff, Nat.reduceLT, reduceIte, reduceCtorEq]⟩ | (simp only [go_sem, binI_lss, binI_leq, binI_gtr, binI_geq, binI_eql, binI_neq, Nat.reduceEqDiff, Nat.reduceAdd, Nat.reduceMul, Nat.reduceSub, Nat.reduceLeDiff, Nat.reduceLT, reduceIte, reduceCtorEq]; simp [*]; done) | (simp only [go_sem, binI_lss, binI_leq, binI_gtr, binI_geq, binI_eql, binI_neq, Nat.reduceEqDiff, Nat.reduceAdd, Nat.reduceMul, Nat.reduceSub, Nat.reduceLeDiff, Nat.reduceLT, reduceIte, reduceCtorEq]; simp_all; done))
theorem seg4 {F : Nat → Option IFn} {lo : Nat} {H : Heap} {e : Env} {r : List IOper} {K : Env → Heap → Prop} {c : Nat}  {t : Bool} {a0 : Int} {u6 u7 : Option Addr} {n6 n7 : Nat} (e45 : e 45 = .bool t) (e8 : e 8 = ptr c 0) (gc0 : getCells H c 0 1 = some [.int .i64 a0]) (gc6 : getCells H c 6 1 = some [.slice u6 n6 n6]) (gc7 : getCells H c 7 1 = some [.slice u7 n7 n7]) (ha : IntKind.i64.wrap ((n6 : Int) + (n7 : Int)) = (n6 : Int) + (n7 : Int)) (hK : ∀ e1, Same e e1 → e1 60 = .bool (t || (!decide (a0 = 2) && decide (0 < (n6 : Int) + n7))) → wpo F lo r e1 H K) : wpo F lo (⟨(some 46), none, .mov (.t 45)⟩ :: ⟨(some 47), (some (46, false)), .fad 0 (.t 8)⟩ :: ⟨(some 48), (some (46, false)), .load false 1 (.t 47)⟩ :: ⟨(some 49), (some (46, false)), .bin .neq (.t 48) (.c (.int .i64 2))⟩ :: ⟨(some 50), (some (46, false)), .mov (.t 49)⟩ :: ⟨(some 51), (some (50, true)), .fad 6 (.t 8)⟩ :: ⟨(some 52), (some (50, true)), .load false 1 (.t 51)⟩ :: ⟨(some 53), (some (50, true)), .len (.t 52)⟩ :: ⟨(some 54), (some (50, true)), .fad 7 (.t 8)⟩ :: ⟨(some 55), (some (50, true)), .load false 1 (.t 54)⟩ :: ⟨(some 56), (some (50, true)), .len (.t 55)⟩ :: ⟨(some 57), (some (50, true)), .bin .add (.t 53) (.t 56)⟩ :: ⟨(some 58), (some (50, true)), .bin .gtr (.t 57) (.c (.int .i64 0))⟩ :: ⟨(some 59), (some (46, false)), .pick (.t 50) (.t 58) (.c (.bool false))⟩ :: ⟨(some 60), none, .pick (.t 46) (.c (.bool true)) (.t 59)⟩ :: r) e H K := by
  cases t
  all_goals skip
  repeat' (first
    | refine seq_assoc ?_
    | refine seq_reg ?_
    | refine seq_skip ?_
    | refine seq_regD ?_
    | refine seq_cond (t := true) rfl ?_
    | refine seq_cond (t := false) rfl ?_
    | refine wpc_cond (t := true) rfl ?_
    | refine wpc_cond (t := false) rfl ?_
    | refine seq_block ?_
    | refine wpc_block ?_
    | refine seq_ret ?_
    | refine wpc_ret ?_
    | refine wpc_reg ?_
    | refine wpc_regD ?_
    | refine wpc_skip ?_
    | refine fin_t rfl ?_
    | refine seq_exit ?_
    | refine wpc_exit ?_
    | refine eqs_rule (fun _ => ?_) (fun _ => ?_)
    | refine cmp_lss (fun _ => ?_) (fun _ => ?_)
    | refine cmp_leq (fun _ => ?_) (fun _ => ?_)
    | refine cmp_gtr (fun _ => ?_) (fun _ => ?_)
    | refine cmp_geq (fun _ => ?_) (fun _ => ?_)
    | refine cmp_eql (fun _ => ?_) (fun _ => ?_)
    | refine cmp_neq (fun _ => ?_) (fun _ => ?_)
    | simp only [go_sem, Nat.reduceEqDiff, Nat.reduceAdd, Nat.reduceMul, Nat.reduceSub, Nat.reduceLeDiff, Nat.reduceLT, reduceIte, reduceCtorEq, out_n, out_r, out_e, thenX_n, thenX_r, thenX_e, e45, e8, gc0, gc6, gc7, ha]
    )
  all_goals (refine hK _ ?_ ?_ <;> first | exact ⟨by simp only [go_sem, binI_lss, binI_leq, binI_gtr, binI_geq, binI_eql, binI_neq, Nat.reduceEqDiff, Nat.reduceAdd, Nat.reduceMul, Nat.reduceSub, Nat.reduceLeDiff, Nat.reduceLT, reduceIte, reduceCtorEq], by simp only [go_sem, binI_lss, binI_leq, binI_gtr, binI_geq, binI_eql, binI_neq, Nat.reduceEqDiff, Nat.reduceAdd, Nat.reduceMul, Nat.reduceSub, Nat.reduceLeDiff, Nat.reduceLT, reduceIte, reduceCtorEq], by simp only [go_sem, binI_lss, binI_leq, binI_gtr, binI_geq, binI_eql, binI_neq, Nat.reduceEqDiff, Nat.reduceAdd, Nat.reduceMul, Nat.reduceSub, Nat.reduceLeDiff, Nat.reduceLT, reduceIte, reduceCtorEq], by simp only [go_sem, binI_lss, binI_leq, binI_gtr, binI_geq, binI_eql, binI_neq, Nat.reduceEqDiff, Nat.reduceAdd, Nat.reduceMul, Nat.reduceSub, Nat.reduceLeDiff, Nat.reduceLT, reduceIte, reduceCtorEq], by simp only [go_sem, binI_lss, binI_leq, binI_gtr, binI_geq, binI_eql, binI_neq, Nat.reduceEqDiff, Nat.reduceAdd, Nat.reduceMul, Nat.reduceSub, Nat.reduceLeDiff, Nat.reduceLT, reduceIte, reduceCtorEq], by simp only [go_sem, binI_lss, binI_leq, binI_gtr, binI_geq, binI_eql, binI_neq, Nat.reduceEqDiff, Nat.reduceAdd, Nat.reduceMul, Nat.reduceSub, Nat.reduceLeDiff, Nat.reduceLT, reduceIte, reduceCtorEq]⟩ | (simp only [go_sem, binI_lss, binI_leq, binI_gtr, binI_geq, binI_eql, binI_neq, Nat.reduceEqDiff, Nat.reduceAdd, Nat.reduceMul, Nat.reduceSub, Nat.reduceLeDiff, Nat.reduceLT, reduceIte, reduceCtorEq]; simp [*]; done) | (simp only [go_sem, binI_lss, binI_leq, binI_gtr, binI_geq, binI_eql, binI_neq, Nat.reduceEqDiff, Nat.reduceAdd, Nat.reduceMul, Nat.reduceSub, Nat.reduceLeDiff, Nat.reduceLT, reduceIte, reduceCtorEq]; simp_all; done))
end Go.Proofs.YtkdhdklggdbgdaaI
