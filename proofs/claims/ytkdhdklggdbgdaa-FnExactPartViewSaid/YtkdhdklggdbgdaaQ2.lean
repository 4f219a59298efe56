/- The small functions of labels, trust and values. -/
import Derived.Test.YtkdhdklggdbgdaaQ1
set_option linter.unusedVariables false
set_option linter.unusedSimpArgs false
namespace Go.Proofs.YtkdhdklggdbgdaaI
open Go Go.RowKit
attribute [local irreducible] optP wpo wpp wpc binI Kc Kp wpOp thenX
def c_iIn : IFn := ⟨3, 15, [.t 6],
 .seq (.reg none [
    ⟨(some 6), none, .mov (.c (.bool false))⟩])
 (.seq (.reg none [
    ⟨(some 7), none, .mov (.t 1)⟩,
    ⟨(some 8), none, .mov (.t 0)⟩,
    ⟨(some 9), none, .bin .leq (.t 7) (.t 8)⟩,
    ⟨(some 10), none, .mov (.t 9)⟩,
    ⟨(some 11), (some (10, true)), .mov (.t 0)⟩,
    ⟨(some 12), (some (10, true)), .mov (.t 2)⟩,
    ⟨(some 13), (some (10, true)), .bin .leq (.t 11) (.t 12)⟩,
    ⟨(some 14), none, .pick (.t 10) (.t 13) (.c (.bool false))⟩,
    ⟨(some 6), none, .mov (.t 14)⟩])
 (.ret))⟩
def c_sIn : IFn := ⟨3, 15, [.t 6],
 .seq (.reg none [
    ⟨(some 6), none, .mov (.c (.bool false))⟩])
 (.seq (.reg none [
    ⟨(some 7), none, .mov (.t 0)⟩,
    ⟨(some 8), none, .mov (.t 1)⟩,
    ⟨(some 9), none, .bin .geq (.t 7) (.t 8)⟩,
    ⟨(some 10), none, .mov (.t 9)⟩,
    ⟨(some 11), (some (10, true)), .mov (.t 0)⟩,
    ⟨(some 12), (some (10, true)), .mov (.t 2)⟩,
    ⟨(some 13), (some (10, true)), .bin .leq (.t 11) (.t 12)⟩,
    ⟨(some 14), none, .pick (.t 10) (.t 13) (.c (.bool false))⟩,
    ⟨(some 6), none, .mov (.t 14)⟩])
 (.ret))⟩
def c_iSet : IFn := ⟨1, 5, [.t 2],
 .seq (.reg none [
    ⟨(some 2), none, .mov (.c (.bool false))⟩])
 (.seq (.reg none [
    ⟨(some 3), none, .mov (.t 0)⟩,
    ⟨(some 4), none, .call .q (.f 48) [(.t 3), (.c (.int .i64 0)), (.c (.int .i64 7))]⟩,
    ⟨(some 2), none, .mov (.t 4)⟩])
 (.ret))⟩
def c_sSet : IFn := ⟨1, 6, [.t 2],
 .seq (.reg none [
    ⟨(some 2), none, .mov (.c (.bool false))⟩])
 (.seq (.reg none [
    ⟨(some 3), none, .mov (.t 0)⟩,
    ⟨(some 4), none, .call .q (.f 66) []⟩,
    ⟨(some 5), none, .call .q (.f 35) [(.t 3), (.c (.int .i64 0)), (.t 4)]⟩,
    ⟨(some 2), none, .mov (.t 5)⟩])
 (.ret))⟩
def c_sAll : IFn := ⟨0, 1, [.t 0],
 .seq (.reg none [
    ⟨(some 0), none, .mov (.c (.int .i64 0))⟩])
 (.seq (.reg none [
    ⟨(some 0), none, .mov (.c (.int .i64 7))⟩])
 (.ret))⟩
def c_iHost : IFn := ⟨1, 5, [.t 2],
 .seq (.reg none [
    ⟨(some 2), none, .mov (.c (.bool false))⟩])
 (.seq (.reg none [
    ⟨(some 3), none, .mov (.t 0)⟩,
    ⟨(some 4), none, .call .q (.f 48) [(.t 3), (.c (.int .i64 0)), (.c (.int .i64 2))]⟩,
    ⟨(some 2), none, .mov (.t 4)⟩])
 (.ret))⟩
def c_iNum : IFn := ⟨1, 5, [.t 2],
 .seq (.reg none [
    ⟨(some 2), none, .mov (.c (.bool false))⟩])
 (.seq (.reg none [
    ⟨(some 3), none, .mov (.t 0)⟩,
    ⟨(some 4), none, .call .q (.f 48) [(.t 3), (.c (.int .i64 0)), (.c (.int .i64 9))]⟩,
    ⟨(some 2), none, .mov (.t 4)⟩])
 (.ret))⟩
def c_iLabelOk : IFn := ⟨1, 11, [.t 2],
 .seq (.reg none [
    ⟨(some 1), none, .box (.t 0)⟩,
    ⟨(some 2), none, .mov (.c (.bool false))⟩])
 (.seq (.reg none [
    ⟨(some 3), none, .fad 0 (.t 1)⟩,
    ⟨(some 4), none, .load false 1 (.t 3)⟩,
    ⟨(some 5), none, .call .q (.f 74) [(.t 4)]⟩,
    ⟨(some 6), none, .mov (.t 5)⟩,
    ⟨(some 7), (some (6, true)), .fad 1 (.t 1)⟩,
    ⟨(some 8), (some (6, true)), .load false 1 (.t 7)⟩,
    ⟨(some 9), (some (6, true)), .call .q (.f 74) [(.t 8)]⟩,
    ⟨(some 10), none, .pick (.t 6) (.t 9) (.c (.bool false))⟩,
    ⟨(some 2), none, .mov (.t 10)⟩])
 (.ret))⟩
def c_sLabelOk : IFn := ⟨1, 11, [.t 2],
 .seq (.reg none [
    ⟨(some 1), none, .box (.t 0)⟩,
    ⟨(some 2), none, .mov (.c (.bool false))⟩])
 (.seq (.reg none [
    ⟨(some 3), none, .fad 0 (.t 1)⟩,
    ⟨(some 4), none, .load false 1 (.t 3)⟩,
    ⟨(some 5), none, .call .q (.f 65) [(.t 4)]⟩,
    ⟨(some 6), none, .mov (.t 5)⟩,
    ⟨(some 7), (some (6, true)), .fad 1 (.t 1)⟩,
    ⟨(some 8), (some (6, true)), .load false 1 (.t 7)⟩,
    ⟨(some 9), (some (6, true)), .call .q (.f 65) [(.t 8)]⟩,
    ⟨(some 10), none, .pick (.t 6) (.t 9) (.c (.bool false))⟩,
    ⟨(some 2), none, .mov (.t 10)⟩])
 (.ret))⟩
def c_iVar : IFn := ⟨2, 11, [.t 4],
 .seq (.reg none [
    ⟨(some 2), none, .box (.t 0)⟩,
    ⟨(some 4), none, .mov (.c (.bool false))⟩])
 (.seq (.reg none [
    ⟨(some 5), none, .mov (.t 1)⟩,
    ⟨(some 6), none, .fad 0 (.t 2)⟩,
    ⟨(some 7), none, .load false 1 (.t 6)⟩,
    ⟨(some 8), none, .len (.t 7)⟩,
    ⟨(some 9), none, .bin .sub (.t 8) (.c (.int .i64 1))⟩,
    ⟨(some 10), none, .call .q (.f 48) [(.t 5), (.c (.int .i64 0)), (.t 9)]⟩,
    ⟨(some 4), none, .mov (.t 10)⟩])
 (.ret))⟩
def c_sVar : IFn := ⟨2, 11, [.t 4],
 .seq (.reg none [
    ⟨(some 2), none, .box (.t 0)⟩,
    ⟨(some 4), none, .mov (.c (.bool false))⟩])
 (.seq (.reg none [
    ⟨(some 5), none, .mov (.t 1)⟩,
    ⟨(some 6), none, .fad 0 (.t 2)⟩,
    ⟨(some 7), none, .load false 1 (.t 6)⟩,
    ⟨(some 8), none, .len (.t 7)⟩,
    ⟨(some 9), none, .bin .sub (.t 8) (.c (.int .i64 1))⟩,
    ⟨(some 10), none, .call .q (.f 35) [(.t 5), (.c (.int .i64 0)), (.t 9)]⟩,
    ⟨(some 4), none, .mov (.t 10)⟩])
 (.ret))⟩
def c_iVal : IFn := ⟨2, 48, [.t 4],
 .seq (.reg none [
    ⟨(some 2), none, .box (.t 0)⟩,
    ⟨(some 3), none, .box (.t 1)⟩,
    ⟨(some 4), none, .mov (.c (.bool false))⟩])
 (.seq (.seq (.reg none [
     ⟨(some 5), none, .fad 0 (.t 3)⟩,
     ⟨(some 6), none, .load false 1 (.t 5)⟩])
  (.block 0 (.seq (.reg none [
      ⟨(some 8), none, .bin .eql (.t 6) (.c (.int .i64 1))⟩,
      ⟨(some 7), none, .mov (.t 8)⟩])
   (.cond (.t 7) (.seq (.reg none [
       ⟨(some 9), none, .fad 1 (.t 3)⟩,
       ⟨(some 10), none, .load false 1 (.t 9)⟩,
       ⟨(some 11), none, .call .q (.f 94) [(.t 10)]⟩,
       ⟨(some 12), none, .mov (.t 11)⟩,
       ⟨(some 13), (some (12, true)), .fad 2 (.t 3)⟩,
       ⟨(some 14), (some (12, true)), .load false 1 (.t 13)⟩,
       ⟨(some 15), (some (12, true)), .bin .eql (.t 14) (.c (.int .i64 0))⟩,
       ⟨(some 16), none, .pick (.t 12) (.t 15) (.c (.bool false))⟩,
       ⟨(some 4), none, .mov (.t 16)⟩])
    (.ret)) (.seq (.reg none [
       ⟨(some 18), none, .bin .eql (.t 6) (.c (.int .i64 2))⟩,
       ⟨(some 17), none, .mov (.t 18)⟩])
    (.cond (.t 17) (.seq (.reg none [
        ⟨(some 19), none, .load true 2 (.t 2)⟩,
        ⟨(some 20), none, .fad 1 (.t 3)⟩,
        ⟨(some 21), none, .load false 1 (.t 20)⟩,
        ⟨(some 22), none, .call .q (.f 43) [(.t 19), (.t 21)]⟩,
        ⟨(some 23), none, .mov (.t 22)⟩,
        ⟨(some 24), (some (23, true)), .fad 2 (.t 3)⟩,
        ⟨(some 25), (some (23, true)), .load false 1 (.t 24)⟩,
        ⟨(some 26), (some (23, true)), .bin .eql (.t 25) (.c (.int .i64 0))⟩,
        ⟨(some 27), none, .pick (.t 23) (.t 26) (.c (.bool false))⟩,
        ⟨(some 4), none, .mov (.t 27)⟩])
     (.ret)) (.skip)))))))
 (.seq (.reg none [
    ⟨(some 28), none, .fad 0 (.t 3)⟩,
    ⟨(some 29), none, .load false 1 (.t 28)⟩,
    ⟨(some 30), none, .bin .eql (.t 29) (.c (.int .i64 3))⟩,
    ⟨(some 31), none, .mov (.t 30)⟩,
    ⟨(some 32), (some (31, false)), .fad 0 (.t 3)⟩,
    ⟨(some 33), (some (31, false)), .load false 1 (.t 32)⟩,
    ⟨(some 34), (some (31, false)), .bin .eql (.t 33) (.c (.int .i64 4))⟩,
    ⟨(some 35), none, .pick (.t 31) (.c (.bool true)) (.t 34)⟩,
    ⟨(some 36), none, .mov (.t 35)⟩,
    ⟨(some 37), (some (36, true)), .load true 2 (.t 2)⟩,
    ⟨(some 38), (some (36, true)), .fad 1 (.t 3)⟩,
    ⟨(some 39), (some (36, true)), .load false 1 (.t 38)⟩,
    ⟨(some 40), (some (36, true)), .call .q (.f 43) [(.t 37), (.t 39)]⟩,
    ⟨(some 41), none, .pick (.t 36) (.t 40) (.c (.bool false))⟩,
    ⟨(some 42), none, .mov (.t 41)⟩,
    ⟨(some 43), (some (42, true)), .load true 2 (.t 2)⟩,
    ⟨(some 44), (some (42, true)), .fad 2 (.t 3)⟩,
    ⟨(some 45), (some (42, true)), .load false 1 (.t 44)⟩,
    ⟨(some 46), (some (42, true)), .call .q (.f 43) [(.t 43), (.t 45)]⟩,
    ⟨(some 47), none, .pick (.t 42) (.t 46) (.c (.bool false))⟩,
    ⟨(some 4), none, .mov (.t 47)⟩])
 (.ret)))⟩
def c_sVal : IFn := ⟨2, 41, [.t 4],
 .seq (.reg none [
    ⟨(some 2), none, .box (.t 0)⟩,
    ⟨(some 3), none, .box (.t 1)⟩,
    ⟨(some 4), none, .mov (.c (.bool false))⟩])
 (.seq (.seq (.reg none [
     ⟨(some 5), none, .fad 0 (.t 3)⟩,
     ⟨(some 6), none, .load false 1 (.t 5)⟩])
  (.block 0 (.seq (.reg none [
      ⟨(some 8), none, .bin .eql (.t 6) (.c (.int .i64 1))⟩,
      ⟨(some 7), none, .mov (.t 8)⟩])
   (.cond (.t 7) (.seq (.reg none [
       ⟨(some 9), none, .fad 1 (.t 3)⟩,
       ⟨(some 10), none, .load false 1 (.t 9)⟩,
       ⟨(some 11), none, .call .q (.f 35) [(.t 10), (.c (.int .i64 0)), (.c (.int .i64 9))]⟩,
       ⟨(some 12), none, .mov (.t 11)⟩,
       ⟨(some 13), (some (12, true)), .fad 2 (.t 3)⟩,
       ⟨(some 14), (some (12, true)), .load false 1 (.t 13)⟩,
       ⟨(some 15), (some (12, true)), .bin .eql (.t 14) (.c (.int .i64 0))⟩,
       ⟨(some 16), none, .pick (.t 12) (.t 15) (.c (.bool false))⟩,
       ⟨(some 4), none, .mov (.t 16)⟩])
    (.ret)) (.seq (.reg none [
       ⟨(some 18), none, .bin .eql (.t 6) (.c (.int .i64 2))⟩,
       ⟨(some 17), none, .mov (.t 18)⟩])
    (.cond (.t 17) (.seq (.reg none [
        ⟨(some 19), none, .load true 2 (.t 2)⟩,
        ⟨(some 20), none, .fad 1 (.t 3)⟩,
        ⟨(some 21), none, .load false 1 (.t 20)⟩,
        ⟨(some 22), none, .call .q (.f 34) [(.t 19), (.t 21)]⟩,
        ⟨(some 23), none, .mov (.t 22)⟩,
        ⟨(some 24), (some (23, true)), .fad 2 (.t 3)⟩,
        ⟨(some 25), (some (23, true)), .load false 1 (.t 24)⟩,
        ⟨(some 26), (some (23, true)), .bin .eql (.t 25) (.c (.int .i64 0))⟩,
        ⟨(some 27), none, .pick (.t 23) (.t 26) (.c (.bool false))⟩,
        ⟨(some 4), none, .mov (.t 27)⟩])
     (.ret)) (.seq (.seq (.reg none [
         ⟨(some 29), none, .bin .eql (.t 6) (.c (.int .i64 3))⟩,
         ⟨(some 28), none, .mov (.t 29)⟩])
      (.cond (.t 28) (.skip) (.reg none [
         ⟨(some 30), none, .bin .eql (.t 6) (.c (.int .i64 4))⟩,
         ⟨(some 28), none, .mov (.t 30)⟩])))
     (.cond (.t 28) (.seq (.reg none [
         ⟨(some 31), none, .load true 2 (.t 2)⟩,
         ⟨(some 32), none, .fad 1 (.t 3)⟩,
         ⟨(some 33), none, .load false 1 (.t 32)⟩,
         ⟨(some 34), none, .call .q (.f 34) [(.t 31), (.t 33)]⟩,
         ⟨(some 35), none, .mov (.t 34)⟩,
         ⟨(some 36), (some (35, true)), .load true 2 (.t 2)⟩,
         ⟨(some 37), (some (35, true)), .fad 2 (.t 3)⟩,
         ⟨(some 38), (some (35, true)), .load false 1 (.t 37)⟩,
         ⟨(some 39), (some (35, true)), .call .q (.f 34) [(.t 36), (.t 38)]⟩,
         ⟨(some 40), none, .pick (.t 35) (.t 39) (.c (.bool false))⟩,
         ⟨(some 4), none, .mov (.t 40)⟩])
      (.ret)) (.skip)))))))))
 (.seq (.reg none [
    ⟨(some 4), none, .mov (.c (.bool false))⟩])
 (.ret)))⟩
def c_iHas : IFn := ⟨2, 14, [.t 4],
 .seq (.reg none [
    ⟨(some 4), none, .mov (.c (.bool false))⟩])
 (.seq (.reg none [
    ⟨(some 5), none, .mov (.t 1)⟩,
    ⟨(some 6), none, .call .q (.f 44) [(.t 5)]⟩,
    ⟨(some 7), none, .mov (.t 6)⟩,
    ⟨(some 8), (some (7, true)), .mov (.t 0)⟩,
    ⟨(some 9), (some (7, true)), .mov (.t 1)⟩,
    ⟨(some 10), (some (7, true)), .bin .shr (.t 8) (.t 9)⟩,
    ⟨(some 11), (some (7, true)), .bin .and (.t 10) (.c (.int .i64 1))⟩,
    ⟨(some 12), (some (7, true)), .bin .eql (.t 11) (.c (.int .i64 1))⟩,
    ⟨(some 13), none, .pick (.t 7) (.t 12) (.c (.bool false))⟩,
    ⟨(some 4), none, .mov (.t 13)⟩])
 (.ret))⟩
def c_sHas : IFn := ⟨2, 18, [.t 4],
 .seq (.reg none [
    ⟨(some 4), none, .mov (.c (.bool false))⟩])
 (.seq (.reg none [
    ⟨(some 5), none, .mov (.t 1)⟩,
    ⟨(some 6), none, .bin .geq (.t 5) (.c (.int .i64 0))⟩,
    ⟨(some 7), none, .mov (.t 6)⟩,
    ⟨(some 8), (some (7, true)), .mov (.t 1)⟩,
    ⟨(some 9), (some (7, true)), .bin .lss (.t 8) (.c (.int .i64 3))⟩,
    ⟨(some 10), none, .pick (.t 7) (.t 9) (.c (.bool false))⟩,
    ⟨(some 11), none, .mov (.t 10)⟩,
    ⟨(some 12), (some (11, true)), .mov (.t 0)⟩,
    ⟨(some 13), (some (11, true)), .mov (.t 1)⟩,
    ⟨(some 14), (some (11, true)), .bin .shr (.t 12) (.t 13)⟩,
    ⟨(some 15), (some (11, true)), .bin .rem (.t 14) (.c (.int .i64 2))⟩,
    ⟨(some 16), (some (11, true)), .bin .eql (.t 15) (.c (.int .i64 1))⟩,
    ⟨(some 17), none, .pick (.t 11) (.t 16) (.c (.bool false))⟩,
    ⟨(some 4), none, .mov (.t 17)⟩])
 (.ret))⟩
def inB (a l h : Int) : Bool := decide (l ≤ a) && decide (a ≤ h)
theorem iIn_ok {F : Nat → Option IFn} {f : Nat} (hf : F f = some c_iIn)  : ∀ (H : Heap) (a b c : Int), QC F f [.int .i64 a, .int .i64 b, .int .i64 c] H (.bool (inB a b c)) := by
  intro H a b c
  refine QC.mk hf rfl ?_
  repeat' (first
    | refine seq_assoc ?_
    | refine seq_reg ?_
    | refine seq_skip ?_
    | refine seq_regD ?_
    | refine seq_cond (t := true) rfl ?_
    | refine seq_cond (t := false) rfl ?_
    | refine wpc_cond (t := true) rfl ?_
    | refine wpc_cond (t := false) rfl ?_
    | refine seq_block ?_
    | refine wpc_block ?_
    | refine seq_ret ?_
    | refine wpc_ret ?_
    | refine wpc_reg ?_
    | refine wpc_regD ?_
    | refine wpc_skip ?_
    | refine fin_t rfl ?_
    | refine seq_exit ?_
    | refine wpc_exit ?_
    | refine cmp_lss (fun _ => ?_) (fun _ => ?_)
    | refine cmp_leq (fun _ => ?_) (fun _ => ?_)
    | refine cmp_gtr (fun _ => ?_) (fun _ => ?_)
    | refine cmp_geq (fun _ => ?_) (fun _ => ?_)
    | refine cmp_eql (fun _ => ?_) (fun _ => ?_)
    | refine cmp_neq (fun _ => ?_) (fun _ => ?_)
    | simp only [go_sem, Nat.reduceEqDiff, Nat.reduceAdd, Nat.reduceMul, Nat.reduceSub, Nat.reduceLeDiff, Nat.reduceLT, reduceIte, reduceCtorEq, out_n, out_r, out_e, thenX_n, thenX_r, thenX_e]
    )
  all_goals (refine ⟨?_, rfl⟩; simp [inB, *])
theorem sIn_ok {F : Nat → Option IFn} {f : Nat} (hf : F f = some c_sIn)  : ∀ (H : Heap) (a b c : Int), QC F f [.int .i64 a, .int .i64 b, .int .i64 c] H (.bool (inB a b c)) := by
  intro H a b c
  refine QC.mk hf rfl ?_
  repeat' (first
    | refine seq_assoc ?_
    | refine seq_reg ?_
    | refine seq_skip ?_
    | refine seq_regD ?_
    | refine seq_cond (t := true) rfl ?_
    | refine seq_cond (t := false) rfl ?_
    | refine wpc_cond (t := true) rfl ?_
    | refine wpc_cond (t := false) rfl ?_
    | refine seq_block ?_
    | refine wpc_block ?_
    | refine seq_ret ?_
    | refine wpc_ret ?_
    | refine wpc_reg ?_
    | refine wpc_regD ?_
    | refine wpc_skip ?_
    | refine fin_t rfl ?_
    | refine seq_exit ?_
    | refine wpc_exit ?_
    | refine cmp_lss (fun _ => ?_) (fun _ => ?_)
    | refine cmp_leq (fun _ => ?_) (fun _ => ?_)
    | refine cmp_gtr (fun _ => ?_) (fun _ => ?_)
    | refine cmp_geq (fun _ => ?_) (fun _ => ?_)
    | refine cmp_eql (fun _ => ?_) (fun _ => ?_)
    | refine cmp_neq (fun _ => ?_) (fun _ => ?_)
    | simp only [go_sem, Nat.reduceEqDiff, Nat.reduceAdd, Nat.reduceMul, Nat.reduceSub, Nat.reduceLeDiff, Nat.reduceLT, reduceIte, reduceCtorEq, out_n, out_r, out_e, thenX_n, thenX_r, thenX_e]
    )
  all_goals (refine ⟨?_, rfl⟩; simp [inB, *])
theorem iSet_ok {F : Nat → Option IFn} {f : Nat} (hf : F f = some c_iSet) (g0 : ∀ (H : Heap) (a b c : Int), QC F 48 [.int .i64 a, .int .i64 b, .int .i64 c] H (.bool (inB a b c))) : ∀ (H : Heap) (a : Int), QC F f [.int .i64 a] H (.bool (inB a 0 7)) := by
  intro H a
  refine QC.mk hf rfl ?_
  repeat' (first
    | refine seq_assoc ?_
    | refine seq_reg ?_
    | refine seq_skip ?_
    | refine seq_regD ?_
    | refine seq_cond (t := true) rfl ?_
    | refine seq_cond (t := false) rfl ?_
    | refine wpc_cond (t := true) rfl ?_
    | refine wpc_cond (t := false) rfl ?_
    | refine seq_block ?_
    | refine wpc_block ?_
    | refine seq_ret ?_
    | refine wpc_ret ?_
    | refine wpc_reg ?_
    | refine wpc_regD ?_
    | refine wpc_skip ?_
    | refine fin_t rfl ?_
    | refine seq_exit ?_
    | refine wpc_exit ?_
    | refine cmp_lss (fun _ => ?_) (fun _ => ?_)
    | refine cmp_leq (fun _ => ?_) (fun _ => ?_)
    | refine cmp_gtr (fun _ => ?_) (fun _ => ?_)
    | refine cmp_geq (fun _ => ?_) (fun _ => ?_)
    | refine cmp_eql (fun _ => ?_) (fun _ => ?_)
    | refine cmp_neq (fun _ => ?_) (fun _ => ?_)
    | (refine op_callB (by simp only [go_sem, Nat.reduceEqDiff, Nat.reduceAdd, Nat.reduceMul, Nat.reduceSub, Nat.reduceLeDiff, Nat.reduceLT, reduceIte, reduceCtorEq, out_n, out_r, out_e, thenX_n, thenX_r, thenX_e]; exact g0 _ _ _ _) (fun _ => ?_) (fun _ => ?_))
    | simp only [go_sem, Nat.reduceEqDiff, Nat.reduceAdd, Nat.reduceMul, Nat.reduceSub, Nat.reduceLeDiff, Nat.reduceLT, reduceIte, reduceCtorEq, out_n, out_r, out_e, thenX_n, thenX_r, thenX_e]
    )
  all_goals (refine ⟨?_, rfl⟩; simp [*])
theorem iHost_ok {F : Nat → Option IFn} {f : Nat} (hf : F f = some c_iHost) (g0 : ∀ (H : Heap) (a b c : Int), QC F 48 [.int .i64 a, .int .i64 b, .int .i64 c] H (.bool (inB a b c))) : ∀ (H : Heap) (a : Int), QC F f [.int .i64 a] H (.bool (inB a 0 2)) := by
  intro H a
  refine QC.mk hf rfl ?_
  repeat' (first
    | refine seq_assoc ?_
    | refine seq_reg ?_
    | refine seq_skip ?_
    | refine seq_regD ?_
    | refine seq_cond (t := true) rfl ?_
    | refine seq_cond (t := false) rfl ?_
    | refine wpc_cond (t := true) rfl ?_
    | refine wpc_cond (t := false) rfl ?_
    | refine seq_block ?_
    | refine wpc_block ?_
    | refine seq_ret ?_
    | refine wpc_ret ?_
    | refine wpc_reg ?_
    | refine wpc_regD ?_
    | refine wpc_skip ?_
    | refine fin_t rfl ?_
    | refine seq_exit ?_
    | refine wpc_exit ?_
    | refine cmp_lss (fun _ => ?_) (fun _ => ?_)
    | refine cmp_leq (fun _ => ?_) (fun _ => ?_)
    | refine cmp_gtr (fun _ => ?_) (fun _ => ?_)
    | refine cmp_geq (fun _ => ?_) (fun _ => ?_)
    | refine cmp_eql (fun _ => ?_) (fun _ => ?_)
    | refine cmp_neq (fun _ => ?_) (fun _ => ?_)
    | (refine op_callB (by simp only [go_sem, Nat.reduceEqDiff, Nat.reduceAdd, Nat.reduceMul, Nat.reduceSub, Nat.reduceLeDiff, Nat.reduceLT, reduceIte, reduceCtorEq, out_n, out_r, out_e, thenX_n, thenX_r, thenX_e]; exact g0 _ _ _ _) (fun _ => ?_) (fun _ => ?_))
    | simp only [go_sem, Nat.reduceEqDiff, Nat.reduceAdd, Nat.reduceMul, Nat.reduceSub, Nat.reduceLeDiff, Nat.reduceLT, reduceIte, reduceCtorEq, out_n, out_r, out_e, thenX_n, thenX_r, thenX_e]
    )
  all_goals (refine ⟨?_, rfl⟩; simp [*])
theorem iNum_ok {F : Nat → Option IFn} {f : Nat} (hf : F f = some c_iNum) (g0 : ∀ (H : Heap) (a b c : Int), QC F 48 [.int .i64 a, .int .i64 b, .int .i64 c] H (.bool (inB a b c))) : ∀ (H : Heap) (a : Int), QC F f [.int .i64 a] H (.bool (inB a 0 9)) := by
  intro H a
  refine QC.mk hf rfl ?_
  repeat' (first
    | refine seq_assoc ?_
    | refine seq_reg ?_
    | refine seq_skip ?_
    | refine seq_regD ?_
    | refine seq_cond (t := true) rfl ?_
    | refine seq_cond (t := false) rfl ?_
    | refine wpc_cond (t := true) rfl ?_
    | refine wpc_cond (t := false) rfl ?_
    | refine seq_block ?_
    | refine wpc_block ?_
    | refine seq_ret ?_
    | refine wpc_ret ?_
    | refine wpc_reg ?_
    | refine wpc_regD ?_
    | refine wpc_skip ?_
    | refine fin_t rfl ?_
    | refine seq_exit ?_
    | refine wpc_exit ?_
    | refine cmp_lss (fun _ => ?_) (fun _ => ?_)
    | refine cmp_leq (fun _ => ?_) (fun _ => ?_)
    | refine cmp_gtr (fun _ => ?_) (fun _ => ?_)
    | refine cmp_geq (fun _ => ?_) (fun _ => ?_)
    | refine cmp_eql (fun _ => ?_) (fun _ => ?_)
    | refine cmp_neq (fun _ => ?_) (fun _ => ?_)
    | (refine op_callB (by simp only [go_sem, Nat.reduceEqDiff, Nat.reduceAdd, Nat.reduceMul, Nat.reduceSub, Nat.reduceLeDiff, Nat.reduceLT, reduceIte, reduceCtorEq, out_n, out_r, out_e, thenX_n, thenX_r, thenX_e]; exact g0 _ _ _ _) (fun _ => ?_) (fun _ => ?_))
    | simp only [go_sem, Nat.reduceEqDiff, Nat.reduceAdd, Nat.reduceMul, Nat.reduceSub, Nat.reduceLeDiff, Nat.reduceLT, reduceIte, reduceCtorEq, out_n, out_r, out_e, thenX_n, thenX_r, thenX_e]
    )
  all_goals (refine ⟨?_, rfl⟩; simp [*])
theorem sAll_ok {F : Nat → Option IFn} {f : Nat} (hf : F f = some c_sAll)  : ∀ (H : Heap) , QC F f [] H (.int .i64 (7)) := by
  intro H
  refine QC.mk hf rfl ?_
  repeat' (first
    | refine seq_assoc ?_
    | refine seq_reg ?_
    | refine seq_skip ?_
    | refine seq_regD ?_
    | refine seq_cond (t := true) rfl ?_
    | refine seq_cond (t := false) rfl ?_
    | refine wpc_cond (t := true) rfl ?_
    | refine wpc_cond (t := false) rfl ?_
    | refine seq_block ?_
    | refine wpc_block ?_
    | refine seq_ret ?_
    | refine wpc_ret ?_
    | refine wpc_reg ?_
    | refine wpc_regD ?_
    | refine wpc_skip ?_
    | refine fin_t rfl ?_
    | refine seq_exit ?_
    | refine wpc_exit ?_
    | refine cmp_lss (fun _ => ?_) (fun _ => ?_)
    | refine cmp_leq (fun _ => ?_) (fun _ => ?_)
    | refine cmp_gtr (fun _ => ?_) (fun _ => ?_)
    | refine cmp_geq (fun _ => ?_) (fun _ => ?_)
    | refine cmp_eql (fun _ => ?_) (fun _ => ?_)
    | refine cmp_neq (fun _ => ?_) (fun _ => ?_)
    | simp only [go_sem, Nat.reduceEqDiff, Nat.reduceAdd, Nat.reduceMul, Nat.reduceSub, Nat.reduceLeDiff, Nat.reduceLT, reduceIte, reduceCtorEq, out_n, out_r, out_e, thenX_n, thenX_r, thenX_e]
    )
  exact rfl
theorem sSet_ok {F : Nat → Option IFn} {f : Nat} (hf : F f = some c_sSet) (g0 : ∀ (H : Heap) (a b c : Int), QC F 35 [.int .i64 a, .int .i64 b, .int .i64 c] H (.bool (inB a b c))) (g1 : ∀ H, QC F 66 [] H (.int .i64 7)) : ∀ (H : Heap) (a : Int), QC F f [.int .i64 a] H (.bool (inB a 0 7)) := by
  intro H a
  refine QC.mk hf rfl ?_
  repeat' (first
    | refine seq_assoc ?_
    | refine seq_reg ?_
    | refine seq_skip ?_
    | refine seq_regD ?_
    | refine seq_cond (t := true) rfl ?_
    | refine seq_cond (t := false) rfl ?_
    | refine wpc_cond (t := true) rfl ?_
    | refine wpc_cond (t := false) rfl ?_
    | refine seq_block ?_
    | refine wpc_block ?_
    | refine seq_ret ?_
    | refine wpc_ret ?_
    | refine wpc_reg ?_
    | refine wpc_regD ?_
    | refine wpc_skip ?_
    | refine fin_t rfl ?_
    | refine seq_exit ?_
    | refine wpc_exit ?_
    | refine cmp_lss (fun _ => ?_) (fun _ => ?_)
    | refine cmp_leq (fun _ => ?_) (fun _ => ?_)
    | refine cmp_gtr (fun _ => ?_) (fun _ => ?_)
    | refine cmp_geq (fun _ => ?_) (fun _ => ?_)
    | refine cmp_eql (fun _ => ?_) (fun _ => ?_)
    | refine cmp_neq (fun _ => ?_) (fun _ => ?_)
    | (refine op_callQ (by simp only [go_sem, Nat.reduceEqDiff, Nat.reduceAdd, Nat.reduceMul, Nat.reduceSub, Nat.reduceLeDiff, Nat.reduceLT, reduceIte, reduceCtorEq, out_n, out_r, out_e, thenX_n, thenX_r, thenX_e]; exact g1 _) ?_)
    | (refine op_callB (by simp only [go_sem, Nat.reduceEqDiff, Nat.reduceAdd, Nat.reduceMul, Nat.reduceSub, Nat.reduceLeDiff, Nat.reduceLT, reduceIte, reduceCtorEq, out_n, out_r, out_e, thenX_n, thenX_r, thenX_e]; exact g0 _ _ _ _) (fun _ => ?_) (fun _ => ?_))
    | simp only [go_sem, Nat.reduceEqDiff, Nat.reduceAdd, Nat.reduceMul, Nat.reduceSub, Nat.reduceLeDiff, Nat.reduceLT, reduceIte, reduceCtorEq, out_n, out_r, out_e, thenX_n, thenX_r, thenX_e]
    )
  all_goals (refine ⟨?_, rfl⟩; simp [*])
def labB (l : Int × Int) : Bool := inB l.1 0 7 && inB l.2 0 7
theorem iLabelOk_ok {F : Nat → Option IFn} {f : Nat} (hf : F f = some c_iLabelOk) (g0 : ∀ (H : Heap) (a : Int), QC F 74 [.int .i64 a] H (.bool (inB a 0 7))) : ∀ (H : Heap) (v : Value) (a : Int × Int) (_ : Rd Co.p2 true (vw 0 H) v a), QC F f [v] H (.bool (labB a)) := by
  rintro H v ⟨a0, a1⟩ ⟨cs, hc, _, _, rfl, ⟨rfl, b0⟩, ⟨rfl, b1⟩⟩
  simp only [go_sem, binI_lss, binI_leq, binI_gtr, binI_geq, binI_eql, binI_neq, Nat.reduceEqDiff, Nat.reduceAdd, Nat.reduceMul, Nat.reduceSub, Nat.reduceLeDiff, Nat.reduceLT, reduceIte, reduceCtorEq, Option.some.injEq] at hc
  subst hc
  refine QC.mk hf rfl ?_
  repeat' (first
    | refine seq_assoc ?_
    | refine seq_reg ?_
    | refine seq_skip ?_
    | refine seq_regD ?_
    | refine seq_cond (t := true) rfl ?_
    | refine seq_cond (t := false) rfl ?_
    | refine wpc_cond (t := true) rfl ?_
    | refine wpc_cond (t := false) rfl ?_
    | refine seq_block ?_
    | refine wpc_block ?_
    | refine seq_ret ?_
    | refine wpc_ret ?_
    | refine wpc_reg ?_
    | refine wpc_regD ?_
    | refine wpc_skip ?_
    | refine fin_t rfl ?_
    | refine seq_exit ?_
    | refine wpc_exit ?_
    | refine cmp_lss (fun _ => ?_) (fun _ => ?_)
    | refine cmp_leq (fun _ => ?_) (fun _ => ?_)
    | refine cmp_gtr (fun _ => ?_) (fun _ => ?_)
    | refine cmp_geq (fun _ => ?_) (fun _ => ?_)
    | refine cmp_eql (fun _ => ?_) (fun _ => ?_)
    | refine cmp_neq (fun _ => ?_) (fun _ => ?_)
    | (refine op_callB (by simp only [go_sem, Nat.reduceEqDiff, Nat.reduceAdd, Nat.reduceMul, Nat.reduceSub, Nat.reduceLeDiff, Nat.reduceLT, reduceIte, reduceCtorEq, out_n, out_r, out_e, thenX_n, thenX_r, thenX_e]; exact g0 _ _) (fun _ => ?_) (fun _ => ?_))
    | simp only [go_sem, Nat.reduceEqDiff, Nat.reduceAdd, Nat.reduceMul, Nat.reduceSub, Nat.reduceLeDiff, Nat.reduceLT, reduceIte, reduceCtorEq, out_n, out_r, out_e, thenX_n, thenX_r, thenX_e]
    )
  all_goals (refine ⟨?_, rfl⟩; simp [labB, *])
theorem sLabelOk_ok {F : Nat → Option IFn} {f : Nat} (hf : F f = some c_sLabelOk) (g0 : ∀ (H : Heap) (a : Int), QC F 65 [.int .i64 a] H (.bool (inB a 0 7))) : ∀ (H : Heap) (v : Value) (a : Int × Int) (_ : Rd Co.p2 true (vw 0 H) v a), QC F f [v] H (.bool (labB a)) := by
  rintro H v ⟨a0, a1⟩ ⟨cs, hc, _, _, rfl, ⟨rfl, b0⟩, ⟨rfl, b1⟩⟩
  simp only [go_sem, binI_lss, binI_leq, binI_gtr, binI_geq, binI_eql, binI_neq, Nat.reduceEqDiff, Nat.reduceAdd, Nat.reduceMul, Nat.reduceSub, Nat.reduceLeDiff, Nat.reduceLT, reduceIte, reduceCtorEq, Option.some.injEq] at hc
  subst hc
  refine QC.mk hf rfl ?_
  repeat' (first
    | refine seq_assoc ?_
    | refine seq_reg ?_
    | refine seq_skip ?_
    | refine seq_regD ?_
    | refine seq_cond (t := true) rfl ?_
    | refine seq_cond (t := false) rfl ?_
    | refine wpc_cond (t := true) rfl ?_
    | refine wpc_cond (t := false) rfl ?_
    | refine seq_block ?_
    | refine wpc_block ?_
    | refine seq_ret ?_
    | refine wpc_ret ?_
    | refine wpc_reg ?_
    | refine wpc_regD ?_
    | refine wpc_skip ?_
    | refine fin_t rfl ?_
    | refine seq_exit ?_
    | refine wpc_exit ?_
    | refine cmp_lss (fun _ => ?_) (fun _ => ?_)
    | refine cmp_leq (fun _ => ?_) (fun _ => ?_)
    | refine cmp_gtr (fun _ => ?_) (fun _ => ?_)
    | refine cmp_geq (fun _ => ?_) (fun _ => ?_)
    | refine cmp_eql (fun _ => ?_) (fun _ => ?_)
    | refine cmp_neq (fun _ => ?_) (fun _ => ?_)
    | (refine op_callB (by simp only [go_sem, Nat.reduceEqDiff, Nat.reduceAdd, Nat.reduceMul, Nat.reduceSub, Nat.reduceLeDiff, Nat.reduceLT, reduceIte, reduceCtorEq, out_n, out_r, out_e, thenX_n, thenX_r, thenX_e]; exact g0 _ _) (fun _ => ?_) (fun _ => ?_))
    | simp only [go_sem, Nat.reduceEqDiff, Nat.reduceAdd, Nat.reduceMul, Nat.reduceSub, Nat.reduceLeDiff, Nat.reduceLT, reduceIte, reduceCtorEq, out_n, out_r, out_e, thenX_n, thenX_r, thenX_e]
    )
  all_goals (refine ⟨?_, rfl⟩; simp [labB, *])
def varB (k : Nat) (a : Int) : Bool := inB a 0 ((k : Int) - 1)
theorem iVar_ok {F : Nat → Option IFn} {f : Nat} (hf : F f = some c_iVar) (g0 : ∀ (H : Heap) (a b c : Int), QC F 48 [.int .i64 a, .int .i64 b, .int .i64 c] H (.bool (inB a b c))) : ∀ (H : Heap) (n : Nat) (v : Value) (p : TProg n) (a : Int) (_ : Rd (Co.prog n) true (vw 0 H) v p), QC F f [v, .int .i64 a] H (.bool (varB p.1.length a)) := by
  rintro H n v ⟨p0, p1⟩ a ⟨cs, hc, _, _, rfl, ⟨v0, rfl, r0⟩, ⟨v1, rfl, r1⟩⟩
  simp only [go_sem, binI_lss, binI_leq, binI_gtr, binI_geq, binI_eql, binI_neq, Nat.reduceEqDiff, Nat.reduceAdd, Nat.reduceMul, Nat.reduceSub, Nat.reduceLeDiff, Nat.reduceLT, reduceIte, reduceCtorEq, Option.some.injEq] at hc
  subst hc
  obtain ⟨_, x0⟩ := r0.shape
  subst x0
  obtain ⟨_, x1⟩ := r1.shape
  subst x1
  have hw : IntKind.i64.wrap ((p0.length : Int) - 1) = (p0.length : Int) - 1 := wrap_id (by omega) (by have := r0.1; simp only at this; omega)
  refine QC.mk hf rfl ?_
  repeat' (first
    | refine seq_assoc ?_
    | refine seq_reg ?_
    | refine seq_skip ?_
    | refine seq_regD ?_
    | refine seq_cond (t := true) rfl ?_
    | refine seq_cond (t := false) rfl ?_
    | refine wpc_cond (t := true) rfl ?_
    | refine wpc_cond (t := false) rfl ?_
    | refine seq_block ?_
    | refine wpc_block ?_
    | refine seq_ret ?_
    | refine wpc_ret ?_
    | refine wpc_reg ?_
    | refine wpc_regD ?_
    | refine wpc_skip ?_
    | refine fin_t rfl ?_
    | refine seq_exit ?_
    | refine wpc_exit ?_
    | refine cmp_lss (fun _ => ?_) (fun _ => ?_)
    | refine cmp_leq (fun _ => ?_) (fun _ => ?_)
    | refine cmp_gtr (fun _ => ?_) (fun _ => ?_)
    | refine cmp_geq (fun _ => ?_) (fun _ => ?_)
    | refine cmp_eql (fun _ => ?_) (fun _ => ?_)
    | refine cmp_neq (fun _ => ?_) (fun _ => ?_)
    | (refine op_callB (by simp only [go_sem, Nat.reduceEqDiff, Nat.reduceAdd, Nat.reduceMul, Nat.reduceSub, Nat.reduceLeDiff, Nat.reduceLT, reduceIte, reduceCtorEq, out_n, out_r, out_e, thenX_n, thenX_r, thenX_e]; exact g0 _ _ _ _) (fun _ => ?_) (fun _ => ?_))
    | simp only [go_sem, Nat.reduceEqDiff, Nat.reduceAdd, Nat.reduceMul, Nat.reduceSub, Nat.reduceLeDiff, Nat.reduceLT, reduceIte, reduceCtorEq, out_n, out_r, out_e, thenX_n, thenX_r, thenX_e]
    )
  all_goals (refine ⟨?_, rfl⟩; rw [hw] at *; simp [varB, *])
theorem sVar_ok {F : Nat → Option IFn} {f : Nat} (hf : F f = some c_sVar) (g0 : ∀ (H : Heap) (a b c : Int), QC F 35 [.int .i64 a, .int .i64 b, .int .i64 c] H (.bool (inB a b c))) : ∀ (H : Heap) (n : Nat) (v : Value) (p : TProg n) (a : Int) (_ : Rd (Co.prog n) true (vw 0 H) v p), QC F f [v, .int .i64 a] H (.bool (varB p.1.length a)) := by
  rintro H n v ⟨p0, p1⟩ a ⟨cs, hc, _, _, rfl, ⟨v0, rfl, r0⟩, ⟨v1, rfl, r1⟩⟩
  simp only [go_sem, binI_lss, binI_leq, binI_gtr, binI_geq, binI_eql, binI_neq, Nat.reduceEqDiff, Nat.reduceAdd, Nat.reduceMul, Nat.reduceSub, Nat.reduceLeDiff, Nat.reduceLT, reduceIte, reduceCtorEq, Option.some.injEq] at hc
  subst hc
  obtain ⟨_, x0⟩ := r0.shape
  subst x0
  obtain ⟨_, x1⟩ := r1.shape
  subst x1
  have hw : IntKind.i64.wrap ((p0.length : Int) - 1) = (p0.length : Int) - 1 := wrap_id (by omega) (by have := r0.1; simp only at this; omega)
  refine QC.mk hf rfl ?_
  repeat' (first
    | refine seq_assoc ?_
    | refine seq_reg ?_
    | refine seq_skip ?_
    | refine seq_regD ?_
    | refine seq_cond (t := true) rfl ?_
    | refine seq_cond (t := false) rfl ?_
    | refine wpc_cond (t := true) rfl ?_
    | refine wpc_cond (t := false) rfl ?_
    | refine seq_block ?_
    | refine wpc_block ?_
    | refine seq_ret ?_
    | refine wpc_ret ?_
    | refine wpc_reg ?_
    | refine wpc_regD ?_
    | refine wpc_skip ?_
    | refine fin_t rfl ?_
    | refine seq_exit ?_
    | refine wpc_exit ?_
    | refine cmp_lss (fun _ => ?_) (fun _ => ?_)
    | refine cmp_leq (fun _ => ?_) (fun _ => ?_)
    | refine cmp_gtr (fun _ => ?_) (fun _ => ?_)
    | refine cmp_geq (fun _ => ?_) (fun _ => ?_)
    | refine cmp_eql (fun _ => ?_) (fun _ => ?_)
    | refine cmp_neq (fun _ => ?_) (fun _ => ?_)
    | (refine op_callB (by simp only [go_sem, Nat.reduceEqDiff, Nat.reduceAdd, Nat.reduceMul, Nat.reduceSub, Nat.reduceLeDiff, Nat.reduceLT, reduceIte, reduceCtorEq, out_n, out_r, out_e, thenX_n, thenX_r, thenX_e]; exact g0 _ _ _ _) (fun _ => ?_) (fun _ => ?_))
    | simp only [go_sem, Nat.reduceEqDiff, Nat.reduceAdd, Nat.reduceMul, Nat.reduceSub, Nat.reduceLeDiff, Nat.reduceLT, reduceIte, reduceCtorEq, out_n, out_r, out_e, thenX_n, thenX_r, thenX_e]
    )
  all_goals (refine ⟨?_, rfl⟩; rw [hw] at *; simp [varB, *])
def valB (k : Nat) (v : Int × Int × Int) : Bool :=
  if v.1 = 1 then inB v.2.1 0 9 && decide (v.2.2 = 0) else if v.1 = 2 then varB k v.2.1 && decide (v.2.2 = 0) else if v.1 = 3 ∨ v.1 = 4 then varB k v.2.1 && varB k v.2.2 else false
theorem iVal_ok {F : Nat → Option IFn} {f : Nat} (hf : F f = some c_iVal) (g0 : ∀ (H : Heap) (a : Int), QC F 94 [.int .i64 a] H (.bool (inB a 0 9))) (g1 : ∀ (H : Heap) (n : Nat) (v : Value) (p : TProg n) (a : Int) (_ : Rd (Co.prog n) true (vw 0 H) v p), QC F 43 [v, .int .i64 a] H (.bool (varB p.1.length a))) : ∀ (H : Heap) (n : Nat) (v u : Value) (p : TProg n) (a : Int × Int × Int) (_ : Rd (Co.prog n) true (vw 0 H) v p) (_ : Rd Co.val true (vw 0 H) u a), QC F f [v, u] H (.bool (valB p.1.length a)) := by
  rintro H n v u ⟨p0, p1⟩ ⟨a0, a1, a2⟩ ⟨cs, hc, _, _, rfl, ⟨v0, rfl, r0⟩, ⟨v1, rfl, r1⟩⟩ ⟨cs2, hc2, _, _, rfl, ⟨rfl, b0⟩, _, _, rfl, ⟨rfl, b1⟩, ⟨rfl, b2⟩⟩
  have hp : ∀ L, Rd (Co.prog n) true (vw 0 (H ++ L)) (.agg #[v0, v1]) (p0, p1) := fun L => ⟨_, rfl, _, _, rfl, ⟨_, rfl, r0.mono (vw_app 0 H L)⟩, ⟨_, rfl, r1.mono (vw_app 0 H L)⟩⟩
  simp only [go_sem, binI_lss, binI_leq, binI_gtr, binI_geq, binI_eql, binI_neq, Nat.reduceEqDiff, Nat.reduceAdd, Nat.reduceMul, Nat.reduceSub, Nat.reduceLeDiff, Nat.reduceLT, reduceIte, reduceCtorEq, Option.some.injEq] at hc2
  subst hc2
  simp only [go_sem, binI_lss, binI_leq, binI_gtr, binI_geq, binI_eql, binI_neq, Nat.reduceEqDiff, Nat.reduceAdd, Nat.reduceMul, Nat.reduceSub, Nat.reduceLeDiff, Nat.reduceLT, reduceIte, reduceCtorEq, Option.some.injEq] at hc
  subst hc
  obtain ⟨_, x0⟩ := r0.shape
  subst x0
  obtain ⟨_, x1⟩ := r1.shape
  subst x1
  skip
  have hw : IntKind.i64.wrap ((p0.length : Int) - 1) = (p0.length : Int) - 1 := wrap_id (by omega) (by have := r0.1; simp only at this; omega)
  refine QC.mk hf rfl ?_
  repeat' (first
    | refine seq_assoc ?_
    | refine seq_reg ?_
    | refine seq_skip ?_
    | refine seq_regD ?_
    | refine seq_cond (t := true) rfl ?_
    | refine seq_cond (t := false) rfl ?_
    | refine wpc_cond (t := true) rfl ?_
    | refine wpc_cond (t := false) rfl ?_
    | refine seq_block ?_
    | refine wpc_block ?_
    | refine seq_ret ?_
    | refine wpc_ret ?_
    | refine wpc_reg ?_
    | refine wpc_regD ?_
    | refine wpc_skip ?_
    | refine fin_t rfl ?_
    | refine seq_exit ?_
    | refine wpc_exit ?_
    | refine cmp_lss (fun _ => ?_) (fun _ => ?_)
    | refine cmp_leq (fun _ => ?_) (fun _ => ?_)
    | refine cmp_gtr (fun _ => ?_) (fun _ => ?_)
    | refine cmp_geq (fun _ => ?_) (fun _ => ?_)
    | refine cmp_eql (fun _ => ?_) (fun _ => ?_)
    | refine cmp_neq (fun _ => ?_) (fun _ => ?_)
    | (refine op_callB (by simp only [go_sem, Nat.reduceEqDiff, Nat.reduceAdd, Nat.reduceMul, Nat.reduceSub, Nat.reduceLeDiff, Nat.reduceLT, reduceIte, reduceCtorEq, out_n, out_r, out_e, thenX_n, thenX_r, thenX_e]; exact g0 _ _) (fun _ => ?_) (fun _ => ?_))
    | (refine op_callB (by simp only [go_sem, Nat.reduceEqDiff, Nat.reduceAdd, Nat.reduceMul, Nat.reduceSub, Nat.reduceLeDiff, Nat.reduceLT, reduceIte, reduceCtorEq, out_n, out_r, out_e, thenX_n, thenX_r, thenX_e]; exact g1 _ n _ (p0, p1) _ (hp _)) (fun _ => ?_) (fun _ => ?_))
    | simp only [go_sem, Nat.reduceEqDiff, Nat.reduceAdd, Nat.reduceMul, Nat.reduceSub, Nat.reduceLeDiff, Nat.reduceLT, reduceIte, reduceCtorEq, out_n, out_r, out_e, thenX_n, thenX_r, thenX_e]
    )
  all_goals (refine ⟨?_, rfl⟩; simp [valB, *])
theorem sVal_ok {F : Nat → Option IFn} {f : Nat} (hf : F f = some c_sVal) (g0 : ∀ (H : Heap) (a b c : Int), QC F 35 [.int .i64 a, .int .i64 b, .int .i64 c] H (.bool (inB a b c))) (g1 : ∀ (H : Heap) (n : Nat) (v : Value) (p : TProg n) (a : Int) (_ : Rd (Co.prog n) true (vw 0 H) v p), QC F 34 [v, .int .i64 a] H (.bool (varB p.1.length a))) : ∀ (H : Heap) (n : Nat) (v u : Value) (p : TProg n) (a : Int × Int × Int) (_ : Rd (Co.prog n) true (vw 0 H) v p) (_ : Rd Co.val true (vw 0 H) u a), QC F f [v, u] H (.bool (valB p.1.length a)) := by
  rintro H n v u ⟨p0, p1⟩ ⟨a0, a1, a2⟩ ⟨cs, hc, _, _, rfl, ⟨v0, rfl, r0⟩, ⟨v1, rfl, r1⟩⟩ ⟨cs2, hc2, _, _, rfl, ⟨rfl, b0⟩, _, _, rfl, ⟨rfl, b1⟩, ⟨rfl, b2⟩⟩
  have hp : ∀ L, Rd (Co.prog n) true (vw 0 (H ++ L)) (.agg #[v0, v1]) (p0, p1) := fun L => ⟨_, rfl, _, _, rfl, ⟨_, rfl, r0.mono (vw_app 0 H L)⟩, ⟨_, rfl, r1.mono (vw_app 0 H L)⟩⟩
  simp only [go_sem, binI_lss, binI_leq, binI_gtr, binI_geq, binI_eql, binI_neq, Nat.reduceEqDiff, Nat.reduceAdd, Nat.reduceMul, Nat.reduceSub, Nat.reduceLeDiff, Nat.reduceLT, reduceIte, reduceCtorEq, Option.some.injEq] at hc2
  subst hc2
  simp only [go_sem, binI_lss, binI_leq, binI_gtr, binI_geq, binI_eql, binI_neq, Nat.reduceEqDiff, Nat.reduceAdd, Nat.reduceMul, Nat.reduceSub, Nat.reduceLeDiff, Nat.reduceLT, reduceIte, reduceCtorEq, Option.some.injEq] at hc
  subst hc
  obtain ⟨_, x0⟩ := r0.shape
  subst x0
  obtain ⟨_, x1⟩ := r1.shape
  subst x1
  skip
  have hw : IntKind.i64.wrap ((p0.length : Int) - 1) = (p0.length : Int) - 1 := wrap_id (by omega) (by have := r0.1; simp only at this; omega)
  refine QC.mk hf rfl ?_
  repeat' (first
    | refine seq_assoc ?_
    | refine seq_reg ?_
    | refine seq_skip ?_
    | refine seq_regD ?_
    | refine seq_cond (t := true) rfl ?_
    | refine seq_cond (t := false) rfl ?_
    | refine wpc_cond (t := true) rfl ?_
    | refine wpc_cond (t := false) rfl ?_
    | refine seq_block ?_
    | refine wpc_block ?_
    | refine seq_ret ?_
    | refine wpc_ret ?_
    | refine wpc_reg ?_
    | refine wpc_regD ?_
    | refine wpc_skip ?_
    | refine fin_t rfl ?_
    | refine seq_exit ?_
    | refine wpc_exit ?_
    | refine cmp_lss (fun _ => ?_) (fun _ => ?_)
    | refine cmp_leq (fun _ => ?_) (fun _ => ?_)
    | refine cmp_gtr (fun _ => ?_) (fun _ => ?_)
    | refine cmp_geq (fun _ => ?_) (fun _ => ?_)
    | refine cmp_eql (fun _ => ?_) (fun _ => ?_)
    | refine cmp_neq (fun _ => ?_) (fun _ => ?_)
    | (refine op_callB (by simp only [go_sem, Nat.reduceEqDiff, Nat.reduceAdd, Nat.reduceMul, Nat.reduceSub, Nat.reduceLeDiff, Nat.reduceLT, reduceIte, reduceCtorEq, out_n, out_r, out_e, thenX_n, thenX_r, thenX_e]; exact g0 _ _ _ _) (fun _ => ?_) (fun _ => ?_))
    | (refine op_callB (by simp only [go_sem, Nat.reduceEqDiff, Nat.reduceAdd, Nat.reduceMul, Nat.reduceSub, Nat.reduceLeDiff, Nat.reduceLT, reduceIte, reduceCtorEq, out_n, out_r, out_e, thenX_n, thenX_r, thenX_e]; exact g1 _ n _ (p0, p1) _ (hp _)) (fun _ => ?_) (fun _ => ?_))
    | simp only [go_sem, Nat.reduceEqDiff, Nat.reduceAdd, Nat.reduceMul, Nat.reduceSub, Nat.reduceLeDiff, Nat.reduceLT, reduceIte, reduceCtorEq, out_n, out_r, out_e, thenX_n, thenX_r, thenX_e]
    )
  all_goals (refine ⟨?_, rfl⟩; simp [valB, *])
end Go.Proofs.YtkdhdklggdbgdaaI
