/- The program's test of steps: what is done for each kind. -/
import Derived.Test.YtkdhdklggdbgdaaQ5n
set_option linter.unusedVariables false
set_option linter.unusedSimpArgs false
namespace Go.Proofs.YtkdhdklggdbgdaaI
open Go Go.RowKit
attribute [local irreducible] optP wpo wpp wpc binI Kc Kp wpOp thenX eqsV
def c_tests : List IOper := [
          ⟨(some 16), none, .mov (.t 2)⟩,
          ⟨(some 17), none, .bin .lss (.t 16) (.c (.int .i64 1))⟩,
          ⟨(some 18), none, .mov (.t 17)⟩,
          ⟨(some 19), (some (18, false)), .load true 2 (.t 3)⟩,
          ⟨(some 20), (some (18, false)), .fad 1 (.t 8)⟩,
          ⟨(some 21), (some (18, false)), .load false 1 (.t 20)⟩,
          ⟨(some 22), (some (18, false)), .call .q (.f 43) [(.t 19), (.t 21)]⟩,
          ⟨(some 23), (some (18, false)), .un .not (.t 22)⟩,
          ⟨(some 24), none, .pick (.t 18) (.c (.bool true)) (.t 23)⟩,
          ⟨(some 25), none, .mov (.t 24)⟩,
          ⟨(some 26), (some (25, false)), .fad 0 (.t 8)⟩,
          ⟨(some 27), (some (25, false)), .load false 1 (.t 26)⟩,
          ⟨(some 28), (some (25, false)), .bin .neq (.t 27) (.c (.int .i64 1))⟩,
          ⟨(some 29), (some (25, false)), .mov (.t 28)⟩,
          ⟨(some 30), (some (29, true)), .fad 2 (.t 8)⟩,
          ⟨(some 31), (some (29, true)), .load true 3 (.t 30)⟩,
          ⟨(some 32), (some (29, true)), .build [(.int .i64 0), (.int .i64 0), (.int .i64 0)] []⟩,
          ⟨(some 33), (some (29, true)), .eqs true 3 (.t 31) (.t 32)⟩,
          ⟨(some 34), (some (25, false)), .pick (.t 29) (.t 33) (.c (.bool false))⟩,
          ⟨(some 35), none, .pick (.t 25) (.c (.bool true)) (.t 34)⟩,
          ⟨(some 36), none, .mov (.t 35)⟩,
          ⟨(some 37), (some (36, false)), .fad 0 (.t 8)⟩,
          ⟨(some 38), (some (36, false)), .load false 1 (.t 37)⟩,
          ⟨(some 39), (some (36, false)), .bin .neq (.t 38) (.c (.int .i64 3))⟩,
          ⟨(some 40), (some (36, false)), .mov (.t 39)⟩,
          ⟨(some 41), (some (40, true)), .fad 5 (.t 8)⟩,
          ⟨(some 42), (some (40, true)), .load false 1 (.t 41)⟩,
          ⟨(some 43), (some (40, true)), .bin .neq (.t 42) (.c (.int .i64 0))⟩,
          ⟨(some 44), (some (36, false)), .pick (.t 40) (.t 43) (.c (.bool false))⟩,
          ⟨(some 45), none, .pick (.t 36) (.c (.bool true)) (.t 44)⟩,
          ⟨(some 46), none, .mov (.t 45)⟩,
          ⟨(some 47), (some (46, false)), .fad 0 (.t 8)⟩,
          ⟨(some 48), (some (46, false)), .load false 1 (.t 47)⟩,
          ⟨(some 49), (some (46, false)), .bin .neq (.t 48) (.c (.int .i64 2))⟩,
          ⟨(some 50), (some (46, false)), .mov (.t 49)⟩,
          ⟨(some 51), (some (50, true)), .fad 6 (.t 8)⟩,
          ⟨(some 52), (some (50, true)), .load false 1 (.t 51)⟩,
          ⟨(some 53), (some (50, true)), .len (.t 52)⟩,
          ⟨(some 54), (some (50, true)), .fad 7 (.t 8)⟩,
          ⟨(some 55), (some (50, true)), .load false 1 (.t 54)⟩,
          ⟨(some 56), (some (50, true)), .len (.t 55)⟩,
          ⟨(some 57), (some (50, true)), .bin .add (.t 53) (.t 56)⟩,
          ⟨(some 58), (some (50, true)), .bin .gtr (.t 57) (.c (.int .i64 0))⟩,
          ⟨(some 59), (some (46, false)), .pick (.t 50) (.t 58) (.c (.bool false))⟩,
          ⟨(some 60), none, .pick (.t 46) (.c (.bool true)) (.t 59)⟩]
def c_rest : ICode := (.seq (.reg none [
         ⟨(some 9), none, .mov (.c (.bool false))⟩])
      (.seq (.seq (.reg none [
          ⟨(some 61), none, .fad 0 (.t 8)⟩,
          ⟨(some 62), none, .load false 1 (.t 61)⟩])
       (.block 2 (.seq (.reg none [
           ⟨(some 64), none, .bin .eql (.t 62) (.c (.int .i64 1))⟩,
           ⟨(some 63), none, .mov (.t 64)⟩])
        (.cond (.t 63) (.reg none [
           ⟨(some 65), none, .load true 2 (.t 3)⟩,
           ⟨(some 66), none, .fad 2 (.t 8)⟩,
           ⟨(some 67), none, .load true 3 (.t 66)⟩,
           ⟨(some 68), none, .call .q (.f 91) [(.t 65), (.t 67)]⟩,
           ⟨(some 9), none, .mov (.t 68)⟩]) (.seq (.reg none [
            ⟨(some 70), none, .bin .eql (.t 62) (.c (.int .i64 2))⟩,
            ⟨(some 69), none, .mov (.t 70)⟩])
         (.cond (.t 69) (.reg none [
            ⟨(some 71), none, .load true 2 (.t 3)⟩,
            ⟨(some 72), none, .fad 6 (.t 8)⟩,
            ⟨(some 73), none, .load false 1 (.t 72)⟩,
            ⟨(some 74), none, .mov (.t 2)⟩,
            ⟨(some 75), none, .bin .sub (.t 74) (.c (.int .i64 1))⟩,
            ⟨(some 76), none, .call .q (.f 72) [(.t 71), (.t 73), (.t 75)]⟩,
            ⟨(some 77), none, .mov (.t 76)⟩,
            ⟨(some 78), (some (77, true)), .load true 2 (.t 3)⟩,
            ⟨(some 79), (some (77, true)), .fad 7 (.t 8)⟩,
            ⟨(some 80), (some (77, true)), .load false 1 (.t 79)⟩,
            ⟨(some 81), (some (77, true)), .mov (.t 2)⟩,
            ⟨(some 82), (some (77, true)), .bin .sub (.t 81) (.c (.int .i64 1))⟩,
            ⟨(some 83), (some (77, true)), .call .q (.f 72) [(.t 78), (.t 80), (.t 82)]⟩,
            ⟨(some 84), none, .pick (.t 77) (.t 83) (.c (.bool false))⟩,
            ⟨(some 9), none, .mov (.t 84)⟩]) (.seq (.reg none [
             ⟨(some 86), none, .bin .eql (.t 62) (.c (.int .i64 3))⟩,
             ⟨(some 85), none, .mov (.t 86)⟩])
          (.cond (.t 85) (.reg none [
             ⟨(some 87), none, .fad 5 (.t 8)⟩,
             ⟨(some 88), none, .load false 1 (.t 87)⟩,
             ⟨(some 89), none, .call .q (.f 44) [(.t 88)]⟩,
             ⟨(some 9), none, .mov (.t 89)⟩]) (.skip)))))))))
      (.seq (.reg none [
         ⟨(some 90), none, .mov (.t 9)⟩,
         ⟨(some 91), none, .un .not (.t 90)⟩])
      (.cond (.t 91) (.seq (.reg none [
          ⟨(some 6), none, .mov (.c (.bool false))⟩])
       (.ret)) (.skip)))))
def c_iStepsB : ICode := (.seq (.reg none [
       ⟨(some 13), none, .bin .lss (.t 12) (.t 11)⟩])
    (.seq (.cond (.t 13) (.skip) (.exit 0))
    (.seq (.block 1 (.seq (.reg none [
         ⟨(some 14), none, .iad 8 (.t 10) (.t 12)⟩,
         ⟨(some 15), none, .load true 8 (.t 14)⟩,
         ⟨(some 8), none, .new [(.int .i64 0), (.int .i64 0), (.int .i64 0), (.int .i64 0), (.int .i64 0), (.int .i64 0), (.slice none 0 0), (.slice none 0 0)]⟩,
         ⟨none, none, .store 8 (.t 8) (.t 15)⟩])
      (.seq (.seq (.reg none c_tests)
       (.cond (.t 60) (.seq (.reg none [
           ⟨(some 6), none, .mov (.c (.bool false))⟩])
        (.ret)) (.skip)))
      c_rest)))
    (.reg none [
      ⟨(some 92), none, .bin .add (.t 12) (.c (.int .i64 1))⟩,
      ⟨(some 12), none, .mov (.t 92)⟩]))))
theorem rest_ok {F : Nat → Option IFn} {lo m n : Nat} {H : Heap} {e : Env} {K : X → Env → Heap → Prop} {b c : Nat} {v0 v1 : Value} {p : TProg m} {d a0 a1 a2 a3 a4 a5 : Int} {a6 a7 : List (TStep n)} {u6 u7 : Option Addr} (g2 : ValOk F 91) (g4 : ∀ (H : Heap) (a : Int), QC F 44 [.int .i64 a] H (.bool (inB a 0 2))) (g3 : StepsOk F 72 n)
    (hp : Rd (Co.prog m) true (vw 0 H) (.agg #[v0, v1]) p) (hv : Rd Co.val true (vw 0 H) (.agg #[.int .i64 a2, .int .i64 a3, .int .i64 a4]) (a2, a3, a4)) (r6 : SlR (Co.step n) (vw 0 H) (.slice u6 a6.length a6.length) a6) (r7 : SlR (Co.step n) (vw 0 H) (.slice u7 a7.length a7.length) a7) (s6 : (Co.sl (Co.step n)).sm a6) (s7 : (Co.sl (Co.step n)).sm a7)
    (hd1 : 1 ≤ d) (hd3 : d ≤ 3) (hd : IntKind.i64.wrap (d - 1) = d - 1)
    (e2 : e 2 = .int .i64 d) (e3 : e 3 = ptr b 0) (e8 : e 8 = ptr c 0) (gb : getCells H b 0 2 = some [v0, v1]) (gc0 : getCells H c 0 1 = some [.int .i64 a0]) (gc2 : getCells H c 2 3 = some [.int .i64 a2, .int .i64 a3, .int .i64 a4]) (gc5 : getCells H c 5 1 = some [.int .i64 a5]) (gc6 : getCells H c 6 1 = some [.slice u6 a6.length a6.length]) (gc7 : getCells H c 7 1 = some [.slice u7 a7.length a7.length])
    (hK1 : ∀ e1, Same e e1 → (if a0 = 1 then valB p.1.length (a2, a3, a4) else if a0 = 2 then a6.all (stepB p.1.length n (d - 1)) && a7.all (stepB p.1.length n (d - 1)) else if a0 = 3 then inB a5 0 2 else false) = true → K .n e1 H)
    (hK2 : ∀ e1, e1 6 = .bool false → (if a0 = 1 then valB p.1.length (a2, a3, a4) else if a0 = 2 then a6.all (stepB p.1.length n (d - 1)) && a7.all (stepB p.1.length n (d - 1)) else if a0 = 3 then inB a5 0 2 else false) = false → K .r e1 H) : wpc F lo c_rest e H K := by
  generalize hA6 : a6.all (stepB p.1.length n (d - 1)) = A6 at hK1 hK2
  generalize hA7 : a7.all (stepB p.1.length n (d - 1)) = A7 at hK1 hK2
  have q6 := g3 H m _ _ p a6 (d - 1) hp r6 s6 (by omega) (by omega)
  have q7 := g3 H m _ _ p a7 (d - 1) hp r7 s7 (by omega) (by omega)
  rw [hA6] at q6
  rw [hA7] at q7
  unfold c_rest
  repeat' (first
    | refine seq_assoc ?_
    | refine seq_reg ?_
    | refine seq_skip ?_
    | refine seq_regD ?_
    | refine seq_cond (t := true) rfl ?_
    | refine seq_cond (t := false) rfl ?_
    | refine wpc_cond (t := true) rfl ?_
    | refine wpc_cond (t := false) rfl ?_
    | refine seq_block ?_
    | refine wpc_block ?_
    | refine seq_ret ?_
    | refine wpc_ret ?_
    | refine wpc_reg ?_
    | refine wpc_regD ?_
    | refine wpc_skip ?_
    | refine fin_t rfl ?_
    | refine seq_exit ?_
    | refine wpc_exit ?_
    | refine cmp_lss (fun _ => ?_) (fun _ => ?_)
    | refine cmp_leq (fun _ => ?_) (fun _ => ?_)
    | refine cmp_gtr (fun _ => ?_) (fun _ => ?_)
    | refine cmp_geq (fun _ => ?_) (fun _ => ?_)
    | refine cmp_eql (fun _ => ?_) (fun _ => ?_)
    | refine cmp_neq (fun _ => ?_) (fun _ => ?_)
    | (refine op_callB (by simp only [go_sem, Nat.reduceEqDiff, Nat.reduceAdd, Nat.reduceMul, Nat.reduceSub, Nat.reduceLeDiff, Nat.reduceLT, reduceIte, reduceCtorEq, out_n, out_r, out_e, thenX_n, thenX_r, thenX_e, hd, e2, e3, e8, gb, gc0, gc2, gc5, gc6, gc7, Bool.not_true, Bool.not_false]; exact g2 _ m _ _ p (a2, a3, a4) hp hv) (fun _ => ?_) (fun _ => ?_))
    | (refine op_callB (by simp only [go_sem, Nat.reduceEqDiff, Nat.reduceAdd, Nat.reduceMul, Nat.reduceSub, Nat.reduceLeDiff, Nat.reduceLT, reduceIte, reduceCtorEq, out_n, out_r, out_e, thenX_n, thenX_r, thenX_e, hd, e2, e3, e8, gb, gc0, gc2, gc5, gc6, gc7, Bool.not_true, Bool.not_false]; exact g4 _ _) (fun _ => ?_) (fun _ => ?_))
    | (refine op_callB (by simp only [go_sem, Nat.reduceEqDiff, Nat.reduceAdd, Nat.reduceMul, Nat.reduceSub, Nat.reduceLeDiff, Nat.reduceLT, reduceIte, reduceCtorEq, out_n, out_r, out_e, thenX_n, thenX_r, thenX_e, hd, e2, e3, e8, gb, gc0, gc2, gc5, gc6, gc7, Bool.not_true, Bool.not_false]; exact q6) (fun _ => ?_) (fun _ => ?_))
    | (refine op_callB (by simp only [go_sem, Nat.reduceEqDiff, Nat.reduceAdd, Nat.reduceMul, Nat.reduceSub, Nat.reduceLeDiff, Nat.reduceLT, reduceIte, reduceCtorEq, out_n, out_r, out_e, thenX_n, thenX_r, thenX_e, hd, e2, e3, e8, gb, gc0, gc2, gc5, gc6, gc7, Bool.not_true, Bool.not_false]; exact q7) (fun _ => ?_) (fun _ => ?_))
    | simp only [go_sem, Nat.reduceEqDiff, Nat.reduceAdd, Nat.reduceMul, Nat.reduceSub, Nat.reduceLeDiff, Nat.reduceLT, reduceIte, reduceCtorEq, out_n, out_r, out_e, thenX_n, thenX_r, thenX_e, hd, e2, e3, e8, gb, gc0, gc2, gc5, gc6, gc7, Bool.not_true, Bool.not_false]
    )
  all_goals first
    | (refine hK2 _ ?_ ?_ <;> first | (simp only [go_sem, binI_lss, binI_leq, binI_gtr, binI_geq, binI_eql, binI_neq, Nat.reduceEqDiff, Nat.reduceAdd, Nat.reduceMul, Nat.reduceSub, Nat.reduceLeDiff, Nat.reduceLT, reduceIte, reduceCtorEq]; done) | (simp [*]; done) | (simp_all; done))
    | (refine hK1 _ ?_ ?_ <;> first | exact ⟨by simp only [go_sem, binI_lss, binI_leq, binI_gtr, binI_geq, binI_eql, binI_neq, Nat.reduceEqDiff, Nat.reduceAdd, Nat.reduceMul, Nat.reduceSub, Nat.reduceLeDiff, Nat.reduceLT, reduceIte, reduceCtorEq], by simp only [go_sem, binI_lss, binI_leq, binI_gtr, binI_geq, binI_eql, binI_neq, Nat.reduceEqDiff, Nat.reduceAdd, Nat.reduceMul, Nat.reduceSub, Nat.reduceLeDiff, Nat.reduceLT, reduceIte, reduceCtorEq], by simp only [go_sem, binI_lss, binI_leq, binI_gtr, binI_geq, binI_eql, binI_neq, Nat.reduceEqDiff, Nat.reduceAdd, Nat.reduceMul, Nat.reduceSub, Nat.reduceLeDiff, Nat.reduceLT, reduceIte, reduceCtorEq], by simp only [go_sem, binI_lss, binI_leq, binI_gtr, binI_geq, binI_eql, binI_neq, Nat.reduceEqDiff, Nat.reduceAdd, Nat.reduceMul, Nat.reduceSub, Nat.reduceLeDiff, Nat.reduceLT, reduceIte, reduceCtorEq], by simp only [go_sem, binI_lss, binI_leq, binI_gtr, binI_geq, binI_eql, binI_neq, Nat.reduceEqDiff, Nat.reduceAdd, Nat.reduceMul, Nat.reduceSub, Nat.reduceLeDiff, Nat.reduceLT, reduceIte, reduceCtorEq], by simp only [go_sem, binI_lss, binI_leq, binI_gtr, binI_geq, binI_eql, binI_neq, Nat.reduceEqDiff, Nat.reduceAdd, Nat.reduceMul, Nat.reduceSub, Nat.reduceLeDiff, Nat.reduceLT, reduceIte, reduceCtorEq]⟩ | (simp [*]; done) | (simp_all; done))
end Go.Proofs.YtkdhdklggdbgdaaI
