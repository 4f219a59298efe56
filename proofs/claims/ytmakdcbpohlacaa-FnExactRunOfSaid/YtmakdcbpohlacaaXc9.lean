/- Texts of this proof, merged: V14X, GL65, K17, CL65. -/
import Derived.Test.YtmakdcbpohlacaaXc7
import Derived.Test.YtmakdcbpohlacaaXc8
import Derived.Test.YtmakdcbpohlacaaRows
section
/- The law FnExactRunOf on the ideal machine. -/
set_option linter.unusedVariables false
set_option linter.unusedSimpArgs false
namespace Go.Proofs.YtmakdcbpohlacaaI
open Go Go.RowKit
def c_lawERO : IFn := ⟨2, 117, [.t 4],
 .seq (.reg none [
    ⟨(some 2), none, .box (.t 0)⟩,
    ⟨(some 4), none, .mov (.c (.bool false))⟩])
 (.seq (.seq (.reg none [
     ⟨(some 17), none, .mov (.t 1)⟩,
     ⟨(some 18), none, .len (.t 17)⟩,
     ⟨(some 19), none, .bin .gtr (.t 18) (.c (.int .i64 1048576))⟩])
  (.cond (.t 19) (.seq (.reg none [
      ⟨(some 4), none, .mov (.c (.bool true))⟩])
   (.ret)) (.skip)))
 (.seq (.reg none [
    ⟨(some 5), none, .mov (.c (.int .i64 1048576))⟩])
 (.seq (.reg none [
    ⟨(some 20), none, .load true 2 (.t 2)⟩,
    ⟨(some 21), none, .mov (.t 5)⟩,
    ⟨(some 22), none, .call .q (.f 7) [(.t 20), (.t 21)]⟩,
    ⟨(some 5), none, .mov (.t 22)⟩])
 (.seq (.seq (.reg none [
     ⟨(some 23), none, .mov (.t 5)⟩,
     ⟨(some 24), none, .bin .lss (.t 23) (.c (.int .i64 0))⟩])
  (.cond (.t 24) (.seq (.reg none [
      ⟨(some 4), none, .mov (.c (.bool true))⟩])
   (.ret)) (.skip)))
 (.seq (.reg none [
    ⟨(some 26), none, .load true 2 (.t 2)⟩,
    ⟨(some 27), none, .call .k (.f 9) [(.t 26)]⟩,
    ⟨(some 28), none, .mov (.t 1)⟩,
    ⟨(some 29), none, .call .k (.f 10) [(.t 28)]⟩,
    ⟨(some 30), none, .call .k (.f 20) [(.t 27), (.t 29)]⟩,
    ⟨(some 25), none, .mov (.t 30)⟩,
    ⟨(some 31), none, .ext (.t 25) 0⟩,
    ⟨(some 32), none, .ext (.t 25) 1⟩,
    ⟨(some 6), none, .new [(.slice none 0 0), (.slice none 0 0), (.slice none 0 0)]⟩,
    ⟨none, none, .store 3 (.t 6) (.t 31)⟩,
    ⟨(some 7), none, .mov (.t 32)⟩])
 (.seq (.reg none [
    ⟨(some 33), none, .load true 2 (.t 2)⟩,
    ⟨(some 34), none, .call .k (.f 9) [(.t 33)]⟩,
    ⟨(some 8), none, .new [(.slice none 0 0), (.slice none 0 0)]⟩,
    ⟨none, none, .store 2 (.t 8) (.t 34)⟩])
 (.seq (.reg none [
    ⟨(some 35), none, .mov (.t 1)⟩,
    ⟨(some 36), none, .call .k (.f 10) [(.t 35)]⟩,
    ⟨(some 9), none, .mov (.t 36)⟩])
 (.seq (.reg none [
    ⟨(some 38), none, .load true 2 (.t 8)⟩,
    ⟨(some 39), none, .mov (.t 9)⟩,
    ⟨(some 40), none, .call .k (.f 21) [(.t 38), (.t 39)]⟩,
    ⟨(some 37), none, .mov (.t 40)⟩,
    ⟨(some 41), none, .ext (.t 37) 0⟩,
    ⟨(some 42), none, .ext (.t 37) 1⟩,
    ⟨(some 10), none, .new [(.slice none 0 0), (.slice none 0 0), (.slice none 0 0)]⟩,
    ⟨none, none, .store 3 (.t 10) (.t 41)⟩,
    ⟨(some 11), none, .mov (.t 42)⟩])
 (.seq (.seq (.reg none [
     ⟨(some 43), none, .load true 3 (.t 10)⟩,
     ⟨(some 44), none, .load true 3 (.t 6)⟩,
     ⟨(some 45), none, .call .q (.f 23) [(.t 43), (.t 44)]⟩,
     ⟨(some 46), none, .un .not (.t 45)⟩,
     ⟨(some 47), none, .mov (.t 46)⟩,
     ⟨(some 48), (some (47, false)), .mov (.t 11)⟩,
     ⟨(some 49), (some (47, false)), .mov (.t 7)⟩,
     ⟨(some 50), (some (47, false)), .beq true (.t 48) (.t 49)⟩,
     ⟨(some 51), none, .pick (.t 47) (.c (.bool true)) (.t 50)⟩])
  (.cond (.t 51) (.seq (.reg none [
      ⟨(some 4), none, .mov (.c (.bool false))⟩])
   (.ret)) (.skip)))
 (.seq (.seq (.reg (some 3) [
     ⟨(some 52), none, .load true 2 (.t 8)⟩,
     ⟨(some 53), none, .load true 2 (.t 2)⟩,
     ⟨(some 54), none, .call .k (.f 9) [(.t 53)]⟩,
     ⟨(some 55), none, .call .q (.f 12) [(.t 52), (.t 54)]⟩,
     ⟨(some 56), none, .un .not (.t 55)⟩])
  (.cond (.t 56) (.seq (.reg none [
      ⟨(some 4), none, .mov (.c (.bool false))⟩])
   (.ret)) (.skip)))
 (.seq (.seq (.reg none [
     ⟨(some 57), none, .mov (.t 9)⟩,
     ⟨(some 58), none, .mov (.t 1)⟩,
     ⟨(some 59), none, .call .k (.f 10) [(.t 58)]⟩,
     ⟨(some 60), none, .call .q (.f 13) [(.t 57), (.t 59)]⟩,
     ⟨(some 61), none, .un .not (.t 60)⟩])
  (.cond (.t 61) (.seq (.reg none [
      ⟨(some 4), none, .mov (.c (.bool false))⟩])
   (.ret)) (.skip)))
 (.seq (.reg none [
    ⟨(some 12), none, .mov (.c (.int .i64 1))⟩])
 (.seq (.reg none [
    ⟨(some 62), none, .load true 2 (.t 8)⟩,
    ⟨(some 63), none, .mov (.t 12)⟩,
    ⟨(some 64), none, .call .n (.f 14) [(.t 62), (.t 63)]⟩,
    ⟨(some 12), none, .mov (.t 64)⟩])
 (.seq (.reg none [
    ⟨(some 65), none, .mov (.t 9)⟩,
    ⟨(some 66), none, .mov (.t 12)⟩,
    ⟨(some 67), none, .call .n (.f 15) [(.t 65), (.t 66)]⟩,
    ⟨(some 12), none, .mov (.t 67)⟩])
 (.seq (.seq (.reg none [
     ⟨(some 68), none, .mov (.t 12)⟩,
     ⟨(some 69), none, .bin .lss (.t 68) (.c (.int .i64 0))⟩,
     ⟨(some 70), none, .mov (.t 69)⟩,
     ⟨(some 71), (some (70, false)), .load true 3 (.t 10)⟩,
     ⟨(some 72), (some (70, false)), .load true 3 (.t 6)⟩,
     ⟨(some 73), (some (70, false)), .call .q (.f 23) [(.t 71), (.t 72)]⟩,
     ⟨(some 74), (some (70, false)), .un .not (.t 73)⟩,
     ⟨(some 75), none, .pick (.t 70) (.c (.bool true)) (.t 74)⟩,
     ⟨(some 76), none, .mov (.t 75)⟩,
     ⟨(some 77), (some (76, false)), .mov (.t 11)⟩,
     ⟨(some 78), (some (76, false)), .mov (.t 7)⟩,
     ⟨(some 79), (some (76, false)), .beq true (.t 77) (.t 78)⟩,
     ⟨(some 80), none, .pick (.t 76) (.c (.bool true)) (.t 79)⟩])
  (.cond (.t 80) (.seq (.reg none [
      ⟨(some 4), none, .mov (.c (.bool false))⟩])
   (.ret)) (.skip)))
 (.seq (.reg none [
    ⟨(some 13), none, .mov (.c (.int .i64 1))⟩])
 (.seq (.reg none [
    ⟨(some 81), none, .load true 3 (.t 10)⟩,
    ⟨(some 82), none, .mov (.t 13)⟩,
    ⟨(some 83), none, .call .n (.f 24) [(.t 81), (.t 82)]⟩,
    ⟨(some 13), none, .mov (.t 83)⟩])
 (.seq (.reg none [
    ⟨(some 14), none, .mov (.c (.int .i64 1))⟩])
 (.seq (.reg none [
    ⟨(some 84), none, .load true 3 (.t 10)⟩,
    ⟨(some 85), none, .mov (.t 14)⟩,
    ⟨(some 86), none, .call .q (.f 25) [(.t 84), (.t 85)]⟩,
    ⟨(some 14), none, .mov (.t 86)⟩])
 (.seq (.seq (.reg none [
     ⟨(some 87), none, .mov (.t 14)⟩,
     ⟨(some 88), none, .bin .lss (.t 87) (.c (.int .i64 0))⟩])
  (.cond (.t 88) (.seq (.reg none [
      ⟨(some 4), none, .mov (.c (.bool false))⟩])
   (.ret)) (.skip)))
 (.seq (.seq (.reg none [
     ⟨(some 89), none, .mov (.t 14)⟩,
     ⟨(some 90), none, .mov (.t 13)⟩,
     ⟨(some 91), none, .bin .neq (.t 89) (.t 90)⟩])
  (.cond (.t 91) (.seq (.reg none [
      ⟨(some 4), none, .mov (.c (.bool false))⟩])
   (.ret)) (.skip)))
 (.seq (.reg none [
    ⟨(some 93), none, .load true 2 (.t 2)⟩,
    ⟨(some 94), none, .call .k (.f 9) [(.t 93)]⟩,
    ⟨(some 95), none, .mov (.t 1)⟩,
    ⟨(some 96), none, .call .k (.f 10) [(.t 95)]⟩,
    ⟨(some 97), none, .call .k (.f 21) [(.t 94), (.t 96)]⟩,
    ⟨(some 92), none, .mov (.t 97)⟩,
    ⟨(some 98), none, .ext (.t 92) 0⟩,
    ⟨(some 99), none, .ext (.t 92) 1⟩,
    ⟨(some 15), none, .new [(.slice none 0 0), (.slice none 0 0), (.slice none 0 0)]⟩,
    ⟨none, none, .store 3 (.t 15) (.t 98)⟩,
    ⟨(some 16), none, .mov (.t 99)⟩])
 (.seq (.seq (.reg none [
     ⟨(some 100), none, .load true 3 (.t 15)⟩,
     ⟨(some 101), none, .load true 3 (.t 6)⟩,
     ⟨(some 102), none, .call .q (.f 23) [(.t 100), (.t 101)]⟩,
     ⟨(some 103), none, .un .not (.t 102)⟩,
     ⟨(some 104), none, .mov (.t 103)⟩,
     ⟨(some 105), (some (104, false)), .mov (.t 16)⟩,
     ⟨(some 106), (some (104, false)), .mov (.t 7)⟩,
     ⟨(some 107), (some (104, false)), .beq true (.t 105) (.t 106)⟩,
     ⟨(some 108), none, .pick (.t 104) (.c (.bool true)) (.t 107)⟩])
  (.cond (.t 108) (.seq (.reg none [
      ⟨(some 4), none, .mov (.c (.bool false))⟩])
   (.ret)) (.skip)))
 (.seq (.reg none [
    ⟨(some 14), none, .mov (.c (.int .i64 1))⟩])
 (.seq (.reg none [
    ⟨(some 109), none, .load true 3 (.t 10)⟩,
    ⟨(some 110), none, .mov (.t 14)⟩,
    ⟨(some 111), none, .call .q (.f 25) [(.t 109), (.t 110)]⟩,
    ⟨(some 14), none, .mov (.t 111)⟩])
 (.seq (.seq (.reg none [
     ⟨(some 112), none, .mov (.t 14)⟩,
     ⟨(some 113), none, .bin .lss (.t 112) (.c (.int .i64 0))⟩])
  (.cond (.t 113) (.seq (.reg none [
      ⟨(some 4), none, .mov (.c (.bool false))⟩])
   (.ret)) (.skip)))
 (.seq (.seq (.reg none [
     ⟨(some 114), none, .mov (.t 14)⟩,
     ⟨(some 115), none, .mov (.t 13)⟩,
     ⟨(some 116), none, .bin .neq (.t 114) (.t 115)⟩])
  (.cond (.t 116) (.seq (.reg none [
      ⟨(some 4), none, .mov (.c (.bool false))⟩])
   (.ret)) (.skip)))
 (.seq (.reg none [
    ⟨(some 4), none, .mov (.c (.bool true))⟩])
 (.ret)))))))))))))))))))))))))))))⟩
def c_eqRun : IFn := ⟨2, 23, [.t 4],
 .seq (.reg none [
    ⟨(some 2), none, .box (.t 0)⟩,
    ⟨(some 3), none, .box (.t 1)⟩,
    ⟨(some 4), none, .mov (.c (.bool false))⟩])
 (.seq (.seq (.reg none [
     ⟨(some 5), none, .fad 0 (.t 2)⟩,
     ⟨(some 6), none, .load false 1 (.t 5)⟩,
     ⟨(some 7), none, .fad 0 (.t 3)⟩,
     ⟨(some 8), none, .load false 1 (.t 7)⟩,
     ⟨(some 9), none, .call .q (.f 13) [(.t 6), (.t 8)]⟩,
     ⟨(some 10), none, .un .not (.t 9)⟩])
  (.cond (.t 10) (.seq (.reg none [
      ⟨(some 4), none, .mov (.c (.bool false))⟩])
   (.ret)) (.skip)))
 (.seq (.seq (.reg none [
     ⟨(some 11), none, .fad 1 (.t 2)⟩,
     ⟨(some 12), none, .load false 1 (.t 11)⟩,
     ⟨(some 13), none, .fad 1 (.t 3)⟩,
     ⟨(some 14), none, .load false 1 (.t 13)⟩,
     ⟨(some 15), none, .call .q (.f 57) [(.t 12), (.t 14)]⟩,
     ⟨(some 16), none, .un .not (.t 15)⟩])
  (.cond (.t 16) (.seq (.reg none [
      ⟨(some 4), none, .mov (.c (.bool false))⟩])
   (.ret)) (.skip)))
 (.seq (.seq (.reg none [
     ⟨(some 17), none, .fad 2 (.t 2)⟩,
     ⟨(some 18), none, .load false 1 (.t 17)⟩,
     ⟨(some 19), none, .fad 2 (.t 3)⟩,
     ⟨(some 20), none, .load false 1 (.t 19)⟩,
     ⟨(some 21), none, .call .q (.f 58) [(.t 18), (.t 20)]⟩,
     ⟨(some 22), none, .un .not (.t 21)⟩])
  (.cond (.t 22) (.seq (.reg none [
      ⟨(some 4), none, .mov (.c (.bool false))⟩])
   (.ret)) (.skip)))
 (.seq (.reg none [
    ⟨(some 4), none, .mov (.c (.bool true))⟩])
 (.ret)))))⟩
def c_eqWrite : IFn := ⟨2, 15, [.t 4],
 .seq (.reg none [
    ⟨(some 2), none, .box (.t 0)⟩,
    ⟨(some 3), none, .box (.t 1)⟩,
    ⟨(some 4), none, .mov (.c (.bool false))⟩])
 (.seq (.seq (.reg none [
     ⟨(some 5), none, .fad 0 (.t 2)⟩,
     ⟨(some 6), none, .load false 1 (.t 5)⟩,
     ⟨(some 7), none, .fad 0 (.t 3)⟩,
     ⟨(some 8), none, .load false 1 (.t 7)⟩,
     ⟨(some 9), none, .bin .neq (.t 6) (.t 8)⟩])
  (.cond (.t 9) (.seq (.reg none [
      ⟨(some 4), none, .mov (.c (.bool false))⟩])
   (.ret)) (.skip)))
 (.seq (.seq (.reg none [
     ⟨(some 10), none, .fad 1 (.t 2)⟩,
     ⟨(some 11), none, .load false 1 (.t 10)⟩,
     ⟨(some 12), none, .fad 1 (.t 3)⟩,
     ⟨(some 13), none, .load false 1 (.t 12)⟩,
     ⟨(some 14), none, .bin .neq (.t 11) (.t 13)⟩])
  (.cond (.t 14) (.seq (.reg none [
      ⟨(some 4), none, .mov (.c (.bool false))⟩])
   (.ret)) (.skip)))
 (.seq (.reg none [
    ⟨(some 4), none, .mov (.c (.bool true))⟩])
 (.ret))))⟩
theorem eqWrite_ok {F : Nat → Option IFn} {f : Nat} (hf : F f = some c_eqWrite)  : EqOk F Co.p2 true f := by
  rintro H v u ⟨a0, a1⟩ ⟨cs, hc, _, _, rfl, ⟨rfl, b0⟩, ⟨rfl, b1⟩⟩ ⟨cs2, hc2, _, _, rfl, ⟨rfl, bq0⟩, ⟨rfl, bq1⟩⟩
  simp only [go_sem, binC, Option.some.injEq] at hc hc2
  subst hc hc2


  refine QC.mk hf rfl ?_
  refine seq_reg ?_
  simp only [go_sem, binC]
  refine seq_assoc (seq_reg ?_)
  simp only [go_sem, binC, bne_self_eq_false, beq_self_eq_true]
  refine seq_cond (t := false) (by simp only [go_sem, binC]) ?_
  simp only [go_sem, binC]
  refine seq_skip ?_
  refine seq_assoc (seq_reg ?_)
  simp only [go_sem, binC, bne_self_eq_false, beq_self_eq_true]
  refine seq_cond (t := false) (by simp only [go_sem, binC]) ?_
  simp only [go_sem, binC]
  refine seq_skip ?_
  refine seq_reg ?_
  simp only [go_sem, binC]
  refine wpc_ret ⟨Or.inr rfl, _, ?_, rfl, rfl⟩
  simp only [go_sem, binC]
theorem eqRun_ok {F : Nat → Option IFn} {f : Nat} (hf : F f = some c_eqRun) (g0 : EqOk F (Co.sl Co.int) false 13) (g1 : EqOk F (Co.sl Co.p2) false 57) (g2 : EqOk F (Co.sl Co.p2) false 58) : EqOk F Co.run true f := by
  rintro H v u ⟨a0, a1, a2⟩ ⟨cs, hc, _, _, rfl, ⟨v0, rfl, r0⟩, _, _, rfl, ⟨v1, rfl, r1⟩, ⟨v2, rfl, r2⟩⟩ ⟨cs2, hc2, _, _, rfl, ⟨vq0, rfl, rq0⟩, _, _, rfl, ⟨vq1, rfl, rq1⟩, ⟨vq2, rfl, rq2⟩⟩
  simp only [go_sem, binC, Option.some.injEq] at hc hc2
  subst hc hc2
  obtain ⟨_, x0⟩ := r0.shape
  subst x0
  obtain ⟨_, x1⟩ := r1.shape
  subst x1
  obtain ⟨_, x2⟩ := r2.shape
  subst x2
  obtain ⟨_, xq0⟩ := rq0.shape
  subst xq0
  obtain ⟨_, xq1⟩ := rq1.shape
  subst xq1
  obtain ⟨_, xq2⟩ := rq2.shape
  subst xq2
  refine QC.mk hf rfl ?_
  refine seq_reg ?_
  simp only [go_sem, binC]
  refine seq_assoc (seq_reg ?_)
  simp only [go_sem, binC, bne_self_eq_false, beq_self_eq_true]
  refine op_callQ (g0 _ _ _ a0 ⟨_, by simp only [go_sem, binC], ⟨_, rfl, r0.mono (vw_app 0 H _)⟩⟩ ⟨_, by simp only [go_sem, binC], ⟨_, rfl, rq0.mono (vw_app 0 H _)⟩⟩) ?_
  simp only [go_sem, binC]
  refine seq_cond (t := false) (by simp only [go_sem, binC]) ?_
  simp only [go_sem, binC]
  refine seq_skip ?_
  refine seq_assoc (seq_reg ?_)
  simp only [go_sem, binC, bne_self_eq_false, beq_self_eq_true]
  refine op_callQ (g1 _ _ _ a1 ⟨_, by simp only [go_sem, binC], ⟨_, rfl, r1.mono (vw_app 0 H _)⟩⟩ ⟨_, by simp only [go_sem, binC], ⟨_, rfl, rq1.mono (vw_app 0 H _)⟩⟩) ?_
  simp only [go_sem, binC]
  refine seq_cond (t := false) (by simp only [go_sem, binC]) ?_
  simp only [go_sem, binC]
  refine seq_skip ?_
  refine seq_assoc (seq_reg ?_)
  simp only [go_sem, binC, bne_self_eq_false, beq_self_eq_true]
  refine op_callQ (g2 _ _ _ a2 ⟨_, by simp only [go_sem, binC], ⟨_, rfl, r2.mono (vw_app 0 H _)⟩⟩ ⟨_, by simp only [go_sem, binC], ⟨_, rfl, rq2.mono (vw_app 0 H _)⟩⟩) ?_
  simp only [go_sem, binC]
  refine seq_cond (t := false) (by simp only [go_sem, binC]) ?_
  simp only [go_sem, binC]
  refine seq_skip ?_
  refine seq_reg ?_
  simp only [go_sem, binC]
  refine wpc_ret ⟨Or.inr rfl, _, ?_, rfl, rfl⟩
  simp only [go_sem, binC]
theorem slA_un {V : Vw} {v : Value} {l : List Int} (h : Rd (Co.sl Co.int) false V v l) : SlR Co.int V v l := by
  obtain ⟨cs, hc, u, rfl, hr⟩ := h
  simp only [valOf_one, Option.some.injEq] at hc
  subst hc
  exact hr
theorem slA_mk {V : Vw} {v : Value} {l : List Int} (h : SlR Co.int V v l) : Rd (Co.sl Co.int) false V v l := ⟨_, rfl, v, rfl, h⟩
theorem run_mk {V : Vw} {v1 v2 v3 : Value} {a : List Int} {b c : List (Int × Int)} (h1 : SlR Co.int V v1 a) (h2 : SlR Co.p2 V v2 b) (h3 : SlR Co.p2 V v3 c) : Rd Co.run true V (.agg #[v1, v2, v3]) (a, b, c) := ⟨[v1, v2, v3], rfl, [v1], [v2, v3], rfl, ⟨v1, rfl, h1⟩, [v2], [v3], rfl, ⟨v2, rfl, h2⟩, ⟨v3, rfl, h3⟩⟩
set_option maxHeartbeats 8000000 in
theorem lawERO_ok {F : Nat → Option IFn} {f : Nat} (hf : F f = some c_lawERO) (gsz : ∀ n, SzT F (Co.prog n) true 7 (tP n)) (gto : ∀ n, ToOkS F (Co.prog n) true .k 9) (gti : ToOkS F (Co.sl Co.int) false .k 10) (gs : RunOk F 20) (gi : RunOwn F 21) (gep : EqOk F Co.run true 23) (geq : ∀ n, EqOk F (Co.prog n) true 12) (gei : EqOk F (Co.sl Co.int) false 13) (gmp : ∀ n, MkOk F (Co.prog n) true 14 (cP n)) (gmi : MarkFlat F 1 15) (gmw : MarkFlat F 2 59) (gms : MarkFlat F 2 60) (gmo : MkOk F (Co.sl Co.int) false 15 nInt) (hmp : F 24 = some c_markRun) (hhp : F 25 = some c_heldRun) (ghi : HeldFlat F 1 61) (ghw : HeldFlat F 2 62) (ghs : HeldFlat F 2 63) :
    ∀ (H : Heap) (n : Nat) (v u : Value) (a : TProg n) (ts : List Int), Rd (Co.prog n) true (vw 0 H) v a → SlR Co.int (vw 0 H) u ts → QC F f [v, u] H (.bool true) := by
  rintro H n v u ⟨ls, l⟩ ts hv hu
  obtain ⟨lv, sv, rfl, r1, r2⟩ := prog_un hv
  obtain ⟨_, la, rfl, _⟩ := id r1
  obtain ⟨_, sa, rfl, _⟩ := id r2
  obtain ⟨_, ta, rfl, _⟩ := id hu
  refine QC.mk hf rfl ?_
  refine seq_reg ?_
  simp only [go_sem, binC]
  refine wpc_gen fun H1 hH1 => ?_
  have x1 : AgX [] H H1 := hH1 ▸ AgX.app [] _ _
  have hb2 : H1[H.length]? = some ⟨[.slice la ls.length ls.length, .slice sa l.length l.length], 0, 0, false, true⟩ := hH1 ▸ get_new0 _ _
  have hn1 : H1.length = H.length + 1 := by rw [hH1, List.length_append]; rfl
  clear hH1 hv
  replace r1 := r1.mono (agx_sub x1)
  replace r2 := r2.mono (agx_sub x1)
  replace hu := hu.mono (agx_sub x1)
  refine seq_assoc (seq_reg ?_)
  simp only [go_sem, binC]
  by_cases hbig : 1048576 < (ts.length : Int)
  · refine seq_cond (t := true) (by simp only [go_sem, binC]; rw [decide_eq_true hbig]) ?_
    simp only [go_sem, binC]
    refine seq_assoc (seq_reg ?_)
    simp only [go_sem, binC]
    exact seq_ret ⟨Or.inr rfl, .bool true, by simp only [go_sem, binC], rfl, rfl⟩
  refine seq_cond (t := false) (by simp only [go_sem, binC]; rw [decide_eq_false hbig]) ?_
  simp only [go_sem, binC]
  refine seq_skip (seq_reg ?_)
  simp only [go_sem, binC]
  refine seq_reg ?_
  simp only [go_sem, binC, gc_of hb2, inBlk_some]
  obtain ⟨r, q1, q2, q3⟩ := gsz n H1 _ (ls, l) 1048576 (prog_rd r1 r2) (by omega) (by omega)
  refine op_callQ (by simp only [go_sem, binC]; exact q1) ?_
  simp only [go_sem, binC]
  refine seq_assoc (seq_reg ?_)
  simp only [go_sem, binC]
  by_cases hneg : r < 0
  · refine seq_cond (t := true) (by simp only [go_sem, binC]; rw [decide_eq_true hneg]) ?_
    simp only [go_sem, binC]
    refine seq_assoc (seq_reg ?_)
    simp only [go_sem, binC]
    exact seq_ret ⟨Or.inr rfl, .bool true, by simp only [go_sem, binC], rfl, rfl⟩
  refine seq_cond (t := false) (by simp only [go_sem, binC]; rw [decide_eq_false hneg]) ?_
  simp only [go_sem, binC]
  obtain ⟨hsm, htot⟩ := q3 (by omega)
  have hcp := cP_le (n := n) (ls, l)
  have hsi : (Co.sl Co.int).sm ts := ⟨by omega, fun _ _ => trivial⟩
  -- what is wanted
  refine seq_skip (seq_reg ?_)
  simp only [go_sem, binC, gc_of hb2, inBlk_some]
  refine (gto n).x (prog_rd r1 r2) hsm (by simp only [go_sem, binC]) fun w Ha xa ha => ?_
  obtain ⟨lw, sw, rfl, w1, w2⟩ := prog_un ha
  obtain ⟨_, aw1, rfl, _⟩ := id w1
  obtain ⟨_, aw2, rfl, _⟩ := id w2
  simp only [go_sem, binC]
  refine gti.x (slA_mk (hu.mono (agx_sub xa))) hsi (by simp only [go_sem, binC]) fun wt Hb xb hwt => ?_
  replace hwt := slA_un hwt
  obtain ⟨_, aw3, rfl, _⟩ := id hwt
  simp only [go_sem, binC]
  obtain ⟨tvz, hvz, dvz, Hc, kc, xc, z1, z2, z3⟩ := gs Hb n _ _ _ ls l ts (w1.mono (vws_x xb)) (w2.mono (vws_x xb)) hsm (hwt.mono (vws_x (AgX.refl _ _)))
  obtain ⟨P, hPL⟩ : ∃ P, runOf n (ls, l) ts = P := ⟨_, rfl⟩
  rw [hPL] at z1 z2 z3
  obtain ⟨fo, hfo⟩ : ∃ fo, numsB n (ls, l) ts = fo := ⟨_, rfl⟩
  rw [hfo] at kc
  refine op_callK (by simp only [go_sem, binC]; exact kc) ?_
  obtain ⟨_, za, rfl, _⟩ := id z1
  obtain ⟨_, zb, rfl, _⟩ := id z2
  obtain ⟨_, zc, rfl, _⟩ := id z3
  have la' := xa.1
  have lb' := xb.1
  have lc' := xc.1
  simp only [go_sem, binC]
  refine ⟨by omega, ?_⟩
  refine wpc_gen fun H2 hH2 => ?_
  have xc2 : AgX [] Hc H2 := hH2 ▸ AgX.app [] _ _
  have hb6 : H2[Hc.length]? = some ⟨[.slice za P.1.length P.1.length, .slice zb P.2.1.length P.2.1.length, .slice zc P.2.2.length P.2.2.length], 0, 0, false, true⟩ := hH2 ▸ get_new0 _ _
  have hn2 : H2.length = Hc.length + 1 := by rw [hH2, List.length_append]; rfl
  clear hH2 kc
  have x12 : AgX [] H1 H2 := ((xa.tr xb).tr xc).tr xc2
  replace z1 := z1.mono (agx_sub xc2)
  replace z2 := z2.mono (agx_sub xc2)
  replace z3 := z3.mono (agx_sub xc2)
  -- the first argument
  have hb22 := x12.get hb2 (by simp)
  refine seq_reg ?_
  simp only [go_sem, binC, gc_of hb22, inBlk_some]
  refine (gto n).x (prog_rd (r1.mono (agx_sub x12)) (r2.mono (agx_sub x12))) hsm (by simp only [go_sem, binC]) fun w0 H3 x3 ha3 => ?_
  obtain ⟨lx, sx, rfl, y1, y2⟩ := prog_un ha3
  obtain ⟨_, ax1, rfl, _⟩ := id y1
  obtain ⟨_, ax2, rfl, _⟩ := id y2
  have l3' := x3.1
  simp only [go_sem, binC]
  refine ⟨by omega, ?_⟩
  refine wpc_gen fun H4 hH4 => ?_
  have x34 : AgX [] H3 H4 := hH4 ▸ AgX.app [] _ _
  have hb8 : H4[H3.length]? = some ⟨[.slice ax1 ls.length ls.length, .slice ax2 l.length l.length], 0, 0, false, true⟩ := hH4 ▸ get_new0 _ _
  have hn4 : H4.length = H3.length + 1 := by rw [hH4, List.length_append]; rfl
  clear hH4
  have x14 := (x12.tr x3).tr x34
  -- the second argument
  refine seq_reg ?_
  simp only [go_sem, binC]
  refine gti.x (slA_mk (hu.mono (agx_sub x14))) hsi (by simp only [go_sem, binC]) fun vx H5 x5 hvx => ?_
  replace hvx := slA_un hvx
  obtain ⟨_, ax3, rfl, _⟩ := id hvx
  have l5' := x5.1
  simp only [go_sem, binC]
  -- what is got
  have hb85 := x5.get hb8 (by simp)
  have x35 := x34.tr x5
  refine seq_reg ?_
  simp only [go_sem, binC, gc_of hb85, inBlk_some]
  obtain ⟨iv, ih, id', H6, k6, x6, i1, i2, i3, f1, f2, f3, fl1, fl2, fl3, d12, d13, d23, hlen⟩ := gi H5 n _ _ _ ls l ts (y1.mono (vws_x x35)) (y2.mono (vws_x x35)) hsm (hvx.mono (vws_x (AgX.refl _ _)))
  rw [hPL] at i1 i2 i3 fl1 fl2 fl3 d12 d13 d23 hlen
  rw [hfo] at k6
  refine op_callK (by simp only [go_sem, binC]; exact k6) ?_
  obtain ⟨_, ia, rfl, _⟩ := id i1
  obtain ⟨_, ib, rfl, _⟩ := id i2
  obtain ⟨_, ic, rfl, _⟩ := id i3
  have l6' := x6.1
  simp only [go_sem, binC]
  refine ⟨by omega, ?_⟩
  refine wpc_gen fun H7 hH7 => ?_
  have x67 : AgX [] H6 H7 := hH7 ▸ AgX.app [] _ _
  have hb10 : H7[H6.length]? = some ⟨[.slice ia P.1.length P.1.length, .slice ib P.2.1.length P.2.1.length, .slice ic P.2.2.length P.2.2.length], 0, 0, false, true⟩ := hH7 ▸ get_new0 _ _
  have hn7 : H7.length = H6.length + 1 := by rw [hH7, List.length_append]; rfl
  clear hH7 k6
  have x57 := x6.tr x67
  have x27 := ((x3.tr x34).tr x5).tr x57
  have hb67 := x27.get hb6 (by simp)
  have hb87 := x57.get hb85 (by simp)
  have hb27 := x27.get hb22 (by simp)
  have x17 := x12.tr x27
  have hk7 := gep H7 _ _ (P.1, P.2.1, P.2.2) (run_mk (i1.mono (agx_sub x67)) (i2.mono (agx_sub x67)) (i3.mono (agx_sub x67))) (run_mk (z1.mono (agx_sub x27)) (z2.mono (agx_sub x27)) (z3.mono (agx_sub x27)))
  refine seq_assoc (seq_reg ?_)
  simp only [go_sem, binC, gc_of hb10, gc_of hb67, inBlk_some]
  refine op_callQ (by simp only [go_sem, binC]; exact hk7) ?_
  simp only [go_sem, binC, bne_self_eq_false, beq_self_eq_true, Bool.not_true]
  refine seq_cond (t := false) rfl ?_
  simp only [go_sem, binC]
  -- what was handed in reads as it did
  refine seq_skip (seq_assoc (seq_regD ?_))
  simp only [go_sem, binC, gc_of hb87, gc_of hb27, inBlk_some]
  refine (gto n).x (prog_rd (r1.mono (agx_sub x17)) (r2.mono (agx_sub x17))) hsm (by simp only [go_sem, binC]) fun w8 H8 x8 ha8 => ?_
  simp only [go_sem, binC]
  refine op_callQ (by simp only [go_sem, binC]; exact geq n H8 _ _ (ls, l) (prog_rd (y1.mono (vws_x ((x35.tr x57).tr x8))) (y2.mono (vws_x ((x35.tr x57).tr x8)))) (ha8.mono (vws_x (AgX.refl _ _)))) ?_
  simp only [go_sem, binC]
  refine seq_cond (t := false) rfl ?_
  simp only [go_sem, binC]
  refine seq_skip (seq_assoc (seq_reg ?_))
  simp only [go_sem, binC]
  refine gti.x (slA_mk (hu.mono (agx_sub (x17.tr x8)))) hsi (by simp only [go_sem, binC]) fun w9 H9 x9 ha9 => ?_
  simp only [go_sem, binC]
  refine op_callQ (by simp only [go_sem, binC]; exact gei H9 _ _ ts (slA_mk (hvx.mono (vws_x ((x57.tr x8).tr x9)))) (ha9.mono (vws_x (AgX.refl _ _)))) ?_
  simp only [go_sem, binC]
  refine seq_cond (t := false) rfl ?_
  simp only [go_sem, binC]
  have x79 := x8.tr x9
  have l9' := x79.1
  -- marks
  refine seq_skip (seq_reg ?_)
  simp only [go_sem, binC]
  have x39 := (x35.tr x57).tr x79
  have x59 := x57.tr x79
  have hb89 := x79.get hb87 (by simp)
  obtain ⟨H10, k10, fr10⟩ := gmp n H9 _ (ls, l) H2.length H3.length H.length 1 (prog_rd (y1.mono (vws_b x39)) (y2.mono (vws_b x39))) x39.1 (by omega) (by omega) (by omega)
  refine seq_reg ?_
  simp only [go_sem, binC, gc_of hb89, inBlk_some]
  refine op_callN (by simp only [go_sem, binC]; exact k10) ?_
  simp only [go_sem, binC]
  have l35' := x35.1
  have l57' := x57.1
  have Vx : Sub (vwb H4.length H5.length H9) (vwb H4.length H5.length H10) := vwb_same fun b h1 h2 => fr10.out (by have := x59.1; omega) (.inr (by omega))
  have l10' := fr10.1
  obtain ⟨H11, k11, fr11⟩ := gmo H10 _ ts H4.length H5.length H.length (1 + ((cP n (ls, l) : Nat) : Int)) (slA_mk ((hvx.mono (vws_b x59)).mono Vx)) (by have := x59.1; omega) (by omega) (by omega) (by unfold nInt; omega)
  refine seq_reg ?_
  simp only [go_sem, binC]
  refine op_callN (by simp only [go_sem, binC]; exact k11) ?_
  simp only [go_sem, binC]
  have l11' := fr11.1
  -- marked memory leaves what was got
  have hout : ∀ b, b < H9.length → (b < H2.length ∨ (H3.length ≤ b ∧ b < H4.length) ∨ H5.length ≤ b) → H11[b]? = H9[b]? := fun b h1 h2 => (fr11.out (by omega) (by omega)).trans (fr10.out (by omega) (by omega))
  have hg : ∀ {b : Nat} {k : Blk}, H9[b]? = some k → (b < H2.length ∨ (H3.length ≤ b ∧ b < H4.length) ∨ H5.length ≤ b) → H11[b]? = some k := fun h h2 => (hout _ (List.getElem?_eq_some_iff.1 h).1 h2).trans h
  have hb69 := x79.get hb67 (by simp)
  have hb109 := x79.get hb10 (by simp)
  have hb611 := hg hb69 (by omega)
  have hb1011 := hg hb109 (by omega)
  have hb29 := x79.get hb27 (by simp)
  have hb211 := hg hb29 (by omega)
  have x211 : AgX [] H2 H11 := fr11.agx (fr10.agx (x27.tr x79) (Nat.le_refl _)) (by omega)
  have x69 := x67.tr x79
  have hfe : ∀ {vv : Value} {w m b : Nat}, FlatB H5.length H6.length H6 w vv m b 0 → m = 0 ∨ H11[b]? = H6[b]? := fun h => (flat_lt h).imp id fun h => (hout _ (by have := x69.1; omega) (by omega)).trans (x69.2 _ h.2 (by simp))
  have j1 := flat_sl (A := Co.int) (fun h => h) (H' := H11) fl1 i1 rfl (hfe fl1)
  have j2 := flat_sl (A := Co.p2) (fun h => h) (H' := H11) fl2 i2 rfl (hfe fl2)
  have j3 := flat_sl (A := Co.p2) (fun h => h) (H' := H11) fl3 i3 rfl (hfe fl3)
  have hk11 := gep H11 _ _ (P.1, P.2.1, P.2.2) (run_mk j1 j2 j3) (run_mk (z1.mono (agx_sub x211)) (z2.mono (agx_sub x211)) (z3.mono (agx_sub x211)))
  refine seq_assoc (seq_reg ?_)
  simp only [go_sem, binC]
  rw [decide_eq_false (show ¬ (1 + ((cP n (ls, l) : Nat) : Int) + ((nInt ts : Nat) : Int) < 0) by omega)]
  simp only [go_sem, binC, gc_of hb1011, gc_of hb611, inBlk_some]
  refine op_callQ (by simp only [go_sem, binC]; exact hk11) ?_
  simp only [go_sem, binC, bne_self_eq_false, beq_self_eq_true, Bool.not_true]
  refine seq_cond (t := false) rfl ?_
  simp only [go_sem, binC]
  -- marks on what was got
  have l69' := x69.1
  have q1 := fl1.mono (hi' := H11.length) (by omega) (hfe fl1)
  have q2 := fl2.mono (hi' := H11.length) (by omega) (hfe fl2)
  have q3 := fl3.mono (hi' := H11.length) (by omega) (hfe fl3)
  have t1 := flat_lt fl1
  have t2 := flat_lt fl2
  have t3 := flat_lt fl3
  obtain ⟨H12, k12, ⟨l12, o12⟩, e1, e2, e3⟩ := mkRun_ok (lo0 := H.length) hmp gmi gmw gms q1 q2 q3 d12 d13 d23 (by omega) (by omega) hlen
  refine seq_skip (seq_reg ?_)
  simp only [go_sem, binC]
  refine seq_reg ?_
  simp only [go_sem, binC, gc_of hb1011, inBlk_some]
  refine op_callN (by simp only [go_sem, binC]; exact k12) ?_
  simp only [go_sem, binC]
  have hg12 : ∀ {b : Nat} {k : Blk}, H11[b]? = some k → b = H6.length ∨ b < H5.length → H12[b]? = some k := fun h h2 => (o12 _ (List.getElem?_eq_some_iff.1 h).1 (t1.imp id fun h => by omega) (t2.imp id fun h => by omega) (t3.imp id fun h => by omega)).trans h
  have hb1012 := hg12 hb1011 (.inl rfl)
  have hb612 := hg12 hb611 (.inr (by omega))
  have hb212 := hg12 hb211 (.inr (by omega))
  have hq12 := heRun_ok hhp ghi ghw ghs (t1.imp id fun h => by omega) (t2.imp id fun h => by omega) (t3.imp id fun h => by omega) e1 e2 e3 hlen
  have ng : ¬ (1 + ((P.1.length + P.2.1.length * 2 + P.2.2.length * 2 : Nat) : Int) < 0) := by omega
  refine seq_reg ?_
  simp only [go_sem, binC]
  refine seq_reg ?_
  simp only [go_sem, binC, gc_of hb1012, inBlk_some]
  refine op_callQ (by simp only [go_sem, binC]; exact hq12) ?_
  simp only [go_sem, binC]
  refine seq_assoc (seq_reg ?_)
  simp only [go_sem, binC]
  refine seq_cond (t := false) (by simp only [go_sem, binC]; rw [decide_eq_false ng]) ?_
  simp only [go_sem, binC]
  refine seq_skip (seq_assoc (seq_reg ?_))
  simp only [go_sem, binC, bne_self_eq_false]
  refine seq_cond (t := false) rfl ?_
  simp only [go_sem, binC]
  -- done again
  have x111 : AgX [] H1 H11 := fr11.agx (fr10.agx (x17.tr x79) (by omega)) (by omega)
  have x112 : AgX [] H1 H12 := ⟨Nat.le_trans x111.1 l12, fun b hb _ => (o12 b (by omega) (t1.imp id fun h => by omega) (t2.imp id fun h => by omega) (t3.imp id fun h => by omega)).trans (x111.2 b hb (by simp))⟩
  have x212 : AgX [] H2 H12 := ⟨Nat.le_trans x211.1 l12, fun b hb _ => (o12 b (by omega) (t1.imp id fun h => by omega) (t2.imp id fun h => by omega) (t3.imp id fun h => by omega)).trans (x211.2 b hb (by simp))⟩
  refine seq_skip (seq_reg ?_)
  simp only [go_sem, binC, gc_of hb212, inBlk_some]
  refine (gto n).x (prog_rd (r1.mono (agx_sub x112)) (r2.mono (agx_sub x112))) hsm (by simp only [go_sem, binC]) fun w13 H13 x13 ha13 => ?_
  obtain ⟨lg, sg, rfl, p1, p2⟩ := prog_un ha13
  obtain ⟨_, ag1, rfl, _⟩ := id p1
  obtain ⟨_, ag2, rfl, _⟩ := id p2
  simp only [go_sem, binC]
  refine gti.x (slA_mk (hu.mono (agx_sub (x112.tr x13)))) hsi (by simp only [go_sem, binC]) fun w14 H14 x14' ha14 => ?_
  replace ha14 := slA_un ha14
  obtain ⟨_, ag3, rfl, _⟩ := id ha14
  simp only [go_sem, binC]
  obtain ⟨gv, gh, gd, H15, k15, x15, s1, s2, s3, _⟩ := gi H14 n _ _ _ ls l ts (p1.mono (vws_x x14')) (p2.mono (vws_x x14')) hsm (ha14.mono (vws_x (AgX.refl _ _)))
  rw [hPL] at s1 s2 s3
  rw [hfo] at k15
  refine op_callK (by simp only [go_sem, binC]; exact k15) ?_
  obtain ⟨_, ga, rfl, _⟩ := id s1
  obtain ⟨_, gb, rfl, _⟩ := id s2
  obtain ⟨_, gc, rfl, _⟩ := id s3
  have l13' := x13.1
  have l14' := x14'.1
  have l15' := x15.1
  simp only [go_sem, binC]
  refine ⟨by omega, ?_⟩
  refine wpc_gen fun H16 hH16 => ?_
  have x1516 : AgX [] H15 H16 := hH16 ▸ AgX.app [] _ _
  have hb15 : H16[H15.length]? = some ⟨[.slice ga P.1.length P.1.length, .slice gb P.2.1.length P.2.1.length, .slice gc P.2.2.length P.2.2.length], 0, 0, false, true⟩ := hH16 ▸ get_new0 _ _
  clear hH16 k15
  have x1216 := ((x13.tr x14').tr x15).tr x1516
  have hb616 := x1216.get hb612 (by simp)
  have hb1016 := x1216.get hb1012 (by simp)
  have x216 := x212.tr x1216
  have hk16 := gep H16 _ _ (P.1, P.2.1, P.2.2) (run_mk (s1.mono (agx_sub x1516)) (s2.mono (agx_sub x1516)) (s3.mono (agx_sub x1516))) (run_mk (z1.mono (agx_sub x216)) (z2.mono (agx_sub x216)) (z3.mono (agx_sub x216)))
  refine seq_assoc (seq_reg ?_)
  simp only [go_sem, binC, gc_of hb15, gc_of hb616, inBlk_some]
  refine op_callQ (by simp only [go_sem, binC]; exact hk16) ?_
  simp only [go_sem, binC, bne_self_eq_false, beq_self_eq_true, Bool.not_true]
  refine seq_cond (t := false) rfl ?_
  simp only [go_sem, binC]
  have l16 := x1216.1
  have hx16 : ∀ {m b : Nat}, m = 0 ∨ (H5.length ≤ b ∧ b < H6.length) → m = 0 ∨ H16[b]? = H12[b]? := fun h => h.imp id fun h => x1216.2 _ (by omega) (by simp)
  have hq16 := heRun_ok (H := H16) hhp ghi ghw ghs (t1.imp id fun h => by omega) (t2.imp id fun h => by omega) (t3.imp id fun h => by omega) (e1.mono (hx16 t1)) (e2.mono (hx16 t2)) (e3.mono (hx16 t3)) hlen
  refine seq_skip (seq_reg ?_)
  simp only [go_sem, binC]
  refine seq_reg ?_
  simp only [go_sem, binC, gc_of hb1016, inBlk_some]
  refine op_callQ (by simp only [go_sem, binC]; exact hq16) ?_
  simp only [go_sem, binC]
  refine seq_assoc (seq_reg ?_)
  simp only [go_sem, binC]
  refine seq_cond (t := false) (by simp only [go_sem, binC]; rw [decide_eq_false ng]) ?_
  simp only [go_sem, binC]
  refine seq_skip (seq_assoc (seq_reg ?_))
  simp only [go_sem, binC, bne_self_eq_false]
  refine seq_cond (t := false) rfl ?_
  simp only [go_sem, binC]
  refine seq_skip (seq_reg ?_)
  simp only [go_sem, binC]
  exact wpc_ret ⟨Or.inr rfl, .bool true, by simp only [go_sem, binC], rfl, rfl⟩
end Go.Proofs.YtmakdcbpohlacaaI
end
section
/- The functions that the law FnExactRunOf reaches, as ideal functions. -/
set_option linter.unusedVariables false
set_option linter.unusedSimpArgs false
namespace Go.Proofs.YtmakdcbpohlacaaI
open Go Go.RowKit
def fnOf : Nat → Option IFn
  | 6 => some (c_lawERO)
  | 7 => some (c_szProg)
  | 9 => some (c_toProg)
  | 10 => some (toFlat 3)
  | 12 => some (c_eqProg)
  | 13 => some (eqFlat)
  | 14 => some (c_markProg)
  | 15 => some (c_mark1)
  | 20 => some (c_sRunOf)
  | 21 => some (c_iRunOf)
  | 23 => some (c_eqRun)
  | 24 => some (c_markRun)
  | 25 => some (c_heldRun)
  | 26 => some (szFlat)
  | 27 => some (szNest 64 8 true)
  | 28 => some (c_sProg)
  | 31 => some (toCall .q 68 2 59 16 [(.int .i64 0), (.int .i64 0)] true)
  | 32 => some (toCall .k 69 8 68 96 [(.int .i64 0), (.int .i64 0), (.int .i64 0), (.int .i64 0), (.int .i64 0), (.int .i64 0), (.slice none 0 0), (.slice none 0 0)] true)
  | 33 => some (c_iProg)
  | 38 => some (eqCall 78 2 true)
  | 39 => some (eqCall 79 8 true)
  | 40 => some (c_mark2)
  | 41 => some (c_markStepS)
  | 49 => some (c_sNums)
  | 50 => some (c_sDo)
  | 51 => some (c_iNums)
  | 52 => some (c_cloneInts)
  | 53 => some (c_do)
  | 54 => some (c_clone)
  | 57 => some (eqCall 92 2 true)
  | 58 => some (eqCall 93 2 true)
  | 59 => some (c_mark2)
  | 60 => some (c_mark2)
  | 61 => some (c_held1)
  | 62 => some (c_held2)
  | 63 => some (c_held2)
  | 64 => some (c_szStep)
  | 65 => some (c_sLabelOk)
  | 66 => some (c_sSteps)
  | 67 => some (c_sCount)
  | 68 => some (c_toLabel)
  | 69 => some (c_toStep)
  | 70 => some (c_con)
  | 71 => some (c_p1)
  | 72 => some (c_iLabelOk)
  | 73 => some (c_iSteps)
  | 74 => some (c_iSize)
  | 75 => some (c_iIn)
  | 78 => some (c_eqLabel)
  | 79 => some (c_eqStep)
  | 80 => some (c_sSet)
  | 86 => some (c_sIn)
  | 87 => some (c_sNum)
  | 88 => some (c_iNum)
  | 89 => some (c_vars)
  | 90 => some (c_set)
  | 91 => some (c_of)
  | 92 => some (c_eqWrite)
  | 93 => some (c_eqWrite)
  | 94 => some (c_sStep)
  | 95 => some (c_toVal)
  | 96 => some (c_idx)
  | 97 => some (c_iSet)
  | 98 => some (c_iVar)
  | 99 => some (c_iVal)
  | 100 => some (c_iHost)
  | 102 => some (c_eqVal)
  | 103 => some (c_sAll)
  | 108 => some (c_sVar)
  | 109 => some (c_sVal)
  | _ => none
def cmOf (f : Nat) : CM := ⟨fun g => if [6, 7, 12, 13, 23, 25, 26, 27, 28, 33, 38, 39, 49, 51, 57, 58, 61, 62, 63, 64, 65, 66, 67, 68, 70, 71, 72, 73, 74, 75, 78, 79, 80, 86, 87, 88, 91, 92, 93, 94, 95, 96, 97, 98, 99, 100, 102, 103, 108, 109].contains g then .q else if [14, 15, 24, 40, 41, 50, 53, 59, 60, 90].contains g then .n else .k, if [14, 15, 24, 40, 41, 50, 53, 59, 60, 90].contains f then .n else .q, false⟩
theorem hF6 : cFn Try.prog cmOf 6 = some (c_lawERO) := by kernel_rfl
theorem hF7 : cFn Try.prog cmOf 7 = some (c_szProg) := by kernel_rfl
theorem hF9 : cFn Try.prog cmOf 9 = some (c_toProg) := by kernel_rfl
theorem hF10 : cFn Try.prog cmOf 10 = some (toFlat 3) := by kernel_rfl
theorem hF12 : cFn Try.prog cmOf 12 = some (c_eqProg) := by kernel_rfl
theorem hF13 : cFn Try.prog cmOf 13 = some (eqFlat) := by kernel_rfl
theorem hF14 : cFn Try.prog cmOf 14 = some (c_markProg) := by kernel_rfl
theorem hF15 : cFn Try.prog cmOf 15 = some (c_mark1) := by kernel_rfl
theorem hF20 : cFn Try.prog cmOf 20 = some (c_sRunOf) := by kernel_rfl
theorem hF21 : cFn Try.prog cmOf 21 = some (c_iRunOf) := by kernel_rfl
theorem hF23 : cFn Try.prog cmOf 23 = some (c_eqRun) := by kernel_rfl
theorem hF24 : cFn Try.prog cmOf 24 = some (c_markRun) := by kernel_rfl
theorem hF25 : cFn Try.prog cmOf 25 = some (c_heldRun) := by kernel_rfl
theorem hF26 : cFn Try.prog cmOf 26 = some (szFlat) := by kernel_rfl
theorem hF27 : cFn Try.prog cmOf 27 = some (szNest 64 8 true) := by kernel_rfl
theorem hF28 : cFn Try.prog cmOf 28 = some (c_sProg) := by kernel_rfl
theorem hF31 : cFn Try.prog cmOf 31 = some (toCall .q 68 2 59 16 [(.int .i64 0), (.int .i64 0)] true) := by kernel_rfl
theorem hF32 : cFn Try.prog cmOf 32 = some (toCall .k 69 8 68 96 [(.int .i64 0), (.int .i64 0), (.int .i64 0), (.int .i64 0), (.int .i64 0), (.int .i64 0), (.slice none 0 0), (.slice none 0 0)] true) := by kernel_rfl
theorem hF33 : cFn Try.prog cmOf 33 = some (c_iProg) := by kernel_rfl
theorem hF38 : cFn Try.prog cmOf 38 = some (eqCall 78 2 true) := by kernel_rfl
theorem hF39 : cFn Try.prog cmOf 39 = some (eqCall 79 8 true) := by kernel_rfl
theorem hF40 : cFn Try.prog cmOf 40 = some (c_mark2) := by kernel_rfl
theorem hF41 : cFn Try.prog cmOf 41 = some (c_markStepS) := by kernel_rfl
theorem hF49 : cFn Try.prog cmOf 49 = some (c_sNums) := by kernel_rfl
theorem hF50 : cFn Try.prog cmOf 50 = some (c_sDo) := by kernel_rfl
theorem hF51 : cFn Try.prog cmOf 51 = some (c_iNums) := by kernel_rfl
theorem hF52 : cFn Try.prog cmOf 52 = some (c_cloneInts) := by kernel_rfl
theorem hF53 : cFn Try.prog cmOf 53 = some (c_do) := by kernel_rfl
theorem hF54 : cFn Try.prog cmOf 54 = some (c_clone) := by kernel_rfl
theorem hF57 : cFn Try.prog cmOf 57 = some (eqCall 92 2 true) := by kernel_rfl
theorem hF58 : cFn Try.prog cmOf 58 = some (eqCall 93 2 true) := by kernel_rfl
theorem hF59 : cFn Try.prog cmOf 59 = some (c_mark2) := by kernel_rfl
theorem hF60 : cFn Try.prog cmOf 60 = some (c_mark2) := by kernel_rfl
theorem hF61 : cFn Try.prog cmOf 61 = some (c_held1) := by kernel_rfl
theorem hF62 : cFn Try.prog cmOf 62 = some (c_held2) := by kernel_rfl
theorem hF63 : cFn Try.prog cmOf 63 = some (c_held2) := by kernel_rfl
theorem hF64 : cFn Try.prog cmOf 64 = some (c_szStep) := by kernel_rfl
theorem hF65 : cFn Try.prog cmOf 65 = some (c_sLabelOk) := by kernel_rfl
theorem hF66 : cFn Try.prog cmOf 66 = some (c_sSteps) := by kernel_rfl
theorem hF67 : cFn Try.prog cmOf 67 = some (c_sCount) := by kernel_rfl
theorem hF68 : cFn Try.prog cmOf 68 = some (c_toLabel) := by kernel_rfl
theorem hF69 : cFn Try.prog cmOf 69 = some (c_toStep) := by kernel_rfl
theorem hF70 : cFn Try.prog cmOf 70 = some (c_con) := by kernel_rfl
theorem hF71 : cFn Try.prog cmOf 71 = some (c_p1) := by kernel_rfl
theorem hF72 : cFn Try.prog cmOf 72 = some (c_iLabelOk) := by kernel_rfl
theorem hF73 : cFn Try.prog cmOf 73 = some (c_iSteps) := by kernel_rfl
theorem hF74 : cFn Try.prog cmOf 74 = some (c_iSize) := by kernel_rfl
theorem hF75 : cFn Try.prog cmOf 75 = some (c_iIn) := by kernel_rfl
theorem hF78 : cFn Try.prog cmOf 78 = some (c_eqLabel) := by kernel_rfl
theorem hF79 : cFn Try.prog cmOf 79 = some (c_eqStep) := by kernel_rfl
theorem hF80 : cFn Try.prog cmOf 80 = some (c_sSet) := by kernel_rfl
theorem hF86 : cFn Try.prog cmOf 86 = some (c_sIn) := by kernel_rfl
theorem hF87 : cFn Try.prog cmOf 87 = some (c_sNum) := by kernel_rfl
theorem hF88 : cFn Try.prog cmOf 88 = some (c_iNum) := by kernel_rfl
theorem hF89 : cFn Try.prog cmOf 89 = some (c_vars) := by kernel_rfl
theorem hF90 : cFn Try.prog cmOf 90 = some (c_set) := by kernel_rfl
theorem hF91 : cFn Try.prog cmOf 91 = some (c_of) := by kernel_rfl
theorem hF92 : cFn Try.prog cmOf 92 = some (c_eqWrite) := by kernel_rfl
theorem hF93 : cFn Try.prog cmOf 93 = some (c_eqWrite) := by kernel_rfl
theorem hF94 : cFn Try.prog cmOf 94 = some (c_sStep) := by kernel_rfl
theorem hF95 : cFn Try.prog cmOf 95 = some (c_toVal) := by kernel_rfl
theorem hF96 : cFn Try.prog cmOf 96 = some (c_idx) := by kernel_rfl
theorem hF97 : cFn Try.prog cmOf 97 = some (c_iSet) := by kernel_rfl
theorem hF98 : cFn Try.prog cmOf 98 = some (c_iVar) := by kernel_rfl
theorem hF99 : cFn Try.prog cmOf 99 = some (c_iVal) := by kernel_rfl
theorem hF100 : cFn Try.prog cmOf 100 = some (c_iHost) := by kernel_rfl
theorem hF102 : cFn Try.prog cmOf 102 = some (c_eqVal) := by kernel_rfl
theorem hF103 : cFn Try.prog cmOf 103 = some (c_sAll) := by kernel_rfl
theorem hF108 : cFn Try.prog cmOf 108 = some (c_sVar) := by kernel_rfl
theorem hF109 : cFn Try.prog cmOf 109 = some (c_sVal) := by kernel_rfl
theorem hF (g : Nat) (fn : IFn) (h : fnOf g = some fn) : cFn Try.prog cmOf g = some fn := by
  unfold fnOf at h
  split at h
  · rw [← h]; exact hF6
  · rw [← h]; exact hF7
  · rw [← h]; exact hF9
  · rw [← h]; exact hF10
  · rw [← h]; exact hF12
  · rw [← h]; exact hF13
  · rw [← h]; exact hF14
  · rw [← h]; exact hF15
  · rw [← h]; exact hF20
  · rw [← h]; exact hF21
  · rw [← h]; exact hF23
  · rw [← h]; exact hF24
  · rw [← h]; exact hF25
  · rw [← h]; exact hF26
  · rw [← h]; exact hF27
  · rw [← h]; exact hF28
  · rw [← h]; exact hF31
  · rw [← h]; exact hF32
  · rw [← h]; exact hF33
  · rw [← h]; exact hF38
  · rw [← h]; exact hF39
  · rw [← h]; exact hF40
  · rw [← h]; exact hF41
  · rw [← h]; exact hF49
  · rw [← h]; exact hF50
  · rw [← h]; exact hF51
  · rw [← h]; exact hF52
  · rw [← h]; exact hF53
  · rw [← h]; exact hF54
  · rw [← h]; exact hF57
  · rw [← h]; exact hF58
  · rw [← h]; exact hF59
  · rw [← h]; exact hF60
  · rw [← h]; exact hF61
  · rw [← h]; exact hF62
  · rw [← h]; exact hF63
  · rw [← h]; exact hF64
  · rw [← h]; exact hF65
  · rw [← h]; exact hF66
  · rw [← h]; exact hF67
  · rw [← h]; exact hF68
  · rw [← h]; exact hF69
  · rw [← h]; exact hF70
  · rw [← h]; exact hF71
  · rw [← h]; exact hF72
  · rw [← h]; exact hF73
  · rw [← h]; exact hF74
  · rw [← h]; exact hF75
  · rw [← h]; exact hF78
  · rw [← h]; exact hF79
  · rw [← h]; exact hF80
  · rw [← h]; exact hF86
  · rw [← h]; exact hF87
  · rw [← h]; exact hF88
  · rw [← h]; exact hF89
  · rw [← h]; exact hF90
  · rw [← h]; exact hF91
  · rw [← h]; exact hF92
  · rw [← h]; exact hF93
  · rw [← h]; exact hF94
  · rw [← h]; exact hF95
  · rw [← h]; exact hF96
  · rw [← h]; exact hF97
  · rw [← h]; exact hF98
  · rw [← h]; exact hF99
  · rw [← h]; exact hF100
  · rw [← h]; exact hF102
  · rw [← h]; exact hF103
  · rw [← h]; exact hF108
  · rw [← h]; exact hF109
  · cases h
theorem hMixed : Try.prog.follows .mixedOrders = true := by kernel_rfl
theorem ok_iIn : ∀ (H : Heap) (a b c : Int), QC fnOf 75 [.int .i64 a, .int .i64 b, .int .i64 c] H (.bool (inB a b c)) := iIn_ok rfl
theorem ok_sIn : ∀ (H : Heap) (a b c : Int), QC fnOf 86 [.int .i64 a, .int .i64 b, .int .i64 c] H (.bool (inB a b c)) := sIn_ok rfl
theorem ok_iSet : ∀ (H : Heap) (a : Int), QC fnOf 97 [.int .i64 a] H (.bool (inB a 0 7)) := iSet_ok rfl ok_iIn
theorem ok_iHost : ∀ (H : Heap) (a : Int), QC fnOf 100 [.int .i64 a] H (.bool (inB a 0 2)) := iHost_ok rfl ok_iIn
theorem ok_iNum : ∀ (H : Heap) (a : Int), QC fnOf 88 [.int .i64 a] H (.bool (inB a 0 9)) := iNum_ok rfl ok_iIn
theorem ok_sAll : ∀ H, QC fnOf 103 [] H (.int .i64 7) := sAll_ok rfl
theorem ok_sSet : ∀ (H : Heap) (a : Int), QC fnOf 80 [.int .i64 a] H (.bool (inB a 0 7)) := sSet_ok rfl ok_sIn ok_sAll
theorem ok_iLabelOk : LabOk fnOf 72 := iLabelOk_ok rfl ok_iSet
theorem ok_sLabelOk : LabOk fnOf 65 := sLabelOk_ok rfl ok_sSet
theorem ok_iVar : VarOk fnOf 98 := iVar_ok rfl ok_iIn
theorem ok_sVar : VarOk fnOf 108 := sVar_ok rfl ok_sIn
theorem ok_iVal : ValOk fnOf 99 := iVal_ok rfl ok_iNum ok_iVar
theorem ok_sVal : ValOk fnOf 109 := sVal_ok rfl ok_sIn ok_sVar
theorem ok_sSteps : ∀ n, StepsOk fnOf 66 n := fun n => (sSteps_all rfl rfl ok_sIn ok_sVar ok_sVal n).1
theorem ok_iSteps : ∀ n, StepsOk fnOf 73 n := iSteps_all rfl ok_iVar ok_iVal ok_iHost
theorem ok_sCount : ∀ n, CntOk fnOf 67 n := cnt_all (fun _ h => sCount_ok rfl h) (sCount_z rfl)
theorem ok_iSize : ∀ n, CntOk fnOf 74 n := cnt_all (fun _ h => iSize_ok rfl h) (iSize_z rfl)
theorem ok_sProg : ProgOk fnOf 28 := sProg_ok rfl ok_sLabelOk ok_sSteps ok_sCount
theorem ok_iProg : ProgOk fnOf 33 := iProg_ok rfl (con_ok rfl (idx_ok rfl (p1_ok rfl ok_iLabelOk))) ok_iSteps ok_iSize
theorem ok_iNums : NumsOk fnOf 51 := iNums_ok rfl ok_iNum ok_iProg
theorem ok_do : ∀ n, DoOk fnOf 53 n := do_all rfl rfl rfl rfl
theorem ok_sNums : NumsOk fnOf 49 := sNums_ok rfl ok_sIn ok_sProg
theorem ok_sDo : ∀ n, DoSOk fnOf 50 n := sDo_all rfl rfl
theorem ok_sRunOf : RunOk fnOf 20 := sRunOf_ok rfl ok_sNums ok_sDo
theorem ok_iRunOwn : RunOwn fnOf 21 := iRunOwn_ok rfl ok_iNums rfl ok_do rfl
theorem ok_eqLabel : EqOk fnOf Co.p2 true 78 := eqLabel_ok rfl
theorem ok_eqVal : EqOk fnOf Co.val true 102 := eqVal_ok rfl
theorem ok_eqLabelS : EqOk fnOf (Co.sl Co.p2) false 38 := eqCall_ok rfl ok_eqLabel rfl (va_t Co.p2)
theorem ok_eqSteps : ∀ n, EqOk fnOf (Co.step n) true 79 ∧ EqOk fnOf (Co.sl (Co.step n)) false 39 := by
  intro n
  induction n with
  | zero =>
    have z : EqOk fnOf (Co.step 0) true 79 := by
      rintro H v u a ⟨cs, _, h⟩
      exact h.elim
    exact ⟨z, eqCall_ok rfl z (step_w 0) (va_t (Co.step 0))⟩
  | succ n ih =>
    have z : EqOk fnOf (Co.step (n + 1)) true 79 := eqStep_ok rfl ok_eqVal ih.2 ih.2
    exact ⟨z, eqCall_ok rfl z (step_w (n + 1)) (va_t (Co.step (n + 1)))⟩
theorem ok_eqProg (n : Nat) : EqOk fnOf (Co.prog n) true 12 := eqProg_ok rfl ok_eqLabelS (ok_eqSteps n).2
theorem ok_szProgT (n : Nat) : SzT fnOf (Co.prog n) true 7 (tP n) := szProgT_ok rfl (szFlatT_ok rfl (fun _ => ⟨trivial, trivial⟩)) (szStepsT_all rfl rfl n).2
theorem ok_toProgS (n : Nat) : ToOkS fnOf (Co.prog n) true .k 9 := toProg_okS rfl (toCallS_ok rfl rfl (by omega) (toLabel_okS rfl) rfl (va_t Co.p2)) (toStepsS_all rfl rfl (toVal_okS rfl) n).2
theorem ok_markProg (n : Nat) : MkOk fnOf (Co.prog n) true 14 (cP n) := markProg_ok rfl (mkLabs_ok rfl) sLab (mkSteps_all rfl n) (sS n)
theorem ok_eqIntS : EqOk fnOf (Co.sl Co.int) false 13 := eqFlat_ok rfl
theorem ok_markInt : MkOk fnOf (Co.sl Co.int) false 15 nInt := mkInts_ok rfl
theorem ok_eqWrite : EqOk fnOf Co.p2 true 92 := eqWrite_ok rfl
theorem ok_eqSaid : EqOk fnOf Co.p2 true 93 := eqWrite_ok rfl
theorem ok_eqWriteS : EqOk fnOf (Co.sl Co.p2) false 57 := eqCall_ok rfl ok_eqWrite rfl (va_t Co.p2)
theorem ok_eqSaidS : EqOk fnOf (Co.sl Co.p2) false 58 := eqCall_ok rfl ok_eqSaid rfl (va_t Co.p2)
theorem ok_eqRun : EqOk fnOf Co.run true 23 := eqRun_ok rfl ok_eqIntS ok_eqWriteS ok_eqSaidS
theorem ok_law : ∀ (H : Heap) (n : Nat) (v u : Value) (a : TProg n) (ts : List Int), Rd (Co.prog n) true (vw 0 H) v a → SlR Co.int (vw 0 H) u ts → QC fnOf 6 [v, u] H (.bool true) := lawERO_ok rfl ok_szProgT ok_toProgS (toFlatS_ok rfl) ok_sRunOf ok_iRunOwn ok_eqRun ok_eqProg ok_eqIntS ok_markProg (mark1_ok rfl) (mark2_ok rfl) (mark2_ok rfl) ok_markInt rfl rfl (held1_ok rfl) (held2_ok rfl) (held2_ok rfl)
end Go.Proofs.YtmakdcbpohlacaaI
end
section
/- The types of a program, opened. -/
set_option linter.unusedVariables false
set_option linter.unusedSimpArgs false
namespace Go.Proofs.YtmakdcbpohlacaaI
open Go Go.RowKit
theorem good_3 {T : Type} {enc : TypeId × Value → T} {w : World} {spare : Nat → Bool} {held : Bool} {n : Nat} {cs : List Value} {x : DataW T × List MemPlace} (h : DataW.trod enc Try.prog w 0 spare held n 3 cs = some x) : Good Co.int w cs := by
  obtain ⟨m, rfl, _, hw⟩ := DataW.trod_int Try.underlying3 h
  exact Good.int hw
theorem good_93 {T : Type} {enc : TypeId × Value → T} {w : World} {spare : Nat → Bool} {held : Bool} {n : Nat} {cs : List Value} {x : DataW T × List MemPlace} (h : DataW.trod enc Try.prog w 0 spare held n 93 cs = some x) : Good Co.p2 w cs := by
  obtain ⟨xs, n, rfl, rfl, hl, hlen, hf⟩ := DataW.trod_struct Try.underlying93 h
  have hn : Try.prog.cellsOf 93 = 2 := by kernel_rfl
  rw [hn] at hl
  have f0 : DataW.trod enc Try.prog w 0 spare held n 3 ((cs.drop 0).take (Try.prog.cellsOf 3)) = xs[0]? := hf 0 _ rfl
  rw [List.getElem?_eq_getElem (show 0 < xs.length by rw [hlen]; decide), show Try.prog.cellsOf 3 = 1 by kernel_rfl] at f0
  have f1 : DataW.trod enc Try.prog w 0 spare held n 3 ((cs.drop 1).take (Try.prog.cellsOf 3)) = xs[1]? := hf 1 _ rfl
  rw [List.getElem?_eq_getElem (show 1 < xs.length by rw [hlen]; decide), show Try.prog.cellsOf 3 = 1 by kernel_rfl] at f1
  have e : cs = ((cs.drop 0).take 1 ++ ((cs.drop 1).take 1)) := (cut (cs := cs) (o := 0) (s := 1)).trans (congrArg _ (cut_end (by rw [hl])))
  rw [e]
  exact ((good_3 f0).pair (good_3 f1))
theorem good_86 {T : Type} {enc : TypeId × Value → T} {w : World} {spare : Nat → Bool} {held : Bool} {n : Nat} {cs : List Value} {x : DataW T × List MemPlace} (h : DataW.trod enc Try.prog w 0 spare held n 86 cs = some x) : Good Co.val w cs := by
  obtain ⟨xs, n, rfl, rfl, hl, hlen, hf⟩ := DataW.trod_struct Try.underlying86 h
  have hn : Try.prog.cellsOf 86 = 3 := by kernel_rfl
  rw [hn] at hl
  have f0 : DataW.trod enc Try.prog w 0 spare held n 3 ((cs.drop 0).take (Try.prog.cellsOf 3)) = xs[0]? := hf 0 _ rfl
  rw [List.getElem?_eq_getElem (show 0 < xs.length by rw [hlen]; decide), show Try.prog.cellsOf 3 = 1 by kernel_rfl] at f0
  have f1 : DataW.trod enc Try.prog w 0 spare held n 3 ((cs.drop 1).take (Try.prog.cellsOf 3)) = xs[1]? := hf 1 _ rfl
  rw [List.getElem?_eq_getElem (show 1 < xs.length by rw [hlen]; decide), show Try.prog.cellsOf 3 = 1 by kernel_rfl] at f1
  have f2 : DataW.trod enc Try.prog w 0 spare held n 3 ((cs.drop 2).take (Try.prog.cellsOf 3)) = xs[2]? := hf 2 _ rfl
  rw [List.getElem?_eq_getElem (show 2 < xs.length by rw [hlen]; decide), show Try.prog.cellsOf 3 = 1 by kernel_rfl] at f2
  have e : cs = ((cs.drop 0).take 1 ++ (((cs.drop 1).take 1 ++ ((cs.drop 2).take 1)))) := (cut (cs := cs) (o := 0) (s := 1)).trans (congrArg _ ((cut (cs := cs) (o := 1) (s := 1)).trans (congrArg _ (cut_end (by rw [hl])))))
  rw [e]
  exact ((good_3 f0).pair ((good_3 f1).pair (good_3 f2)))
theorem good_26 {T : Type} {enc : TypeId × Value → T} {w : World} {spare : Nat → Bool} {held : Bool} {n : Nat} {cs : List Value} {x : DataW T × List MemPlace} (h : DataW.trod enc Try.prog w 0 spare held n 26 cs = some x) : Good (Co.sl Co.int) w cs :=
  Good.sl Try.underlying26 (by kernel_rfl) (by decide) h fun _ _ _ _ h => good_3 h
theorem good_22 {T : Type} {enc : TypeId × Value → T} {w : World} {spare : Nat → Bool} {held : Bool} {n : Nat} {cs : List Value} {x : DataW T × List MemPlace} (h : DataW.trod enc Try.prog w 0 spare held n 22 cs = some x) : Good (Co.sl Co.p2) w cs :=
  Good.sl Try.underlying22 (by kernel_rfl) (by decide) h fun _ _ _ _ h => good_93 h
theorem stepF0 {T : Type} {enc : TypeId × Value → T} {w : World} {spare : Nat → Bool} {held : Bool} : (∀ (cs : List Value) (x : DataW T × List MemPlace), DataW.trod enc Try.prog w 0 spare held (0) 88 cs = some x → Good (Co.step (dF (0))) w cs) := by
  intro cs x h
  rw [DataW.trod] at h
  cases h
theorem stepF1 {T : Type} {enc : TypeId × Value → T} {w : World} {spare : Nat → Bool} {held : Bool} : (∀ (cs : List Value) (x : DataW T × List MemPlace), DataW.trod enc Try.prog w 0 spare held (1) 88 cs = some x → Good (Co.step (dF (1))) w cs) := by
  intro cs x h
  obtain ⟨xs, n1, hn1, rfl, hl, hlen, hf⟩ := DataW.trod_struct Try.underlying88 h
  have hz : n1 = 0 := by omega
  subst hz
  have f0 : DataW.trod enc Try.prog w 0 spare held 0 3 ((cs.drop 0).take (Try.prog.cellsOf 3)) = xs[0]? := hf 0 _ rfl
  rw [List.getElem?_eq_getElem (show 0 < xs.length by rw [hlen]; decide), DataW.trod] at f0
  cases f0
theorem stepF2 {T : Type} {enc : TypeId × Value → T} {w : World} {spare : Nat → Bool} {held : Bool} {n : Nat} (ih : (∀ (cs : List Value) (x : DataW T × List MemPlace), DataW.trod enc Try.prog w 0 spare held (n) 88 cs = some x → Good (Co.step (dF (n))) w cs)) : (∀ (cs : List Value) (x : DataW T × List MemPlace), DataW.trod enc Try.prog w 0 spare held (n + 2) 88 cs = some x → Good (Co.step (dF (n + 2))) w cs) := by
  intro cs x h
  obtain ⟨xs, n1, hn1, rfl, hl, hlen, hf⟩ := DataW.trod_struct Try.underlying88 h
  have hn1' : n1 = n + 1 := by omega
  have sl23 : ∀ cs y, DataW.trod enc Try.prog w 0 spare held n1 23 cs = some y → Good (Co.sl (Co.step (dF n))) w cs := fun cs y hy =>
    Good.slF Try.underlying23 (by rw [step_w]; kernel_rfl) (by rw [step_w]; omega) hy fun n' cs' x' hn' hx' => by
      have : n' = n := by omega
      subst this
      exact ih cs' x' hx'
  have hn : Try.prog.cellsOf 88 = 8 := by kernel_rfl
  rw [hn] at hl
  have f0 : DataW.trod enc Try.prog w 0 spare held n1 3 ((cs.drop 0).take (Try.prog.cellsOf 3)) = xs[0]? := hf 0 _ rfl
  rw [List.getElem?_eq_getElem (show 0 < xs.length by rw [hlen]; decide), show Try.prog.cellsOf 3 = 1 by kernel_rfl] at f0
  have f1 : DataW.trod enc Try.prog w 0 spare held n1 3 ((cs.drop 1).take (Try.prog.cellsOf 3)) = xs[1]? := hf 1 _ rfl
  rw [List.getElem?_eq_getElem (show 1 < xs.length by rw [hlen]; decide), show Try.prog.cellsOf 3 = 1 by kernel_rfl] at f1
  have f2 : DataW.trod enc Try.prog w 0 spare held n1 86 ((cs.drop 2).take (Try.prog.cellsOf 86)) = xs[2]? := hf 2 _ rfl
  rw [List.getElem?_eq_getElem (show 2 < xs.length by rw [hlen]; decide), show Try.prog.cellsOf 86 = 3 by kernel_rfl] at f2
  have f3 : DataW.trod enc Try.prog w 0 spare held n1 3 ((cs.drop 5).take (Try.prog.cellsOf 3)) = xs[3]? := hf 3 _ rfl
  rw [List.getElem?_eq_getElem (show 3 < xs.length by rw [hlen]; decide), show Try.prog.cellsOf 3 = 1 by kernel_rfl] at f3
  have f4 : DataW.trod enc Try.prog w 0 spare held n1 23 ((cs.drop 6).take (Try.prog.cellsOf 23)) = xs[4]? := hf 4 _ rfl
  rw [List.getElem?_eq_getElem (show 4 < xs.length by rw [hlen]; decide), show Try.prog.cellsOf 23 = 1 by kernel_rfl] at f4
  have f5 : DataW.trod enc Try.prog w 0 spare held n1 23 ((cs.drop 7).take (Try.prog.cellsOf 23)) = xs[5]? := hf 5 _ rfl
  rw [List.getElem?_eq_getElem (show 5 < xs.length by rw [hlen]; decide), show Try.prog.cellsOf 23 = 1 by kernel_rfl] at f5
  have e : cs = ((cs.drop 0).take 1 ++ (((cs.drop 1).take 1 ++ (((cs.drop 2).take 3 ++ (((cs.drop 5).take 1 ++ (((cs.drop 6).take 1 ++ ((cs.drop 7).take 1)))))))))) := (cut (cs := cs) (o := 0) (s := 1)).trans (congrArg _ ((cut (cs := cs) (o := 1) (s := 1)).trans (congrArg _ ((cut (cs := cs) (o := 2) (s := 3)).trans (congrArg _ ((cut (cs := cs) (o := 5) (s := 1)).trans (congrArg _ ((cut (cs := cs) (o := 6) (s := 1)).trans (congrArg _ (cut_end (by rw [hl])))))))))))
  rw [e]
  have e8 : Good (Co.pair Co.int (Co.pair Co.int (Co.pair Co.val (Co.pair Co.int (Co.pair (Co.sl (Co.step (dF n))) (Co.sl (Co.step (dF n)))))))) w _ := ((good_3 f0).pair ((good_3 f1).pair ((good_86 f2).pair ((good_3 f3).pair ((sl23 _ _ f4).pair (sl23 _ _ f5))))))
  exact e8
theorem stepFF {T : Type} {enc : TypeId × Value → T} {w : World} {spare : Nat → Bool} {held : Bool} (n : Nat) : (∀ (cs : List Value) (x : DataW T × List MemPlace), DataW.trod enc Try.prog w 0 spare held (n) 88 cs = some x → Good (Co.step (dF (n))) w cs) ∧ (∀ (cs : List Value) (x : DataW T × List MemPlace), DataW.trod enc Try.prog w 0 spare held (n + 1) 88 cs = some x → Good (Co.step (dF (n + 1))) w cs) := by
  induction n with
  | zero => exact ⟨stepF0, stepF1⟩
  | succ n ih => exact ⟨ih.2, stepF2 ih.1⟩
theorem good_88 {T : Type} {enc : TypeId × Value → T} {w : World} {spare : Nat → Bool} {held : Bool} (n : Nat) {cs : List Value} {x : DataW T × List MemPlace} (h : DataW.trod enc Try.prog w 0 spare held n 88 cs = some x) : Good (Co.step (dF n)) w cs := (stepFF n).1 cs x h
theorem good_25 {T : Type} {enc : TypeId × Value → T} {w : World} {spare : Nat → Bool} {held : Bool} {n : Nat} {cs : List Value} {x : DataW T × List MemPlace} (h : DataW.trod enc Try.prog w 0 spare held n 25 cs = some x) : ∃ d, Good (Co.prog d) w cs := by
  obtain ⟨xs, n1, hn1, rfl, hl, hlen, hf⟩ := DataW.trod_struct Try.underlying25 h
  have hn : Try.prog.cellsOf 25 = 2 := by kernel_rfl
  rw [hn] at hl
  have f0 : DataW.trod enc Try.prog w 0 spare held n1 22 ((cs.drop 0).take (Try.prog.cellsOf 22)) = xs[0]? := hf 0 _ rfl
  rw [List.getElem?_eq_getElem (show 0 < xs.length by rw [hlen]; decide), show Try.prog.cellsOf 22 = 1 by kernel_rfl] at f0
  have f1 : DataW.trod enc Try.prog w 0 spare held n1 23 ((cs.drop 1).take (Try.prog.cellsOf 23)) = xs[1]? := hf 1 _ rfl
  rw [List.getElem?_eq_getElem (show 1 < xs.length by rw [hlen]; decide), show Try.prog.cellsOf 23 = 1 by kernel_rfl] at f1
  have e : cs = ((cs.drop 0).take 1 ++ ((cs.drop 1).take 1)) := (cut (cs := cs) (o := 0) (s := 1)).trans (congrArg _ (cut_end (by rw [hl])))
  refine ⟨dF (n1 - 1), ?_⟩
  rw [e]
  refine (good_22 f0).pair (Good.slF Try.underlying23 (by rw [step_w]; kernel_rfl) (by rw [step_w]; omega) f1 fun n' cs' x' hn' hx' => ?_)
  have : n1 - 1 = n' := by omega
  rw [this]
  exact good_88 n' hx'
theorem len_25 {T : Type} {enc : TypeId × Value → T} {w : World} {spare : Nat → Bool} {held : Bool} {n : Nat} {cs : List Value} {x : DataW T × List MemPlace} (h : DataW.trod enc Try.prog w 0 spare held n 25 cs = some x) : cs.length = 2 := by
  obtain ⟨xs, n, rfl, rfl, hl, hlen, hf⟩ := DataW.trod_struct Try.underlying25 h
  rw [hl]
  kernel_rfl
end Go.Proofs.YtmakdcbpohlacaaI
end
section
/- The law FnExactRunOf, called in the model. -/
set_option linter.unusedVariables false
set_option linter.unusedSimpArgs false
namespace Go.Proofs.YtmakdcbpohlacaaI
open Go Go.RowKit
theorem lawEM_calls {W : World} {c0 : Array Value} {a : Option Addr} {l c : Nat} (g0 : ∃ d, Good (Co.prog d) W c0.toList) (g1 : Good (Co.sl Co.int) W [.slice a l c]) :
    Calls Try.prog 6 #[.agg c0, .slice a l c] W fun e w' => e = .returned (.bool true) ∧ Below W.heap.size W w' := by
  obtain ⟨d, g0⟩ := g0
  obtain ⟨p, L, m, cs0, s, q, r, e⟩ := g0 [] (fun _ => none) (SL.none _)
  rw [List.nil_append] at s r
  obtain ⟨ts, L2, m2, cs1, s2, q2, r2, e2⟩ := g1 L m s
  obtain ⟨u, rfl, hu⟩ := r2
  exact law_core hF hMixed s2 (vals := [.agg cs0.toArray, u]) (All2.cons (VR.agg_mk (e.mono fun _ _ _ h => VR1.mono q2 h)) (All2.cons (VR.one_mk e2) All2.nil))
    (ok_law _ d _ _ p ts ⟨cs0, rfl, (Co.prog d).mono (vw_app 0 L L2) r⟩ hu)
end Go.Proofs.YtmakdcbpohlacaaI
end
