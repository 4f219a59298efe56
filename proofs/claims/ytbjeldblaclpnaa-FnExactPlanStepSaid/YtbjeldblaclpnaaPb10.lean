/- Texts of this proof, merged: K26, GL34, K17, CL34. -/
import Derived.Test.YtbjeldblaclpnaaPb8
import Derived.Test.YtbjeldblaclpnaaPb9
import Derived.Test.YtbjeldblaclpnaaRows
section
/- The law FnExactPlanStep on the ideal machine. -/
set_option linter.unusedVariables false
set_option linter.unusedSimpArgs false
namespace Go.Proofs.YtbjeldblaclpnaaI
open Go Go.RowKit
def StepR (F : Nat → Option IFn) (f : Nat) : Prop := ∀ (H : Heap) (n : Nat) (u w1 w2 : Value) (p : TProg n) (ts hs : List Int) (j h : Int), Rd (Co.prog n) true (vw 0 H) u p → (Co.prog n).sm p → SlR Co.int (vw 0 H) w1 ts → SlR Co.int (vw 0 H) w2 hs → QC F f [u, w1, w2, .int .i64 j, .int .i64 h] H (.bool (stepV n p ts hs j h))
theorem StepV.rd {F : Nat → Option IFn} {f : Nat} (h : StepV F f) : StepR F f := by
  rintro H n u w1 w2 ⟨p0, p1⟩ ts hs j h' hu hsm hw1 hw2
  obtain ⟨pc, hpc, _, _, rfl, ⟨v0, rfl, r0⟩, ⟨v1, rfl, r1⟩⟩ := hu
  simp only [go_sem, binC, Option.some.injEq] at hpc
  subst hpc
  exact h H n v0 v1 w1 w2 p0 p1 ts hs j h' r0 r1 hsm hw1 hw2
def c_lawEPS : IFn := ⟨5, 67, [.t 10],
 .seq (.reg none [
    ⟨(some 5), none, .box (.t 0)⟩,
    ⟨(some 10), none, .mov (.c (.bool false))⟩])
 (.seq (.seq (.reg none [
     ⟨(some 17), none, .mov (.t 1)⟩,
     ⟨(some 18), none, .len (.t 17)⟩,
     ⟨(some 19), none, .bin .gtr (.t 18) (.c (.int .i64 1048576))⟩])
  (.cond (.t 19) (.seq (.reg none [
      ⟨(some 10), none, .mov (.c (.bool true))⟩])
   (.ret)) (.skip)))
 (.seq (.seq (.reg none [
     ⟨(some 20), none, .mov (.t 2)⟩,
     ⟨(some 21), none, .len (.t 20)⟩,
     ⟨(some 22), none, .bin .gtr (.t 21) (.c (.int .i64 1048576))⟩])
  (.cond (.t 22) (.seq (.reg none [
      ⟨(some 10), none, .mov (.c (.bool true))⟩])
   (.ret)) (.skip)))
 (.seq (.reg none [
    ⟨(some 11), none, .mov (.c (.int .i64 1048576))⟩])
 (.seq (.reg none [
    ⟨(some 23), none, .load true 2 (.t 5)⟩,
    ⟨(some 24), none, .mov (.t 11)⟩,
    ⟨(some 25), none, .call .q (.f 22) [(.t 23), (.t 24)]⟩,
    ⟨(some 11), none, .mov (.t 25)⟩])
 (.seq (.seq (.reg none [
     ⟨(some 26), none, .mov (.t 11)⟩,
     ⟨(some 27), none, .bin .lss (.t 26) (.c (.int .i64 0))⟩])
  (.cond (.t 27) (.seq (.reg none [
      ⟨(some 10), none, .mov (.c (.bool true))⟩])
   (.ret)) (.skip)))
 (.seq (.reg none [
    ⟨(some 28), none, .load true 2 (.t 5)⟩,
    ⟨(some 29), none, .call .k (.f 23) [(.t 28)]⟩,
    ⟨(some 30), none, .mov (.t 1)⟩,
    ⟨(some 31), none, .call .k (.f 24) [(.t 30)]⟩,
    ⟨(some 32), none, .mov (.t 2)⟩,
    ⟨(some 33), none, .call .k (.f 24) [(.t 32)]⟩,
    ⟨(some 34), none, .mov (.t 3)⟩,
    ⟨(some 35), none, .mov (.t 4)⟩,
    ⟨(some 36), none, .call .q (.f 35) [(.t 29), (.t 31), (.t 33), (.t 34), (.t 35)]⟩,
    ⟨(some 12), none, .mov (.t 36)⟩])
 (.seq (.reg none [
    ⟨(some 37), none, .load true 2 (.t 5)⟩,
    ⟨(some 38), none, .call .k (.f 23) [(.t 37)]⟩,
    ⟨(some 13), none, .new [(.slice none 0 0), (.slice none 0 0)]⟩,
    ⟨none, none, .store 2 (.t 13) (.t 38)⟩])
 (.seq (.reg none [
    ⟨(some 39), none, .mov (.t 1)⟩,
    ⟨(some 40), none, .call .k (.f 24) [(.t 39)]⟩,
    ⟨(some 14), none, .mov (.t 40)⟩])
 (.seq (.reg none [
    ⟨(some 41), none, .mov (.t 2)⟩,
    ⟨(some 42), none, .call .k (.f 24) [(.t 41)]⟩,
    ⟨(some 15), none, .mov (.t 42)⟩])
 (.seq (.reg none [
    ⟨(some 43), none, .load true 2 (.t 13)⟩,
    ⟨(some 44), none, .mov (.t 14)⟩,
    ⟨(some 45), none, .mov (.t 15)⟩,
    ⟨(some 46), none, .mov (.t 3)⟩,
    ⟨(some 47), none, .mov (.t 4)⟩,
    ⟨(some 48), none, .call .q (.f 36) [(.t 43), (.t 44), (.t 45), (.t 46), (.t 47)]⟩,
    ⟨(some 16), none, .mov (.t 48)⟩])
 (.seq (.seq (.reg none [
     ⟨(some 49), none, .mov (.t 16)⟩,
     ⟨(some 50), none, .mov (.t 12)⟩,
     ⟨(some 51), none, .beq true (.t 49) (.t 50)⟩])
  (.cond (.t 51) (.seq (.reg none [
      ⟨(some 10), none, .mov (.c (.bool false))⟩])
   (.ret)) (.skip)))
 (.seq (.seq (.reg (some 3) [
     ⟨(some 52), none, .load true 2 (.t 13)⟩,
     ⟨(some 53), none, .load true 2 (.t 5)⟩,
     ⟨(some 54), none, .call .k (.f 23) [(.t 53)]⟩,
     ⟨(some 55), none, .call .q (.f 26) [(.t 52), (.t 54)]⟩,
     ⟨(some 56), none, .un .not (.t 55)⟩])
  (.cond (.t 56) (.seq (.reg none [
      ⟨(some 10), none, .mov (.c (.bool false))⟩])
   (.ret)) (.skip)))
 (.seq (.seq (.reg none [
     ⟨(some 57), none, .mov (.t 14)⟩,
     ⟨(some 58), none, .mov (.t 1)⟩,
     ⟨(some 59), none, .call .k (.f 24) [(.t 58)]⟩,
     ⟨(some 60), none, .call .q (.f 27) [(.t 57), (.t 59)]⟩,
     ⟨(some 61), none, .un .not (.t 60)⟩])
  (.cond (.t 61) (.seq (.reg none [
      ⟨(some 10), none, .mov (.c (.bool false))⟩])
   (.ret)) (.skip)))
 (.seq (.seq (.reg none [
     ⟨(some 62), none, .mov (.t 15)⟩,
     ⟨(some 63), none, .mov (.t 2)⟩,
     ⟨(some 64), none, .call .k (.f 24) [(.t 63)]⟩,
     ⟨(some 65), none, .call .q (.f 27) [(.t 62), (.t 64)]⟩,
     ⟨(some 66), none, .un .not (.t 65)⟩])
  (.cond (.t 66) (.seq (.reg none [
      ⟨(some 10), none, .mov (.c (.bool false))⟩])
   (.ret)) (.skip)))
 (.seq (.reg none [
    ⟨(some 10), none, .mov (.c (.bool true))⟩])
 (.ret))))))))))))))))⟩
theorem lawEPS_ok {F : Nat → Option IFn} {f : Nat} (hf : F f = some c_lawEPS) (gs : ∀ n, SzOk F (Co.prog n) true 22) (gt : ∀ n, ToOk F (Co.prog n) true .k 23) (gti : ToOk F (Co.sl Co.int) false .k 24) (ge : ∀ n, EqOk F (Co.prog n) true 26) (gei : EqOk F (Co.sl Co.int) false 27)
    (gp : StepR F 35) (gi : StepR F 36) :
    ∀ (H : Heap) (n : Nat) (v u u2 : Value) (a : TProg n) (ts hs : List Int) (x y : Int), Rd (Co.prog n) true (vw 0 H) v a → SlR Co.int (vw 0 H) u ts → SlR Co.int (vw 0 H) u2 hs → QC F f [v, u, u2, .int .i64 x, .int .i64 y] H (.bool true) := by
  intro H n v u u2 a ts hs x y hr hu hv
  have hr' := hr
  have huts : ∀ L, Rd (Co.sl Co.int) false (vw 0 (H ++ L)) u ts := fun L => ⟨_, rfl, Co.rd_sl.2 (hu.mono (vw_app 0 H L))⟩
  have huhs : ∀ L, Rd (Co.sl Co.int) false (vw 0 (H ++ L)) u2 hs := fun L => ⟨_, rfl, Co.rd_sl.2 (hv.mono (vw_app 0 H L))⟩
  obtain ⟨cs, hc, hcs⟩ := hr
  have hl := (Co.prog n).len hcs
  have ho : cs.all one = true := by rw [List.all_eq_true]; exact (Co.prog n).ones hcs
  simp only [go_sem, binC, Option.some.injEq] at hc
  subst hc
  have l2 : cs.length = 2 := hl
  have t2 : List.take 2 cs = cs := List.take_of_length_le (by omega)
  obtain ⟨au, xu⟩ := hu.shape
  subst xu
  obtain ⟨av, xv⟩ := hv.shape
  subst xv
  refine QC.mk hf rfl ?_
  refine seq_reg ?_
  simp only [go_sem, binC, ho]
  refine seq_assoc (seq_reg ?_)
  simp only [go_sem, binC]
  by_cases hbig0 : 1048576 < (ts.length : Int)
  · refine seq_cond (t := true) (by simp only [go_sem, binC]; rw [decide_eq_true hbig0]) ?_
    simp only [go_sem, binC]
    refine seq_assoc (seq_reg ?_)
    simp only [go_sem, binC]
    exact seq_ret ⟨Or.inr rfl, .bool true, by simp only [go_sem, binC], rfl, rfl⟩
  refine seq_cond (t := false) (by simp only [go_sem, binC]; rw [decide_eq_false hbig0]) ?_
  simp only [go_sem, binC]
  have hsuts : (Co.sl Co.int).sm ts := ⟨by omega, fun _ _ => trivial⟩
  refine seq_skip (seq_assoc (seq_reg ?_))
  simp only [go_sem, binC]
  by_cases hbig1 : 1048576 < (hs.length : Int)
  · refine seq_cond (t := true) (by simp only [go_sem, binC]; rw [decide_eq_true hbig1]) ?_
    simp only [go_sem, binC]
    refine seq_assoc (seq_reg ?_)
    simp only [go_sem, binC]
    exact seq_ret ⟨Or.inr rfl, .bool true, by simp only [go_sem, binC], rfl, rfl⟩
  refine seq_cond (t := false) (by simp only [go_sem, binC]; rw [decide_eq_false hbig1]) ?_
  simp only [go_sem, binC]
  have hsuhs : (Co.sl Co.int).sm hs := ⟨by omega, fun _ _ => trivial⟩
  refine seq_skip (seq_reg ?_)
  simp only [go_sem, binC]
  refine seq_reg ?_
  simp only [go_sem, binC, inBlk, l2, t2]
  obtain ⟨r, q1, q2, q3⟩ := gs n (H ++ [⟨cs, 0, 0, false, true⟩]) _ a 1048576 (hr'.mono (vw_app 0 H _)) (by omega) (by omega)
  refine op_callQ (by simp only [go_sem, binC]; exact q1) ?_
  simp only [go_sem, binC]
  refine seq_assoc (seq_reg ?_)
  simp only [go_sem, binC]
  by_cases hn : r < 0
  · refine seq_cond (t := true) (by simp only [go_sem, binC]; rw [decide_eq_true hn]) ?_
    simp only [go_sem, binC]
    refine seq_assoc (seq_reg ?_)
    simp only [go_sem, binC]
    exact seq_ret ⟨Or.inr rfl, .bool true, by simp only [go_sem, binC], rfl, rfl⟩
  refine seq_cond (t := false) (by simp only [go_sem, binC]; rw [decide_eq_false hn]) ?_
  simp only [go_sem, binC]
  have hsm := q3 (by omega)
  refine seq_skip (seq_reg ?_)
  simp only [go_sem, binC, inBlk, l2, t2]
  refine gt n _ _ a (hr'.mono (vw_app 0 H _)) hsm _ _ _ _ (by simp only [go_sem, binC]) ?_
  intro w0 L0 hw0
  have hw0' := fun L => hw0.mono (Sub.trans (vw_grow (Nat.zero_le _) fun _ _ _ => rfl) (vw_app 0 _ L))
  simp only [go_sem, binC] at hw0'
  simp only [go_sem, binC]
  refine gti _ _ ts (huts _) hsuts _ _ _ _ (by simp only [go_sem, binC]) ?_
  rintro w1 L1 hw1
  have hw1' := fun L => hw1.mono (Sub.trans (vw_grow (Nat.zero_le _) fun _ _ _ => rfl) (vw_app 0 _ L))
  have hw1c := hw1' []
  rw [List.append_nil] at hw1c
  obtain ⟨c1, hc1, k1⟩ := hw1c
  obtain ⟨u1, rfl, k1⟩ := k1
  simp only [go_sem, binC, Option.some.injEq] at hc1
  subst hc1
  simp only [go_sem, binC] at k1 hw1'
  simp only [go_sem, binC]
  refine gti _ _ hs (huhs _) hsuhs _ _ _ _ (by simp only [go_sem, binC]) ?_
  rintro w2 L2 hw2
  have hw2' := fun L => hw2.mono (Sub.trans (vw_grow (Nat.zero_le _) fun _ _ _ => rfl) (vw_app 0 _ L))
  have hw2c := hw2' []
  rw [List.append_nil] at hw2c
  obtain ⟨c2, hc2, k2⟩ := hw2c
  obtain ⟨u2, rfl, k2⟩ := k2
  simp only [go_sem, binC, Option.some.injEq] at hc2
  subst hc2
  simp only [go_sem, binC] at k2 hw2'
  simp only [go_sem, binC]
  have k1s := fun L => k1.mono (vw_app 0 _ L)
  simp only [go_sem, binC] at k1s
  have hgi := fun (H : Heap) (u w1 w2 : Value) (h1 : Rd (Co.prog n) true (vw 0 H) u a) (h2 : SlR Co.int (vw 0 H) w1 ts) (h3 : SlR Co.int (vw 0 H) w2 hs) => gi H n u w1 w2 a ts hs x y h1 hsm h2 h3
  refine op_callQ (by simp only [go_sem, binC]; exact gp _ n _ _ _ a ts hs x y (hw0' _) hsm (k1s _) k2) ?_
  generalize stepV n a ts hs x y = lk at *
  simp only [go_sem, binC]
  refine seq_reg ?_
  simp only [go_sem, binC, inBlk, l2, t2]
  refine gt n _ _ a (hr'.mono (vw_app 0 H _)) hsm _ _ _ _ (by simp only [go_sem, binC]) ?_
  rintro w3 L3 hw3
  have hw3' := fun L => hw3.mono (Sub.trans (vw_grow (Nat.zero_le _) fun _ _ _ => rfl) (vw_app 0 _ L))
  simp only [go_sem, binC] at hw3'
  obtain ⟨c3, hc3, hcs3⟩ := hw3
  have ho3 : c3.all one = true := by rw [List.all_eq_true]; exact (Co.prog n).ones hcs3
  have f5 : c3.length = 2 := (Co.prog n).len hcs3
  have f6 : List.take 2 c3 = c3 := List.take_of_length_le (by omega)
  simp only [go_sem, binC, Option.some.injEq] at hc3
  subst hc3
  simp only [go_sem, binC, ho3, f5, setL_full]
  refine seq_reg ?_
  simp only [go_sem, binC]
  refine gti _ _ ts (huts _) hsuts _ _ _ _ (by simp only [go_sem, binC]) ?_
  rintro w4 L4 hw4
  have hw4' := fun L => hw4.mono (Sub.trans (vw_grow (Nat.zero_le _) fun _ _ _ => rfl) (vw_app 0 _ L))
  have hw4c := hw4' []
  rw [List.append_nil] at hw4c
  obtain ⟨c4, hc4, k4⟩ := hw4c
  obtain ⟨u4, rfl, k4⟩ := k4
  simp only [go_sem, binC, Option.some.injEq] at hc4
  subst hc4
  simp only [go_sem, binC] at k4 hw4'
  simp only [go_sem, binC]
  refine seq_reg ?_
  simp only [go_sem, binC]
  refine gti _ _ hs (huhs _) hsuhs _ _ _ _ (by simp only [go_sem, binC]) ?_
  rintro w5 L5 hw5
  have hw5' := fun L => hw5.mono (Sub.trans (vw_grow (Nat.zero_le _) fun _ _ _ => rfl) (vw_app 0 _ L))
  have hw5c := hw5' []
  rw [List.append_nil] at hw5c
  obtain ⟨c5, hc5, k5⟩ := hw5c
  obtain ⟨u5, rfl, k5⟩ := k5
  simp only [go_sem, binC, Option.some.injEq] at hc5
  subst hc5
  simp only [go_sem, binC] at k5 hw5'
  simp only [go_sem, binC]
  have k4s := fun L => k4.mono (vw_app 0 _ L)
  simp only [go_sem, binC] at k4s
  refine seq_reg ?_
  simp only [go_sem, binC, inBlk, f5, f6]
  refine op_callQ (by simp only [go_sem, binC]; exact hgi _ _ _ _ (hw3' _) (k4s _) k5) ?_
  simp only [go_sem, binC]
  refine seq_assoc (seq_reg ?_)
  simp only [go_sem, binC, beq_self_eq_true, bne_self_eq_false]
  refine seq_cond (t := false) (by simp only [go_sem, binC]) ?_
  simp only [go_sem, binC]
  refine seq_skip (seq_assoc (seq_regD ?_))
  simp only [go_sem, binC, inBlk, f5, f6, l2, t2]
  refine gt n _ _ a (hr'.mono (vw_app 0 H _)) hsm _ _ _ _ (by simp only [go_sem, binC]) ?_
  intro w6 L6 hw6
  simp only [go_sem, binC] at hw6
  simp only [go_sem, binC]
  refine op_callQ (by simp only [go_sem, binC]; exact ge n _ _ _ a (hw3' _) (hw6.mono (vw_grow (Nat.zero_le _) fun _ _ _ => rfl))) ?_
  simp only [go_sem, binC]
  refine seq_cond (t := false) (by simp only [go_sem, binC]) ?_
  simp only [go_sem, binC]
  refine seq_skip (seq_assoc (seq_reg ?_))
  simp only [go_sem, binC]
  refine gti _ _ ts (huts _) hsuts _ _ _ _ (by simp only [go_sem, binC]) ?_
  intro w7 L7 hw7
  simp only [go_sem, binC] at hw7
  simp only [go_sem, binC]
  refine op_callQ (by simp only [go_sem, binC]; exact gei _ _ _ ts (hw4' _) (hw7.mono (vw_grow (Nat.zero_le _) fun _ _ _ => rfl))) ?_
  simp only [go_sem, binC]
  refine seq_cond (t := false) (by simp only [go_sem, binC]) ?_
  simp only [go_sem, binC]
  refine seq_skip (seq_assoc (seq_reg ?_))
  simp only [go_sem, binC]
  refine gti _ _ hs (huhs _) hsuhs _ _ _ _ (by simp only [go_sem, binC]) ?_
  intro w8 L8 hw8
  simp only [go_sem, binC] at hw8
  simp only [go_sem, binC]
  refine op_callQ (by simp only [go_sem, binC]; exact gei _ _ _ hs (hw5' _) (hw8.mono (vw_grow (Nat.zero_le _) fun _ _ _ => rfl))) ?_
  simp only [go_sem, binC]
  refine seq_cond (t := false) (by simp only [go_sem, binC]) ?_
  simp only [go_sem, binC]
  refine seq_skip (seq_reg ?_)
  simp only [go_sem, binC]
  refine wpc_ret ⟨Or.inr rfl, _, ?_, rfl, rfl⟩
  simp only [go_sem, binC]
end Go.Proofs.YtbjeldblaclpnaaI
end
section
/- The functions that the law FnExactPlanStep reaches, as ideal functions. -/
set_option linter.unusedVariables false
set_option linter.unusedSimpArgs false
namespace Go.Proofs.YtbjeldblaclpnaaI
open Go Go.RowKit
def fnOf : Nat → Option IFn
  | 7 => some (c_lawEPS)
  | 22 => some (c_szProg)
  | 23 => some (c_toProg)
  | 24 => some (toFlat 3)
  | 26 => some (c_eqProg)
  | 27 => some (eqFlat)
  | 35 => some (c_sPlanStep)
  | 36 => some (c_iPlanStep)
  | 49 => some (c_sTrusts)
  | 50 => some (c_sSee)
  | 52 => some (c_iTrusts)
  | 53 => some (c_iAt)
  | 55 => some (c_iAll)
  | 60 => some (c_sProg)
  | 61 => some (c_iProg)
  | 62 => some (c_iSize)
  | 63 => some (c_iHostsOk)
  | 65 => some (c_iDoes)
  | 66 => some (szFlat)
  | 67 => some (szNest 117 8 true)
  | 68 => some (toCall .q 118 2 38 16 [(.int .i64 0), (.int .i64 0)] true)
  | 69 => some (toCall .k 119 8 85 96 [(.int .i64 0), (.int .i64 0), (.int .i64 0), (.int .i64 0), (.int .i64 0), (.int .i64 0), (.slice none 0 0), (.slice none 0 0)] true)
  | 70 => some (eqCall 120 2 true)
  | 71 => some (eqCall 121 8 true)
  | 76 => some (c_sHomes21)
  | 77 => some (c_sProgSize)
  | 79 => some (c_sIn)
  | 80 => some (c_lStep)
  | 81 => some (c_iIn)
  | 82 => some (c_iHost)
  | 83 => some (c_iSets)
  | 85 => some (c_iVar)
  | 90 => some (c_sEither)
  | 91 => some (c_sSet)
  | 92 => some (c_sHas)
  | 93 => some (c_sAllSteps)
  | 94 => some (c_sTypeAt)
  | 95 => some (c_sTypeSets)
  | 96 => some (c_sBy)
  | 98 => some (c_iSet)
  | 99 => some (c_iHas)
  | 100 => some (c_iLabels)
  | 101 => some (c_iEvery)
  | 105 => some (c_sLabelOk)
  | 106 => some (c_sSteps)
  | 107 => some (c_sCount)
  | 108 => some (c_con)
  | 109 => some (c_p1)
  | 110 => some (c_iLabelOk)
  | 111 => some (c_iSteps)
  | 112 => some (c_cfInt)
  | 113 => some (c_hk1)
  | 114 => some (c_iWithin)
  | 115 => some (c_iBy)
  | 116 => some (c_iMakes)
  | 117 => some (c_szStep)
  | 118 => some (c_toLabel)
  | 119 => some (c_toStep)
  | 120 => some (c_eqLabel)
  | 121 => some (c_eqStep)
  | 122 => some (c_sWithin)
  | 123 => some (c_sVars21)
  | 130 => some (c_sBoth)
  | 131 => some (c_sAll)
  | 132 => some (c_sAt)
  | 133 => some (c_sAny)
  | 134 => some (c_sSets)
  | 135 => some (c_iBoth)
  | 137 => some (c_sLBoth)
  | 139 => some (c_sStep)
  | 140 => some (c_idx)
  | 141 => some (c_iVal)
  | 142 => some (c_ifInt)
  | 143 => some (c_vars)
  | 144 => some (c_toVal)
  | 145 => some (c_eqVal)
  | 147 => some (c_sVar)
  | 148 => some (c_sVal)
  | 149 => some (c_iNum)
  | _ => none
def cmOf (f : Nat) : CM := ⟨fun g => if [7, 22, 26, 27, 35, 36, 49, 52, 60, 61, 62, 63, 65, 66, 67, 70, 71, 76, 77, 79, 80, 81, 82, 83, 85, 90, 91, 92, 96, 98, 99, 101, 105, 106, 107, 108, 109, 110, 111, 112, 113, 114, 115, 117, 118, 120, 121, 122, 130, 131, 133, 134, 135, 137, 139, 140, 141, 142, 144, 145, 147, 148, 149].contains g then .q else if [50, 100, 132].contains g then .n else .k, if [50, 100, 132].contains f then .n else .q, false⟩
theorem hF7 : cFn Try.prog cmOf 7 = some (c_lawEPS) := by kernel_rfl
theorem hF22 : cFn Try.prog cmOf 22 = some (c_szProg) := by kernel_rfl
theorem hF23 : cFn Try.prog cmOf 23 = some (c_toProg) := by kernel_rfl
theorem hF24 : cFn Try.prog cmOf 24 = some (toFlat 3) := by kernel_rfl
theorem hF26 : cFn Try.prog cmOf 26 = some (c_eqProg) := by kernel_rfl
theorem hF27 : cFn Try.prog cmOf 27 = some (eqFlat) := by kernel_rfl
theorem hF35 : cFn Try.prog cmOf 35 = some (c_sPlanStep) := by kernel_rfl
theorem hF36 : cFn Try.prog cmOf 36 = some (c_iPlanStep) := by kernel_rfl
theorem hF49 : cFn Try.prog cmOf 49 = some (c_sTrusts) := by kernel_rfl
theorem hF50 : cFn Try.prog cmOf 50 = some (c_sSee) := by kernel_rfl
theorem hF52 : cFn Try.prog cmOf 52 = some (c_iTrusts) := by kernel_rfl
theorem hF53 : cFn Try.prog cmOf 53 = some (c_iAt) := by kernel_rfl
theorem hF55 : cFn Try.prog cmOf 55 = some (c_iAll) := by kernel_rfl
theorem hF60 : cFn Try.prog cmOf 60 = some (c_sProg) := by kernel_rfl
theorem hF61 : cFn Try.prog cmOf 61 = some (c_iProg) := by kernel_rfl
theorem hF62 : cFn Try.prog cmOf 62 = some (c_iSize) := by kernel_rfl
theorem hF63 : cFn Try.prog cmOf 63 = some (c_iHostsOk) := by kernel_rfl
theorem hF65 : cFn Try.prog cmOf 65 = some (c_iDoes) := by kernel_rfl
theorem hF66 : cFn Try.prog cmOf 66 = some (szFlat) := by kernel_rfl
theorem hF67 : cFn Try.prog cmOf 67 = some (szNest 117 8 true) := by kernel_rfl
theorem hF68 : cFn Try.prog cmOf 68 = some (toCall .q 118 2 38 16 [(.int .i64 0), (.int .i64 0)] true) := by kernel_rfl
theorem hF69 : cFn Try.prog cmOf 69 = some (toCall .k 119 8 85 96 [(.int .i64 0), (.int .i64 0), (.int .i64 0), (.int .i64 0), (.int .i64 0), (.int .i64 0), (.slice none 0 0), (.slice none 0 0)] true) := by kernel_rfl
theorem hF70 : cFn Try.prog cmOf 70 = some (eqCall 120 2 true) := by kernel_rfl
theorem hF71 : cFn Try.prog cmOf 71 = some (eqCall 121 8 true) := by kernel_rfl
theorem hF76 : cFn Try.prog cmOf 76 = some (c_sHomes21) := by kernel_rfl
theorem hF77 : cFn Try.prog cmOf 77 = some (c_sProgSize) := by kernel_rfl
theorem hF79 : cFn Try.prog cmOf 79 = some (c_sIn) := by kernel_rfl
theorem hF80 : cFn Try.prog cmOf 80 = some (c_lStep) := by kernel_rfl
theorem hF81 : cFn Try.prog cmOf 81 = some (c_iIn) := by kernel_rfl
theorem hF82 : cFn Try.prog cmOf 82 = some (c_iHost) := by kernel_rfl
theorem hF83 : cFn Try.prog cmOf 83 = some (c_iSets) := by kernel_rfl
theorem hF85 : cFn Try.prog cmOf 85 = some (c_iVar) := by kernel_rfl
theorem hF90 : cFn Try.prog cmOf 90 = some (c_sEither) := by kernel_rfl
theorem hF91 : cFn Try.prog cmOf 91 = some (c_sSet) := by kernel_rfl
theorem hF92 : cFn Try.prog cmOf 92 = some (c_sHas) := by kernel_rfl
theorem hF93 : cFn Try.prog cmOf 93 = some (c_sAllSteps) := by kernel_rfl
theorem hF94 : cFn Try.prog cmOf 94 = some (c_sTypeAt) := by kernel_rfl
theorem hF95 : cFn Try.prog cmOf 95 = some (c_sTypeSets) := by kernel_rfl
theorem hF96 : cFn Try.prog cmOf 96 = some (c_sBy) := by kernel_rfl
theorem hF98 : cFn Try.prog cmOf 98 = some (c_iSet) := by kernel_rfl
theorem hF99 : cFn Try.prog cmOf 99 = some (c_iHas) := by kernel_rfl
theorem hF100 : cFn Try.prog cmOf 100 = some (c_iLabels) := by kernel_rfl
theorem hF101 : cFn Try.prog cmOf 101 = some (c_iEvery) := by kernel_rfl
theorem hF105 : cFn Try.prog cmOf 105 = some (c_sLabelOk) := by kernel_rfl
theorem hF106 : cFn Try.prog cmOf 106 = some (c_sSteps) := by kernel_rfl
theorem hF107 : cFn Try.prog cmOf 107 = some (c_sCount) := by kernel_rfl
theorem hF108 : cFn Try.prog cmOf 108 = some (c_con) := by kernel_rfl
theorem hF109 : cFn Try.prog cmOf 109 = some (c_p1) := by kernel_rfl
theorem hF110 : cFn Try.prog cmOf 110 = some (c_iLabelOk) := by kernel_rfl
theorem hF111 : cFn Try.prog cmOf 111 = some (c_iSteps) := by kernel_rfl
theorem hF112 : cFn Try.prog cmOf 112 = some (c_cfInt) := by kernel_rfl
theorem hF113 : cFn Try.prog cmOf 113 = some (c_hk1) := by kernel_rfl
theorem hF114 : cFn Try.prog cmOf 114 = some (c_iWithin) := by kernel_rfl
theorem hF115 : cFn Try.prog cmOf 115 = some (c_iBy) := by kernel_rfl
theorem hF116 : cFn Try.prog cmOf 116 = some (c_iMakes) := by kernel_rfl
theorem hF117 : cFn Try.prog cmOf 117 = some (c_szStep) := by kernel_rfl
theorem hF118 : cFn Try.prog cmOf 118 = some (c_toLabel) := by kernel_rfl
theorem hF119 : cFn Try.prog cmOf 119 = some (c_toStep) := by kernel_rfl
theorem hF120 : cFn Try.prog cmOf 120 = some (c_eqLabel) := by kernel_rfl
theorem hF121 : cFn Try.prog cmOf 121 = some (c_eqStep) := by kernel_rfl
theorem hF122 : cFn Try.prog cmOf 122 = some (c_sWithin) := by kernel_rfl
theorem hF123 : cFn Try.prog cmOf 123 = some (c_sVars21) := by kernel_rfl
theorem hF130 : cFn Try.prog cmOf 130 = some (c_sBoth) := by kernel_rfl
theorem hF131 : cFn Try.prog cmOf 131 = some (c_sAll) := by kernel_rfl
theorem hF132 : cFn Try.prog cmOf 132 = some (c_sAt) := by kernel_rfl
theorem hF133 : cFn Try.prog cmOf 133 = some (c_sAny) := by kernel_rfl
theorem hF134 : cFn Try.prog cmOf 134 = some (c_sSets) := by kernel_rfl
theorem hF135 : cFn Try.prog cmOf 135 = some (c_iBoth) := by kernel_rfl
theorem hF137 : cFn Try.prog cmOf 137 = some (c_sLBoth) := by kernel_rfl
theorem hF139 : cFn Try.prog cmOf 139 = some (c_sStep) := by kernel_rfl
theorem hF140 : cFn Try.prog cmOf 140 = some (c_idx) := by kernel_rfl
theorem hF141 : cFn Try.prog cmOf 141 = some (c_iVal) := by kernel_rfl
theorem hF142 : cFn Try.prog cmOf 142 = some (c_ifInt) := by kernel_rfl
theorem hF143 : cFn Try.prog cmOf 143 = some (c_vars) := by kernel_rfl
theorem hF144 : cFn Try.prog cmOf 144 = some (c_toVal) := by kernel_rfl
theorem hF145 : cFn Try.prog cmOf 145 = some (c_eqVal) := by kernel_rfl
theorem hF147 : cFn Try.prog cmOf 147 = some (c_sVar) := by kernel_rfl
theorem hF148 : cFn Try.prog cmOf 148 = some (c_sVal) := by kernel_rfl
theorem hF149 : cFn Try.prog cmOf 149 = some (c_iNum) := by kernel_rfl
theorem hF (g : Nat) (fn : IFn) (h : fnOf g = some fn) : cFn Try.prog cmOf g = some fn := by
  unfold fnOf at h
  split at h
  · rw [← h]; exact hF7
  · rw [← h]; exact hF22
  · rw [← h]; exact hF23
  · rw [← h]; exact hF24
  · rw [← h]; exact hF26
  · rw [← h]; exact hF27
  · rw [← h]; exact hF35
  · rw [← h]; exact hF36
  · rw [← h]; exact hF49
  · rw [← h]; exact hF50
  · rw [← h]; exact hF52
  · rw [← h]; exact hF53
  · rw [← h]; exact hF55
  · rw [← h]; exact hF60
  · rw [← h]; exact hF61
  · rw [← h]; exact hF62
  · rw [← h]; exact hF63
  · rw [← h]; exact hF65
  · rw [← h]; exact hF66
  · rw [← h]; exact hF67
  · rw [← h]; exact hF68
  · rw [← h]; exact hF69
  · rw [← h]; exact hF70
  · rw [← h]; exact hF71
  · rw [← h]; exact hF76
  · rw [← h]; exact hF77
  · rw [← h]; exact hF79
  · rw [← h]; exact hF80
  · rw [← h]; exact hF81
  · rw [← h]; exact hF82
  · rw [← h]; exact hF83
  · rw [← h]; exact hF85
  · rw [← h]; exact hF90
  · rw [← h]; exact hF91
  · rw [← h]; exact hF92
  · rw [← h]; exact hF93
  · rw [← h]; exact hF94
  · rw [← h]; exact hF95
  · rw [← h]; exact hF96
  · rw [← h]; exact hF98
  · rw [← h]; exact hF99
  · rw [← h]; exact hF100
  · rw [← h]; exact hF101
  · rw [← h]; exact hF105
  · rw [← h]; exact hF106
  · rw [← h]; exact hF107
  · rw [← h]; exact hF108
  · rw [← h]; exact hF109
  · rw [← h]; exact hF110
  · rw [← h]; exact hF111
  · rw [← h]; exact hF112
  · rw [← h]; exact hF113
  · rw [← h]; exact hF114
  · rw [← h]; exact hF115
  · rw [← h]; exact hF116
  · rw [← h]; exact hF117
  · rw [← h]; exact hF118
  · rw [← h]; exact hF119
  · rw [← h]; exact hF120
  · rw [← h]; exact hF121
  · rw [← h]; exact hF122
  · rw [← h]; exact hF123
  · rw [← h]; exact hF130
  · rw [← h]; exact hF131
  · rw [← h]; exact hF132
  · rw [← h]; exact hF133
  · rw [← h]; exact hF134
  · rw [← h]; exact hF135
  · rw [← h]; exact hF137
  · rw [← h]; exact hF139
  · rw [← h]; exact hF140
  · rw [← h]; exact hF141
  · rw [← h]; exact hF142
  · rw [← h]; exact hF143
  · rw [← h]; exact hF144
  · rw [← h]; exact hF145
  · rw [← h]; exact hF147
  · rw [← h]; exact hF148
  · rw [← h]; exact hF149
  · cases h
theorem hMixed : Try.prog.follows .mixedOrders = true := by kernel_rfl
theorem ok_iIn : ∀ (H : Heap) (a b c : Int), QC fnOf 81 [.int .i64 a, .int .i64 b, .int .i64 c] H (.bool (inB a b c)) := iIn_ok rfl
theorem ok_sIn : ∀ (H : Heap) (a b c : Int), QC fnOf 79 [.int .i64 a, .int .i64 b, .int .i64 c] H (.bool (inB a b c)) := sIn_ok rfl
theorem ok_iSet : ∀ (H : Heap) (a : Int), QC fnOf 98 [.int .i64 a] H (.bool (inB a 0 7)) := iSet_ok rfl ok_iIn
theorem ok_iHost : ∀ (H : Heap) (a : Int), QC fnOf 82 [.int .i64 a] H (.bool (inB a 0 2)) := iHost_ok rfl ok_iIn
theorem ok_iNum : ∀ (H : Heap) (a : Int), QC fnOf 149 [.int .i64 a] H (.bool (inB a 0 9)) := iNum_ok rfl ok_iIn
theorem ok_sAll : ∀ H, QC fnOf 131 [] H (.int .i64 7) := sAll_ok rfl
theorem ok_sSet : ∀ (H : Heap) (a : Int), QC fnOf 91 [.int .i64 a] H (.bool (inB a 0 7)) := sSet_ok rfl ok_sIn ok_sAll
theorem ok_iLabelOk : LabOk fnOf 110 := iLabelOk_ok rfl ok_iSet
theorem ok_sLabelOk : LabOk fnOf 105 := sLabelOk_ok rfl ok_sSet
theorem ok_iVar : VarOk fnOf 85 := iVar_ok rfl ok_iIn
theorem ok_sVar : VarOk fnOf 147 := sVar_ok rfl ok_sIn
theorem ok_iVal : ValOk fnOf 141 := iVal_ok rfl ok_iNum ok_iVar
theorem ok_sVal : ValOk fnOf 148 := sVal_ok rfl ok_sIn ok_sVar
theorem ok_sSteps : ∀ n, StepsOk fnOf 106 n := fun n => (sSteps_all rfl rfl ok_sIn ok_sVar ok_sVal n).1
theorem ok_iSteps : ∀ n, StepsOk fnOf 111 n := iSteps_all rfl ok_iVar ok_iVal ok_iHost
theorem ok_sCount : ∀ n, CntOk fnOf 107 n := cnt_all (fun _ h => sCount_ok rfl h) (sCount_z rfl)
theorem ok_iSize : ∀ n, CntOk fnOf 62 n := cnt_all (fun _ h => iSize_ok rfl h) (iSize_z rfl)
theorem ok_sProg : ProgOk fnOf 60 := sProg_ok rfl ok_sLabelOk ok_sSteps ok_sCount
theorem ok_iProg : ProgOk fnOf 61 := iProg_ok rfl (con_ok rfl (idx_ok rfl (p1_ok rfl ok_iLabelOk))) ok_iSteps ok_iSize
theorem ok_sHas : HasOk fnOf 92 := sHas_ok rfl
theorem ok_sWit : WitOk fnOf 122 := sWithin_ok rfl ok_sHas
theorem ok_sBoth : BothOk fnOf 130 := sBoth_ok rfl ok_sHas
theorem ok_sLBoth : LBothOk fnOf 137 := sLBoth_ok rfl ok_sLabelOk ok_sBoth
theorem ok_sAny : ∀ H, QC fnOf 133 [] H (.agg #[.int .i64 7, .int .i64 7]) := sAny_ok rfl ok_sAll
theorem ok_sAt : ∀ n, AtOk fnOf 132 n := sAt_all rfl ok_sLBoth
theorem ok_sTypeAt : TypeAtOk fnOf 94 := sTypeAt_ok rfl ok_sProg ok_sAny ok_sAt
theorem ok_iHas : HasOk fnOf 99 := iHas_ok rfl ok_iHost
theorem ok_iWit : WitOk fnOf 114 := iWithin_ok rfl
theorem ok_iBoth : ILBoth fnOf 135 := iBoth_ok rfl
theorem ok_iAt : AtP fnOf 53 := iAt_ok rfl (iLabels_all rfl ok_iBoth) (iEvery_ok rfl)
theorem ok_iTrusts : TrOk fnOf 52 := iTrusts_ok rfl ok_iSet ok_iHas
theorem ok_iBy : ByOk fnOf 115 := iBy_ok rfl ok_iHas
theorem ok_iDoes : DoesOk fnOf 65 := iDoes_ok rfl ok_iHas ok_iWit ok_iBy (iSets_all rfl) (iMakes_ok rfl rfl)
theorem ok_sTrusts : TrOk fnOf 49 := sTrusts_ok rfl ok_sSet ok_sHas
theorem ok_sBy : ByOk fnOf 96 := sBy_ok rfl ok_sHas
theorem ok_sAllA : ∀ n, AllA fnOf 93 n := sAllA_all rfl
theorem ok_sTypeSets : SetsOk fnOf 95 := sTypeSets_ok rfl ok_sProg ok_sAllA (sSets_all rfl (sEither_ok rfl ok_sBoth))
theorem ok_sSee : SeeOk fnOf 50 := sSee_ok rfl ok_sAllA ok_sTypeAt ok_sTypeSets ok_sBy
theorem ok_lStep : LStep fnOf 80 := lStep_ok rfl ok_sHas ok_sWit (sVars21_ok rfl)
theorem ok_iHostsOk : HostsI fnOf 63 := iHostsOk_ok rfl rfl rfl rfl ok_iHost
theorem ok_iPlanStep : StepV fnOf 36 := iPlanStep_ok rfl ok_iProg ok_iTrusts ok_iHostsOk ok_iSize ok_iIn ok_iHost ok_iAt (iAll_all rfl) ok_iDoes
theorem ok_sProgSize : SizeV fnOf 77 := sProgSizeV_ok rfl ok_sProg ok_sCount
theorem ok_sHomes21 : Homes21 fnOf 76 := sHomes21_ok rfl ok_sIn
theorem ok_sPlanStep : StepV fnOf 35 := sPlanStep_ok rfl ok_sProg ok_sTrusts ok_sHomes21 ok_sProgSize ok_sIn ok_sSee ok_lStep

theorem ok_szLabelS : SzOk fnOf (Co.sl Co.p2) false 66 := szFlat_ok rfl (fun _ => ⟨trivial, trivial⟩)
theorem ok_szSteps : ∀ n, SzOk fnOf (Co.step n) true 117 ∧ SzOk fnOf (Co.sl (Co.step n)) false 67 := by
  intro n
  induction n with
  | zero =>
    have z : SzOk fnOf (Co.step 0) true 117 := by
      rintro H v a left ⟨cs, _, h⟩
      exact h.elim
    exact ⟨z, szNest_ok rfl z (step_w 0) (va_t (Co.step 0))⟩
  | succ n ih =>
    have z : SzOk fnOf (Co.step (n + 1)) true 117 := szStep_ok rfl ih.2 ih.2
    exact ⟨z, szNest_ok rfl z (step_w (n + 1)) (va_t (Co.step (n + 1)))⟩
theorem ok_szProg (n : Nat) : SzOk fnOf (Co.prog n) true 22 := szProg_ok rfl ok_szLabelS (ok_szSteps n).2
theorem ok_toIntS : ToOk fnOf (Co.sl Co.int) false .k 24 := toFlat_ok rfl
theorem ok_toLabel : ToOk fnOf Co.p2 true .q 118 := toLabel_ok rfl
theorem ok_toVal : ToOk fnOf Co.val true .q 144 := toVal_ok rfl
theorem ok_toLabelS : ToOk fnOf (Co.sl Co.p2) false .k 68 := toCall_ok rfl rfl (by omega) ok_toLabel rfl (va_t Co.p2)
theorem ok_toSteps : ∀ n, ToOk fnOf (Co.step n) true .k 119 ∧ ToOk fnOf (Co.sl (Co.step n)) false .k 69 := by
  intro n
  induction n with
  | zero =>
    have z : ToOk fnOf (Co.step 0) true .k 119 := by
      rintro H v a ⟨cs, _, h⟩
      exact h.elim
    exact ⟨z, toCall_ok rfl rfl (by omega) z (step_w 0) (va_t (Co.step 0))⟩
  | succ n ih =>
    have z : ToOk fnOf (Co.step (n + 1)) true .k 119 := toStep_ok rfl ok_toVal ih.2 ih.2
    exact ⟨z, toCall_ok rfl rfl (by omega) z (step_w (n + 1)) (va_t (Co.step (n + 1)))⟩
theorem ok_toProg (n : Nat) : ToOk fnOf (Co.prog n) true .k 23 := toProg_ok rfl ok_toLabelS (ok_toSteps n).2
theorem ok_eqIntS : EqOk fnOf (Co.sl Co.int) false 27 := eqFlat_ok rfl
theorem ok_eqLabel : EqOk fnOf Co.p2 true 120 := eqLabel_ok rfl
theorem ok_eqVal : EqOk fnOf Co.val true 145 := eqVal_ok rfl
theorem ok_eqLabelS : EqOk fnOf (Co.sl Co.p2) false 70 := eqCall_ok rfl ok_eqLabel rfl (va_t Co.p2)
theorem ok_eqSteps : ∀ n, EqOk fnOf (Co.step n) true 121 ∧ EqOk fnOf (Co.sl (Co.step n)) false 71 := by
  intro n
  induction n with
  | zero =>
    have z : EqOk fnOf (Co.step 0) true 121 := by
      rintro H v u a ⟨cs, _, h⟩
      exact h.elim
    exact ⟨z, eqCall_ok rfl z (step_w 0) (va_t (Co.step 0))⟩
  | succ n ih =>
    have z : EqOk fnOf (Co.step (n + 1)) true 121 := eqStep_ok rfl ok_eqVal ih.2 ih.2
    exact ⟨z, eqCall_ok rfl z (step_w (n + 1)) (va_t (Co.step (n + 1)))⟩
theorem ok_eqProg (n : Nat) : EqOk fnOf (Co.prog n) true 26 := eqProg_ok rfl ok_eqLabelS (ok_eqSteps n).2
theorem ok_law : ∀ (H : Heap) (n : Nat) (v u u2 : Value) (a : TProg n) (ts hs : List Int) (x y : Int), Rd (Co.prog n) true (vw 0 H) v a → SlR Co.int (vw 0 H) u ts → SlR Co.int (vw 0 H) u2 hs → QC fnOf 7 [v, u, u2, .int .i64 x, .int .i64 y] H (.bool true) := lawEPS_ok rfl ok_szProg ok_toProg ok_toIntS ok_eqProg ok_eqIntS ok_sPlanStep.rd ok_iPlanStep.rd
end Go.Proofs.YtbjeldblaclpnaaI
end
section
/- The types of a program, opened. -/
set_option linter.unusedVariables false
set_option linter.unusedSimpArgs false
namespace Go.Proofs.YtbjeldblaclpnaaI
open Go Go.RowKit
theorem good_3 {T : Type} {enc : TypeId × Value → T} {w : World} {spare : Nat → Bool} {held : Bool} {n : Nat} {cs : List Value} {x : DataW T × List MemPlace} (h : DataW.trod enc Try.prog w 0 spare held n 3 cs = some x) : Good Co.int w cs := by
  obtain ⟨m, rfl, _, hw⟩ := DataW.trod_int Try.underlying3 h
  exact Good.int hw
theorem good_128 {T : Type} {enc : TypeId × Value → T} {w : World} {spare : Nat → Bool} {held : Bool} {n : Nat} {cs : List Value} {x : DataW T × List MemPlace} (h : DataW.trod enc Try.prog w 0 spare held n 128 cs = some x) : Good Co.p2 w cs := by
  obtain ⟨xs, n, rfl, rfl, hl, hlen, hf⟩ := DataW.trod_struct Try.underlying128 h
  have hn : Try.prog.cellsOf 128 = 2 := by kernel_rfl
  rw [hn] at hl
  have f0 : DataW.trod enc Try.prog w 0 spare held n 3 ((cs.drop 0).take (Try.prog.cellsOf 3)) = xs[0]? := hf 0 _ rfl
  rw [List.getElem?_eq_getElem (show 0 < xs.length by rw [hlen]; decide), show Try.prog.cellsOf 3 = 1 by kernel_rfl] at f0
  have f1 : DataW.trod enc Try.prog w 0 spare held n 3 ((cs.drop 1).take (Try.prog.cellsOf 3)) = xs[1]? := hf 1 _ rfl
  rw [List.getElem?_eq_getElem (show 1 < xs.length by rw [hlen]; decide), show Try.prog.cellsOf 3 = 1 by kernel_rfl] at f1
  have e : cs = ((cs.drop 0).take 1 ++ ((cs.drop 1).take 1)) := (cut (cs := cs) (o := 0) (s := 1)).trans (congrArg _ (cut_end (by rw [hl])))
  rw [e]
  exact ((good_3 f0).pair (good_3 f1))
theorem good_124 {T : Type} {enc : TypeId × Value → T} {w : World} {spare : Nat → Bool} {held : Bool} {n : Nat} {cs : List Value} {x : DataW T × List MemPlace} (h : DataW.trod enc Try.prog w 0 spare held n 124 cs = some x) : Good Co.val w cs := by
  obtain ⟨xs, n, rfl, rfl, hl, hlen, hf⟩ := DataW.trod_struct Try.underlying124 h
  have hn : Try.prog.cellsOf 124 = 3 := by kernel_rfl
  rw [hn] at hl
  have f0 : DataW.trod enc Try.prog w 0 spare held n 3 ((cs.drop 0).take (Try.prog.cellsOf 3)) = xs[0]? := hf 0 _ rfl
  rw [List.getElem?_eq_getElem (show 0 < xs.length by rw [hlen]; decide), show Try.prog.cellsOf 3 = 1 by kernel_rfl] at f0
  have f1 : DataW.trod enc Try.prog w 0 spare held n 3 ((cs.drop 1).take (Try.prog.cellsOf 3)) = xs[1]? := hf 1 _ rfl
  rw [List.getElem?_eq_getElem (show 1 < xs.length by rw [hlen]; decide), show Try.prog.cellsOf 3 = 1 by kernel_rfl] at f1
  have f2 : DataW.trod enc Try.prog w 0 spare held n 3 ((cs.drop 2).take (Try.prog.cellsOf 3)) = xs[2]? := hf 2 _ rfl
  rw [List.getElem?_eq_getElem (show 2 < xs.length by rw [hlen]; decide), show Try.prog.cellsOf 3 = 1 by kernel_rfl] at f2
  have e : cs = ((cs.drop 0).take 1 ++ (((cs.drop 1).take 1 ++ ((cs.drop 2).take 1)))) := (cut (cs := cs) (o := 0) (s := 1)).trans (congrArg _ ((cut (cs := cs) (o := 1) (s := 1)).trans (congrArg _ (cut_end (by rw [hl])))))
  rw [e]
  exact ((good_3 f0).pair ((good_3 f1).pair (good_3 f2)))
theorem good_27 {T : Type} {enc : TypeId × Value → T} {w : World} {spare : Nat → Bool} {held : Bool} {n : Nat} {cs : List Value} {x : DataW T × List MemPlace} (h : DataW.trod enc Try.prog w 0 spare held n 27 cs = some x) : Good (Co.sl Co.int) w cs :=
  Good.sl Try.underlying27 (by kernel_rfl) (by decide) h fun _ _ _ _ h => good_3 h
theorem good_42 {T : Type} {enc : TypeId × Value → T} {w : World} {spare : Nat → Bool} {held : Bool} {n : Nat} {cs : List Value} {x : DataW T × List MemPlace} (h : DataW.trod enc Try.prog w 0 spare held n 42 cs = some x) : Good (Co.sl Co.p2) w cs :=
  Good.sl Try.underlying42 (by kernel_rfl) (by decide) h fun _ _ _ _ h => good_128 h
theorem stepF0 {T : Type} {enc : TypeId × Value → T} {w : World} {spare : Nat → Bool} {held : Bool} : (∀ (cs : List Value) (x : DataW T × List MemPlace), DataW.trod enc Try.prog w 0 spare held (0) 126 cs = some x → Good (Co.step (dF (0))) w cs) := by
  intro cs x h
  rw [DataW.trod] at h
  cases h
theorem stepF1 {T : Type} {enc : TypeId × Value → T} {w : World} {spare : Nat → Bool} {held : Bool} : (∀ (cs : List Value) (x : DataW T × List MemPlace), DataW.trod enc Try.prog w 0 spare held (1) 126 cs = some x → Good (Co.step (dF (1))) w cs) := by
  intro cs x h
  obtain ⟨xs, n1, hn1, rfl, hl, hlen, hf⟩ := DataW.trod_struct Try.underlying126 h
  have hz : n1 = 0 := by omega
  subst hz
  have f0 : DataW.trod enc Try.prog w 0 spare held 0 3 ((cs.drop 0).take (Try.prog.cellsOf 3)) = xs[0]? := hf 0 _ rfl
  rw [List.getElem?_eq_getElem (show 0 < xs.length by rw [hlen]; decide), DataW.trod] at f0
  cases f0
theorem stepF2 {T : Type} {enc : TypeId × Value → T} {w : World} {spare : Nat → Bool} {held : Bool} {n : Nat} (ih : (∀ (cs : List Value) (x : DataW T × List MemPlace), DataW.trod enc Try.prog w 0 spare held (n) 126 cs = some x → Good (Co.step (dF (n))) w cs)) : (∀ (cs : List Value) (x : DataW T × List MemPlace), DataW.trod enc Try.prog w 0 spare held (n + 2) 126 cs = some x → Good (Co.step (dF (n + 2))) w cs) := by
  intro cs x h
  obtain ⟨xs, n1, hn1, rfl, hl, hlen, hf⟩ := DataW.trod_struct Try.underlying126 h
  have hn1' : n1 = n + 1 := by omega
  have sl43 : ∀ cs y, DataW.trod enc Try.prog w 0 spare held n1 43 cs = some y → Good (Co.sl (Co.step (dF n))) w cs := fun cs y hy =>
    Good.slF Try.underlying43 (by rw [step_w]; kernel_rfl) (by rw [step_w]; omega) hy fun n' cs' x' hn' hx' => by
      have : n' = n := by omega
      subst this
      exact ih cs' x' hx'
  have hn : Try.prog.cellsOf 126 = 8 := by kernel_rfl
  rw [hn] at hl
  have f0 : DataW.trod enc Try.prog w 0 spare held n1 3 ((cs.drop 0).take (Try.prog.cellsOf 3)) = xs[0]? := hf 0 _ rfl
  rw [List.getElem?_eq_getElem (show 0 < xs.length by rw [hlen]; decide), show Try.prog.cellsOf 3 = 1 by kernel_rfl] at f0
  have f1 : DataW.trod enc Try.prog w 0 spare held n1 3 ((cs.drop 1).take (Try.prog.cellsOf 3)) = xs[1]? := hf 1 _ rfl
  rw [List.getElem?_eq_getElem (show 1 < xs.length by rw [hlen]; decide), show Try.prog.cellsOf 3 = 1 by kernel_rfl] at f1
  have f2 : DataW.trod enc Try.prog w 0 spare held n1 124 ((cs.drop 2).take (Try.prog.cellsOf 124)) = xs[2]? := hf 2 _ rfl
  rw [List.getElem?_eq_getElem (show 2 < xs.length by rw [hlen]; decide), show Try.prog.cellsOf 124 = 3 by kernel_rfl] at f2
  have f3 : DataW.trod enc Try.prog w 0 spare held n1 3 ((cs.drop 5).take (Try.prog.cellsOf 3)) = xs[3]? := hf 3 _ rfl
  rw [List.getElem?_eq_getElem (show 3 < xs.length by rw [hlen]; decide), show Try.prog.cellsOf 3 = 1 by kernel_rfl] at f3
  have f4 : DataW.trod enc Try.prog w 0 spare held n1 43 ((cs.drop 6).take (Try.prog.cellsOf 43)) = xs[4]? := hf 4 _ rfl
  rw [List.getElem?_eq_getElem (show 4 < xs.length by rw [hlen]; decide), show Try.prog.cellsOf 43 = 1 by kernel_rfl] at f4
  have f5 : DataW.trod enc Try.prog w 0 spare held n1 43 ((cs.drop 7).take (Try.prog.cellsOf 43)) = xs[5]? := hf 5 _ rfl
  rw [List.getElem?_eq_getElem (show 5 < xs.length by rw [hlen]; decide), show Try.prog.cellsOf 43 = 1 by kernel_rfl] at f5
  have e : cs = ((cs.drop 0).take 1 ++ (((cs.drop 1).take 1 ++ (((cs.drop 2).take 3 ++ (((cs.drop 5).take 1 ++ (((cs.drop 6).take 1 ++ ((cs.drop 7).take 1)))))))))) := (cut (cs := cs) (o := 0) (s := 1)).trans (congrArg _ ((cut (cs := cs) (o := 1) (s := 1)).trans (congrArg _ ((cut (cs := cs) (o := 2) (s := 3)).trans (congrArg _ ((cut (cs := cs) (o := 5) (s := 1)).trans (congrArg _ ((cut (cs := cs) (o := 6) (s := 1)).trans (congrArg _ (cut_end (by rw [hl])))))))))))
  rw [e]
  have e8 : Good (Co.pair Co.int (Co.pair Co.int (Co.pair Co.val (Co.pair Co.int (Co.pair (Co.sl (Co.step (dF n))) (Co.sl (Co.step (dF n)))))))) w _ := ((good_3 f0).pair ((good_3 f1).pair ((good_124 f2).pair ((good_3 f3).pair ((sl43 _ _ f4).pair (sl43 _ _ f5))))))
  exact e8
theorem stepFF {T : Type} {enc : TypeId × Value → T} {w : World} {spare : Nat → Bool} {held : Bool} (n : Nat) : (∀ (cs : List Value) (x : DataW T × List MemPlace), DataW.trod enc Try.prog w 0 spare held (n) 126 cs = some x → Good (Co.step (dF (n))) w cs) ∧ (∀ (cs : List Value) (x : DataW T × List MemPlace), DataW.trod enc Try.prog w 0 spare held (n + 1) 126 cs = some x → Good (Co.step (dF (n + 1))) w cs) := by
  induction n with
  | zero => exact ⟨stepF0, stepF1⟩
  | succ n ih => exact ⟨ih.2, stepF2 ih.1⟩
theorem good_126 {T : Type} {enc : TypeId × Value → T} {w : World} {spare : Nat → Bool} {held : Bool} (n : Nat) {cs : List Value} {x : DataW T × List MemPlace} (h : DataW.trod enc Try.prog w 0 spare held n 126 cs = some x) : Good (Co.step (dF n)) w cs := (stepFF n).1 cs x h
theorem good_45 {T : Type} {enc : TypeId × Value → T} {w : World} {spare : Nat → Bool} {held : Bool} {n : Nat} {cs : List Value} {x : DataW T × List MemPlace} (h : DataW.trod enc Try.prog w 0 spare held n 45 cs = some x) : ∃ d, Good (Co.prog d) w cs := by
  obtain ⟨xs, n1, hn1, rfl, hl, hlen, hf⟩ := DataW.trod_struct Try.underlying45 h
  have hn : Try.prog.cellsOf 45 = 2 := by kernel_rfl
  rw [hn] at hl
  have f0 : DataW.trod enc Try.prog w 0 spare held n1 42 ((cs.drop 0).take (Try.prog.cellsOf 42)) = xs[0]? := hf 0 _ rfl
  rw [List.getElem?_eq_getElem (show 0 < xs.length by rw [hlen]; decide), show Try.prog.cellsOf 42 = 1 by kernel_rfl] at f0
  have f1 : DataW.trod enc Try.prog w 0 spare held n1 43 ((cs.drop 1).take (Try.prog.cellsOf 43)) = xs[1]? := hf 1 _ rfl
  rw [List.getElem?_eq_getElem (show 1 < xs.length by rw [hlen]; decide), show Try.prog.cellsOf 43 = 1 by kernel_rfl] at f1
  have e : cs = ((cs.drop 0).take 1 ++ ((cs.drop 1).take 1)) := (cut (cs := cs) (o := 0) (s := 1)).trans (congrArg _ (cut_end (by rw [hl])))
  refine ⟨dF (n1 - 1), ?_⟩
  rw [e]
  refine (good_42 f0).pair (Good.slF Try.underlying43 (by rw [step_w]; kernel_rfl) (by rw [step_w]; omega) f1 fun n' cs' x' hn' hx' => ?_)
  have : n1 - 1 = n' := by omega
  rw [this]
  exact good_126 n' hx'
theorem len_45 {T : Type} {enc : TypeId × Value → T} {w : World} {spare : Nat → Bool} {held : Bool} {n : Nat} {cs : List Value} {x : DataW T × List MemPlace} (h : DataW.trod enc Try.prog w 0 spare held n 45 cs = some x) : cs.length = 2 := by
  obtain ⟨xs, n, rfl, rfl, hl, hlen, hf⟩ := DataW.trod_struct Try.underlying45 h
  rw [hl]
  kernel_rfl
end Go.Proofs.YtbjeldblaclpnaaI
end
section
/- The law FnExactPlanStep, called in the model. -/
set_option linter.unusedVariables false
set_option linter.unusedSimpArgs false
namespace Go.Proofs.YtbjeldblaclpnaaI
open Go Go.RowKit
theorem lawEP_calls {W : World} {c0 : Array Value} {a : Option Addr} {l c : Nat} {a2 : Option Addr} {l2 c2 : Nat} {x y : Int} (g0 : ∃ d, Good (Co.prog d) W c0.toList) (g1 : Good (Co.sl Co.int) W [.slice a l c]) (g2 : Good (Co.sl Co.int) W [.slice a2 l2 c2]) :
    Calls Try.prog 7 #[.agg c0, .slice a l c, .slice a2 l2 c2, .int .i64 x, .int .i64 y] W fun e w' => e = .returned (.bool true) ∧ Below W.heap.size W w' := by
  obtain ⟨d, g0⟩ := g0
  obtain ⟨p, L, m, cs0, s, q, r, e⟩ := g0 [] (fun _ => none) (SL.none _)
  rw [List.nil_append] at s r
  obtain ⟨ts, L2, m2, cs1, s2, q2, r2, e2⟩ := g1 L m s
  obtain ⟨u, rfl, hu⟩ := r2
  obtain ⟨hs, L3, m3, cs2, s3, q3, r3, e3⟩ := g2 (L ++ L2) m2 s2
  obtain ⟨u2, rfl, hu2⟩ := r3
  exact law_core hF hMixed s3 (vals := [.agg cs0.toArray, u, u2, .int .i64 x, .int .i64 y]) (All2.cons (VR.agg_mk ((e.mono fun _ _ _ h => VR1.mono q2 h).mono fun _ _ _ h => VR1.mono q3 h)) (All2.cons (VR.one_mk (e2.mono fun _ _ _ h => VR1.mono q3 h)) (All2.cons (VR.one_mk e3) (All2.cons VR.int_mk (All2.cons VR.int_mk All2.nil)))))
    (ok_law _ d _ _ _ p ts hs x y ⟨cs0, rfl, (Co.prog d).mono ((vw_app 0 L L2).trans (vw_app 0 (L ++ L2) L3)) r⟩ (hu.mono (vw_app 0 (L ++ L2) L3)) hu2)
end Go.Proofs.YtbjeldblaclpnaaI
end
