/- Texts of this proof, merged: M6, M7. -/
import Derived.Test.YtkmghcglmjehcaaPg4
section
/- Texts of this proof, merged: D6, Q1, Q2, Q3, Q6, Q10. -/
section
/- Programs that are drawn: their labels. -/
set_option linter.unusedVariables false
set_option linter.unusedSimpArgs false
namespace Go.Proofs.YtkmghcglmjehcaaI
open Go Go.RowKit
section
variable {H0 : Heap} {rb : Nat} {bv : Value} {code : List Int} {H : Heap} {b : Nat} {so : Bool} {ls : List (Int × Int)} {bp : Nat} {cells cells' : List Value} {p p' : Int} {Hc Hc' : Heap}
end
end Go.Proofs.YtkmghcglmjehcaaI
end
section
/- The sizes, copies and tests of a program. -/
set_option linter.unusedVariables false
set_option linter.unusedSimpArgs false
namespace Go.Proofs.YtkmghcglmjehcaaI
open Go Go.RowKit
def c_toLabel : IFn := ⟨1, 11, [.cell true 2 2],
 .seq (.reg none [
    ⟨(some 1), none, .box (.t 0)⟩,
    ⟨(some 2), none, .new [(.int .i64 0), (.int .i64 0)]⟩])
 (.seq (.reg none [
    ⟨(some 3), none, .new [(.int .i64 0), (.int .i64 0)]⟩])
 (.seq (.reg none [
    ⟨(some 4), none, .fad 0 (.t 1)⟩,
    ⟨(some 5), none, .load false 1 (.t 4)⟩,
    ⟨(some 6), none, .fad 0 (.t 3)⟩,
    ⟨none, none, .store 1 (.t 6) (.t 5)⟩])
 (.seq (.reg none [
    ⟨(some 7), none, .fad 1 (.t 1)⟩,
    ⟨(some 8), none, .load false 1 (.t 7)⟩,
    ⟨(some 9), none, .fad 1 (.t 3)⟩,
    ⟨none, none, .store 1 (.t 9) (.t 8)⟩])
 (.seq (.reg none [
    ⟨(some 10), none, .load true 2 (.t 3)⟩,
    ⟨none, none, .store 2 (.t 2) (.t 10)⟩])
 (.ret)))))⟩
def c_toVal : IFn := ⟨1, 14, [.cell true 3 2],
 .seq (.reg none [
    ⟨(some 1), none, .box (.t 0)⟩,
    ⟨(some 2), none, .new [(.int .i64 0), (.int .i64 0), (.int .i64 0)]⟩])
 (.seq (.reg none [
    ⟨(some 3), none, .new [(.int .i64 0), (.int .i64 0), (.int .i64 0)]⟩])
 (.seq (.reg none [
    ⟨(some 4), none, .fad 0 (.t 1)⟩,
    ⟨(some 5), none, .load false 1 (.t 4)⟩,
    ⟨(some 6), none, .fad 0 (.t 3)⟩,
    ⟨none, none, .store 1 (.t 6) (.t 5)⟩])
 (.seq (.reg none [
    ⟨(some 7), none, .fad 1 (.t 1)⟩,
    ⟨(some 8), none, .load false 1 (.t 7)⟩,
    ⟨(some 9), none, .fad 1 (.t 3)⟩,
    ⟨none, none, .store 1 (.t 9) (.t 8)⟩])
 (.seq (.reg none [
    ⟨(some 10), none, .fad 2 (.t 1)⟩,
    ⟨(some 11), none, .load false 1 (.t 10)⟩,
    ⟨(some 12), none, .fad 2 (.t 3)⟩,
    ⟨none, none, .store 1 (.t 12) (.t 11)⟩])
 (.seq (.reg none [
    ⟨(some 13), none, .load true 3 (.t 3)⟩,
    ⟨none, none, .store 3 (.t 2) (.t 13)⟩])
 (.ret))))))⟩
def c_toStep : IFn := ⟨1, 26, [.cell true 8 2],
 .seq (.reg none [
    ⟨(some 1), none, .box (.t 0)⟩,
    ⟨(some 2), none, .new [(.int .i64 0), (.int .i64 0), (.int .i64 0), (.int .i64 0), (.int .i64 0), (.int .i64 0), (.slice none 0 0), (.slice none 0 0)]⟩])
 (.seq (.reg none [
    ⟨(some 3), none, .new [(.int .i64 0), (.int .i64 0), (.int .i64 0), (.int .i64 0), (.int .i64 0), (.int .i64 0), (.slice none 0 0), (.slice none 0 0)]⟩])
 (.seq (.reg none [
    ⟨(some 4), none, .fad 0 (.t 1)⟩,
    ⟨(some 5), none, .load false 1 (.t 4)⟩,
    ⟨(some 6), none, .fad 0 (.t 3)⟩,
    ⟨none, none, .store 1 (.t 6) (.t 5)⟩])
 (.seq (.reg none [
    ⟨(some 7), none, .fad 1 (.t 1)⟩,
    ⟨(some 8), none, .load false 1 (.t 7)⟩,
    ⟨(some 9), none, .fad 1 (.t 3)⟩,
    ⟨none, none, .store 1 (.t 9) (.t 8)⟩])
 (.seq (.reg none [
    ⟨(some 10), none, .fad 2 (.t 1)⟩,
    ⟨(some 11), none, .load true 3 (.t 10)⟩,
    ⟨(some 12), none, .call .q (.f 148) [(.t 11)]⟩,
    ⟨(some 13), none, .fad 2 (.t 3)⟩,
    ⟨none, none, .store 3 (.t 13) (.t 12)⟩])
 (.seq (.reg none [
    ⟨(some 14), none, .fad 5 (.t 1)⟩,
    ⟨(some 15), none, .load false 1 (.t 14)⟩,
    ⟨(some 16), none, .fad 5 (.t 3)⟩,
    ⟨none, none, .store 1 (.t 16) (.t 15)⟩])
 (.seq (.reg none [
    ⟨(some 17), none, .fad 6 (.t 1)⟩,
    ⟨(some 18), none, .load false 1 (.t 17)⟩,
    ⟨(some 19), none, .call .k (.f 78) [(.t 18)]⟩,
    ⟨(some 20), none, .fad 6 (.t 3)⟩,
    ⟨none, none, .store 1 (.t 20) (.t 19)⟩])
 (.seq (.reg none [
    ⟨(some 21), none, .fad 7 (.t 1)⟩,
    ⟨(some 22), none, .load false 1 (.t 21)⟩,
    ⟨(some 23), none, .call .k (.f 78) [(.t 22)]⟩,
    ⟨(some 24), none, .fad 7 (.t 3)⟩,
    ⟨none, none, .store 1 (.t 24) (.t 23)⟩])
 (.seq (.reg none [
    ⟨(some 25), none, .load true 8 (.t 3)⟩,
    ⟨none, none, .store 8 (.t 2) (.t 25)⟩])
 (.ret)))))))))⟩
def c_toProg : IFn := ⟨1, 13, [.cell true 2 2],
 .seq (.reg none [
    ⟨(some 1), none, .box (.t 0)⟩,
    ⟨(some 2), none, .new [(.slice none 0 0), (.slice none 0 0)]⟩])
 (.seq (.reg none [
    ⟨(some 3), none, .new [(.slice none 0 0), (.slice none 0 0)]⟩])
 (.seq (.reg none [
    ⟨(some 4), none, .fad 0 (.t 1)⟩,
    ⟨(some 5), none, .load false 1 (.t 4)⟩,
    ⟨(some 6), none, .call .k (.f 77) [(.t 5)]⟩,
    ⟨(some 7), none, .fad 0 (.t 3)⟩,
    ⟨none, none, .store 1 (.t 7) (.t 6)⟩])
 (.seq (.reg none [
    ⟨(some 8), none, .fad 1 (.t 1)⟩,
    ⟨(some 9), none, .load false 1 (.t 8)⟩,
    ⟨(some 10), none, .call .k (.f 78) [(.t 9)]⟩,
    ⟨(some 11), none, .fad 1 (.t 3)⟩,
    ⟨none, none, .store 1 (.t 11) (.t 10)⟩])
 (.seq (.reg none [
    ⟨(some 12), none, .load true 2 (.t 3)⟩,
    ⟨none, none, .store 2 (.t 2) (.t 12)⟩])
 (.ret)))))⟩
def c_eqLabel : IFn := ⟨2, 15, [.t 4],
 .seq (.reg none [
    ⟨(some 2), none, .box (.t 0)⟩,
    ⟨(some 3), none, .box (.t 1)⟩,
    ⟨(some 4), none, .mov (.c (.bool false))⟩])
 (.seq (.seq (.reg none [
     ⟨(some 5), none, .fad 0 (.t 2)⟩,
     ⟨(some 6), none, .load false 1 (.t 5)⟩,
     ⟨(some 7), none, .fad 0 (.t 3)⟩,
     ⟨(some 8), none, .load false 1 (.t 7)⟩,
     ⟨(some 9), none, .bin .neq (.t 6) (.t 8)⟩])
  (.cond (.t 9) (.seq (.reg none [
      ⟨(some 4), none, .mov (.c (.bool false))⟩])
   (.ret)) (.skip)))
 (.seq (.seq (.reg none [
     ⟨(some 10), none, .fad 1 (.t 2)⟩,
     ⟨(some 11), none, .load false 1 (.t 10)⟩,
     ⟨(some 12), none, .fad 1 (.t 3)⟩,
     ⟨(some 13), none, .load false 1 (.t 12)⟩,
     ⟨(some 14), none, .bin .neq (.t 11) (.t 13)⟩])
  (.cond (.t 14) (.seq (.reg none [
      ⟨(some 4), none, .mov (.c (.bool false))⟩])
   (.ret)) (.skip)))
 (.seq (.reg none [
    ⟨(some 4), none, .mov (.c (.bool true))⟩])
 (.ret))))⟩
def c_eqVal : IFn := ⟨2, 20, [.t 4],
 .seq (.reg none [
    ⟨(some 2), none, .box (.t 0)⟩,
    ⟨(some 3), none, .box (.t 1)⟩,
    ⟨(some 4), none, .mov (.c (.bool false))⟩])
 (.seq (.seq (.reg none [
     ⟨(some 5), none, .fad 0 (.t 2)⟩,
     ⟨(some 6), none, .load false 1 (.t 5)⟩,
     ⟨(some 7), none, .fad 0 (.t 3)⟩,
     ⟨(some 8), none, .load false 1 (.t 7)⟩,
     ⟨(some 9), none, .bin .neq (.t 6) (.t 8)⟩])
  (.cond (.t 9) (.seq (.reg none [
      ⟨(some 4), none, .mov (.c (.bool false))⟩])
   (.ret)) (.skip)))
 (.seq (.seq (.reg none [
     ⟨(some 10), none, .fad 1 (.t 2)⟩,
     ⟨(some 11), none, .load false 1 (.t 10)⟩,
     ⟨(some 12), none, .fad 1 (.t 3)⟩,
     ⟨(some 13), none, .load false 1 (.t 12)⟩,
     ⟨(some 14), none, .bin .neq (.t 11) (.t 13)⟩])
  (.cond (.t 14) (.seq (.reg none [
      ⟨(some 4), none, .mov (.c (.bool false))⟩])
   (.ret)) (.skip)))
 (.seq (.seq (.reg none [
     ⟨(some 15), none, .fad 2 (.t 2)⟩,
     ⟨(some 16), none, .load false 1 (.t 15)⟩,
     ⟨(some 17), none, .fad 2 (.t 3)⟩,
     ⟨(some 18), none, .load false 1 (.t 17)⟩,
     ⟨(some 19), none, .bin .neq (.t 16) (.t 18)⟩])
  (.cond (.t 19) (.seq (.reg none [
      ⟨(some 4), none, .mov (.c (.bool false))⟩])
   (.ret)) (.skip)))
 (.seq (.reg none [
    ⟨(some 4), none, .mov (.c (.bool true))⟩])
 (.ret)))))⟩
def c_eqStep : IFn := ⟨2, 38, [.t 4],
 .seq (.reg none [
    ⟨(some 2), none, .box (.t 0)⟩,
    ⟨(some 3), none, .box (.t 1)⟩,
    ⟨(some 4), none, .mov (.c (.bool false))⟩])
 (.seq (.seq (.reg none [
     ⟨(some 5), none, .fad 0 (.t 2)⟩,
     ⟨(some 6), none, .load false 1 (.t 5)⟩,
     ⟨(some 7), none, .fad 0 (.t 3)⟩,
     ⟨(some 8), none, .load false 1 (.t 7)⟩,
     ⟨(some 9), none, .bin .neq (.t 6) (.t 8)⟩])
  (.cond (.t 9) (.seq (.reg none [
      ⟨(some 4), none, .mov (.c (.bool false))⟩])
   (.ret)) (.skip)))
 (.seq (.seq (.reg none [
     ⟨(some 10), none, .fad 1 (.t 2)⟩,
     ⟨(some 11), none, .load false 1 (.t 10)⟩,
     ⟨(some 12), none, .fad 1 (.t 3)⟩,
     ⟨(some 13), none, .load false 1 (.t 12)⟩,
     ⟨(some 14), none, .bin .neq (.t 11) (.t 13)⟩])
  (.cond (.t 14) (.seq (.reg none [
      ⟨(some 4), none, .mov (.c (.bool false))⟩])
   (.ret)) (.skip)))
 (.seq (.seq (.reg none [
     ⟨(some 15), none, .fad 2 (.t 2)⟩,
     ⟨(some 16), none, .load true 3 (.t 15)⟩,
     ⟨(some 17), none, .fad 2 (.t 3)⟩,
     ⟨(some 18), none, .load true 3 (.t 17)⟩,
     ⟨(some 19), none, .call .q (.f 149) [(.t 16), (.t 18)]⟩,
     ⟨(some 20), none, .un .not (.t 19)⟩])
  (.cond (.t 20) (.seq (.reg none [
      ⟨(some 4), none, .mov (.c (.bool false))⟩])
   (.ret)) (.skip)))
 (.seq (.seq (.reg none [
     ⟨(some 21), none, .fad 5 (.t 2)⟩,
     ⟨(some 22), none, .load false 1 (.t 21)⟩,
     ⟨(some 23), none, .fad 5 (.t 3)⟩,
     ⟨(some 24), none, .load false 1 (.t 23)⟩,
     ⟨(some 25), none, .bin .neq (.t 22) (.t 24)⟩])
  (.cond (.t 25) (.seq (.reg none [
      ⟨(some 4), none, .mov (.c (.bool false))⟩])
   (.ret)) (.skip)))
 (.seq (.seq (.reg none [
     ⟨(some 26), none, .fad 6 (.t 2)⟩,
     ⟨(some 27), none, .load false 1 (.t 26)⟩,
     ⟨(some 28), none, .fad 6 (.t 3)⟩,
     ⟨(some 29), none, .load false 1 (.t 28)⟩,
     ⟨(some 30), none, .call .q (.f 80) [(.t 27), (.t 29)]⟩,
     ⟨(some 31), none, .un .not (.t 30)⟩])
  (.cond (.t 31) (.seq (.reg none [
      ⟨(some 4), none, .mov (.c (.bool false))⟩])
   (.ret)) (.skip)))
 (.seq (.seq (.reg none [
     ⟨(some 32), none, .fad 7 (.t 2)⟩,
     ⟨(some 33), none, .load false 1 (.t 32)⟩,
     ⟨(some 34), none, .fad 7 (.t 3)⟩,
     ⟨(some 35), none, .load false 1 (.t 34)⟩,
     ⟨(some 36), none, .call .q (.f 80) [(.t 33), (.t 35)]⟩,
     ⟨(some 37), none, .un .not (.t 36)⟩])
  (.cond (.t 37) (.seq (.reg none [
      ⟨(some 4), none, .mov (.c (.bool false))⟩])
   (.ret)) (.skip)))
 (.seq (.reg none [
    ⟨(some 4), none, .mov (.c (.bool true))⟩])
 (.ret))))))))⟩
def c_eqProg : IFn := ⟨2, 17, [.t 4],
 .seq (.reg none [
    ⟨(some 2), none, .box (.t 0)⟩,
    ⟨(some 3), none, .box (.t 1)⟩,
    ⟨(some 4), none, .mov (.c (.bool false))⟩])
 (.seq (.seq (.reg none [
     ⟨(some 5), none, .fad 0 (.t 2)⟩,
     ⟨(some 6), none, .load false 1 (.t 5)⟩,
     ⟨(some 7), none, .fad 0 (.t 3)⟩,
     ⟨(some 8), none, .load false 1 (.t 7)⟩,
     ⟨(some 9), none, .call .q (.f 79) [(.t 6), (.t 8)]⟩,
     ⟨(some 10), none, .un .not (.t 9)⟩])
  (.cond (.t 10) (.seq (.reg none [
      ⟨(some 4), none, .mov (.c (.bool false))⟩])
   (.ret)) (.skip)))
 (.seq (.seq (.reg none [
     ⟨(some 11), none, .fad 1 (.t 2)⟩,
     ⟨(some 12), none, .load false 1 (.t 11)⟩,
     ⟨(some 13), none, .fad 1 (.t 3)⟩,
     ⟨(some 14), none, .load false 1 (.t 13)⟩,
     ⟨(some 15), none, .call .q (.f 80) [(.t 12), (.t 14)]⟩,
     ⟨(some 16), none, .un .not (.t 15)⟩])
  (.cond (.t 16) (.seq (.reg none [
      ⟨(some 4), none, .mov (.c (.bool false))⟩])
   (.ret)) (.skip)))
 (.seq (.reg none [
    ⟨(some 4), none, .mov (.c (.bool true))⟩])
 (.ret))))⟩
def c_szStep : IFn := ⟨2, 18, [.t 4],
 .seq (.reg none [
    ⟨(some 2), none, .box (.t 0)⟩,
    ⟨(some 4), none, .mov (.c (.int .i64 0))⟩])
 (.seq (.reg none [
    ⟨(some 5), none, .fad 6 (.t 2)⟩,
    ⟨(some 6), none, .load false 1 (.t 5)⟩,
    ⟨(some 7), none, .mov (.t 1)⟩,
    ⟨(some 8), none, .call .q (.f 76) [(.t 6), (.t 7)]⟩,
    ⟨(some 1), none, .mov (.t 8)⟩])
 (.seq (.seq (.reg none [
     ⟨(some 9), none, .mov (.t 1)⟩,
     ⟨(some 10), none, .bin .lss (.t 9) (.c (.int .i64 0))⟩])
  (.cond (.t 10) (.seq (.reg none [
      ⟨(some 4), none, .mov (.c (.int .i64 (-1)))⟩])
   (.ret)) (.skip)))
 (.seq (.reg none [
    ⟨(some 11), none, .fad 7 (.t 2)⟩,
    ⟨(some 12), none, .load false 1 (.t 11)⟩,
    ⟨(some 13), none, .mov (.t 1)⟩,
    ⟨(some 14), none, .call .q (.f 76) [(.t 12), (.t 13)]⟩,
    ⟨(some 1), none, .mov (.t 14)⟩])
 (.seq (.seq (.reg none [
     ⟨(some 15), none, .mov (.t 1)⟩,
     ⟨(some 16), none, .bin .lss (.t 15) (.c (.int .i64 0))⟩])
  (.cond (.t 16) (.seq (.reg none [
      ⟨(some 4), none, .mov (.c (.int .i64 (-1)))⟩])
   (.ret)) (.skip)))
 (.seq (.reg none [
    ⟨(some 17), none, .mov (.t 1)⟩,
    ⟨(some 4), none, .mov (.t 17)⟩])
 (.ret))))))⟩
def c_szProg : IFn := ⟨2, 18, [.t 4],
 .seq (.reg none [
    ⟨(some 2), none, .box (.t 0)⟩,
    ⟨(some 4), none, .mov (.c (.int .i64 0))⟩])
 (.seq (.reg none [
    ⟨(some 5), none, .fad 0 (.t 2)⟩,
    ⟨(some 6), none, .load false 1 (.t 5)⟩,
    ⟨(some 7), none, .mov (.t 1)⟩,
    ⟨(some 8), none, .call .q (.f 75) [(.t 6), (.t 7)]⟩,
    ⟨(some 1), none, .mov (.t 8)⟩])
 (.seq (.seq (.reg none [
     ⟨(some 9), none, .mov (.t 1)⟩,
     ⟨(some 10), none, .bin .lss (.t 9) (.c (.int .i64 0))⟩])
  (.cond (.t 10) (.seq (.reg none [
      ⟨(some 4), none, .mov (.c (.int .i64 (-1)))⟩])
   (.ret)) (.skip)))
 (.seq (.reg none [
    ⟨(some 11), none, .fad 1 (.t 2)⟩,
    ⟨(some 12), none, .load false 1 (.t 11)⟩,
    ⟨(some 13), none, .mov (.t 1)⟩,
    ⟨(some 14), none, .call .q (.f 76) [(.t 12), (.t 13)]⟩,
    ⟨(some 1), none, .mov (.t 14)⟩])
 (.seq (.seq (.reg none [
     ⟨(some 15), none, .mov (.t 1)⟩,
     ⟨(some 16), none, .bin .lss (.t 15) (.c (.int .i64 0))⟩])
  (.cond (.t 16) (.seq (.reg none [
      ⟨(some 4), none, .mov (.c (.int .i64 (-1)))⟩])
   (.ret)) (.skip)))
 (.seq (.reg none [
    ⟨(some 17), none, .mov (.t 1)⟩,
    ⟨(some 4), none, .mov (.t 17)⟩])
 (.ret))))))⟩
theorem eqLabel_ok {F : Nat → Option IFn} {f : Nat} (hf : F f = some c_eqLabel)  : EqOk F Co.p2 true f := by
  rintro H v u ⟨a0, a1⟩ ⟨cs, hc, _, _, rfl, ⟨rfl, b0⟩, ⟨rfl, b1⟩⟩ ⟨cs2, hc2, _, _, rfl, ⟨rfl, bq0⟩, ⟨rfl, bq1⟩⟩
  simp only [go_sem, binC, Option.some.injEq] at hc hc2
  subst hc hc2


  refine QC.mk hf rfl ?_
  refine seq_reg ?_
  simp only [go_sem, binC]
  refine seq_assoc (seq_reg ?_)
  simp only [go_sem, binC, bne_self_eq_false, beq_self_eq_true]
  refine seq_cond (t := false) (by simp only [go_sem, binC]) ?_
  simp only [go_sem, binC]
  refine seq_skip ?_
  refine seq_assoc (seq_reg ?_)
  simp only [go_sem, binC, bne_self_eq_false, beq_self_eq_true]
  refine seq_cond (t := false) (by simp only [go_sem, binC]) ?_
  simp only [go_sem, binC]
  refine seq_skip ?_
  refine seq_reg ?_
  simp only [go_sem, binC]
  refine wpc_ret ⟨Or.inr rfl, _, ?_, rfl, rfl⟩
  simp only [go_sem, binC]
theorem eqVal_ok {F : Nat → Option IFn} {f : Nat} (hf : F f = some c_eqVal)  : EqOk F Co.val true f := by
  rintro H v u ⟨a0, a1, a2⟩ ⟨cs, hc, _, _, rfl, ⟨rfl, b0⟩, _, _, rfl, ⟨rfl, b1⟩, ⟨rfl, b2⟩⟩ ⟨cs2, hc2, _, _, rfl, ⟨rfl, bq0⟩, _, _, rfl, ⟨rfl, bq1⟩, ⟨rfl, bq2⟩⟩
  simp only [go_sem, binC, Option.some.injEq] at hc hc2
  subst hc hc2


  refine QC.mk hf rfl ?_
  refine seq_reg ?_
  simp only [go_sem, binC]
  refine seq_assoc (seq_reg ?_)
  simp only [go_sem, binC, bne_self_eq_false, beq_self_eq_true]
  refine seq_cond (t := false) (by simp only [go_sem, binC]) ?_
  simp only [go_sem, binC]
  refine seq_skip ?_
  refine seq_assoc (seq_reg ?_)
  simp only [go_sem, binC, bne_self_eq_false, beq_self_eq_true]
  refine seq_cond (t := false) (by simp only [go_sem, binC]) ?_
  simp only [go_sem, binC]
  refine seq_skip ?_
  refine seq_assoc (seq_reg ?_)
  simp only [go_sem, binC, bne_self_eq_false, beq_self_eq_true]
  refine seq_cond (t := false) (by simp only [go_sem, binC]) ?_
  simp only [go_sem, binC]
  refine seq_skip ?_
  refine seq_reg ?_
  simp only [go_sem, binC]
  refine wpc_ret ⟨Or.inr rfl, _, ?_, rfl, rfl⟩
  simp only [go_sem, binC]
theorem eqStep_ok {n : Nat} {F : Nat → Option IFn} {f : Nat} (hf : F f = some c_eqStep) (g2 : EqOk F Co.val true 149) (g4 : EqOk F (Co.sl (Co.step n)) false 80) (g5 : EqOk F (Co.sl (Co.step n)) false 80) : EqOk F (Co.step (n + 1)) true f := by
  rintro H v u ⟨a0, a1, ⟨a2, a3, a4⟩, a5, a6, a7⟩ ⟨cs, hc, _, _, rfl, ⟨rfl, b0⟩, _, _, rfl, ⟨rfl, b1⟩, _, _, rfl, ⟨_, _, rfl, ⟨rfl, b2⟩, _, _, rfl, ⟨rfl, b3⟩, ⟨rfl, b4⟩⟩, _, _, rfl, ⟨rfl, b5⟩, _, _, rfl, ⟨v6, rfl, r6⟩, ⟨v7, rfl, r7⟩⟩ ⟨cs2, hc2, _, _, rfl, ⟨rfl, bq0⟩, _, _, rfl, ⟨rfl, bq1⟩, _, _, rfl, ⟨_, _, rfl, ⟨rfl, bq2⟩, _, _, rfl, ⟨rfl, bq3⟩, ⟨rfl, bq4⟩⟩, _, _, rfl, ⟨rfl, bq5⟩, _, _, rfl, ⟨vq6, rfl, rq6⟩, ⟨vq7, rfl, rq7⟩⟩
  simp only [go_sem, binC, Option.some.injEq] at hc hc2
  subst hc hc2
  obtain ⟨_, x6⟩ := r6.shape
  subst x6
  obtain ⟨_, x7⟩ := r7.shape
  subst x7
  obtain ⟨_, xq6⟩ := rq6.shape
  subst xq6
  obtain ⟨_, xq7⟩ := rq7.shape
  subst xq7
  refine QC.mk hf rfl ?_
  refine seq_reg ?_
  simp only [go_sem, binC]
  refine seq_assoc (seq_reg ?_)
  simp only [go_sem, binC, bne_self_eq_false, beq_self_eq_true]
  refine seq_cond (t := false) (by simp only [go_sem, binC]) ?_
  simp only [go_sem, binC]
  refine seq_skip ?_
  refine seq_assoc (seq_reg ?_)
  simp only [go_sem, binC, bne_self_eq_false, beq_self_eq_true]
  refine seq_cond (t := false) (by simp only [go_sem, binC]) ?_
  simp only [go_sem, binC]
  refine seq_skip ?_
  refine seq_assoc (seq_reg ?_)
  simp only [go_sem, binC, bne_self_eq_false, beq_self_eq_true]
  refine op_callQ (g2 _ _ _ ⟨a2, a3, a4⟩ ⟨_, by simp only [go_sem, binC], ⟨_, _, rfl, ⟨rfl, b2⟩, _, _, rfl, ⟨rfl, b3⟩, ⟨rfl, b4⟩⟩⟩ ⟨_, by simp only [go_sem, binC], ⟨_, _, rfl, ⟨rfl, bq2⟩, _, _, rfl, ⟨rfl, bq3⟩, ⟨rfl, bq4⟩⟩⟩) ?_
  simp only [go_sem, binC]
  refine seq_cond (t := false) (by simp only [go_sem, binC]) ?_
  simp only [go_sem, binC]
  refine seq_skip ?_
  refine seq_assoc (seq_reg ?_)
  simp only [go_sem, binC, bne_self_eq_false, beq_self_eq_true]
  refine seq_cond (t := false) (by simp only [go_sem, binC]) ?_
  simp only [go_sem, binC]
  refine seq_skip ?_
  refine seq_assoc (seq_reg ?_)
  simp only [go_sem, binC, bne_self_eq_false, beq_self_eq_true]
  refine op_callQ (g4 _ _ _ a6 ⟨_, by simp only [go_sem, binC], ⟨_, rfl, r6.mono (vw_app 0 H _)⟩⟩ ⟨_, by simp only [go_sem, binC], ⟨_, rfl, rq6.mono (vw_app 0 H _)⟩⟩) ?_
  simp only [go_sem, binC]
  refine seq_cond (t := false) (by simp only [go_sem, binC]) ?_
  simp only [go_sem, binC]
  refine seq_skip ?_
  refine seq_assoc (seq_reg ?_)
  simp only [go_sem, binC, bne_self_eq_false, beq_self_eq_true]
  refine op_callQ (g5 _ _ _ a7 ⟨_, by simp only [go_sem, binC], ⟨_, rfl, r7.mono (vw_app 0 H _)⟩⟩ ⟨_, by simp only [go_sem, binC], ⟨_, rfl, rq7.mono (vw_app 0 H _)⟩⟩) ?_
  simp only [go_sem, binC]
  refine seq_cond (t := false) (by simp only [go_sem, binC]) ?_
  simp only [go_sem, binC]
  refine seq_skip ?_
  refine seq_reg ?_
  simp only [go_sem, binC]
  refine wpc_ret ⟨Or.inr rfl, _, ?_, rfl, rfl⟩
  simp only [go_sem, binC]
theorem eqProg_ok {n : Nat} {F : Nat → Option IFn} {f : Nat} (hf : F f = some c_eqProg) (g0 : EqOk F (Co.sl Co.p2) false 79) (g1 : EqOk F (Co.sl (Co.step n)) false 80) : EqOk F (Co.prog n) true f := by
  rintro H v u ⟨a0, a1⟩ ⟨cs, hc, _, _, rfl, ⟨v0, rfl, r0⟩, ⟨v1, rfl, r1⟩⟩ ⟨cs2, hc2, _, _, rfl, ⟨vq0, rfl, rq0⟩, ⟨vq1, rfl, rq1⟩⟩
  simp only [go_sem, binC, Option.some.injEq] at hc hc2
  subst hc hc2
  obtain ⟨_, x0⟩ := r0.shape
  subst x0
  obtain ⟨_, x1⟩ := r1.shape
  subst x1
  obtain ⟨_, xq0⟩ := rq0.shape
  subst xq0
  obtain ⟨_, xq1⟩ := rq1.shape
  subst xq1
  refine QC.mk hf rfl ?_
  refine seq_reg ?_
  simp only [go_sem, binC]
  refine seq_assoc (seq_reg ?_)
  simp only [go_sem, binC, bne_self_eq_false, beq_self_eq_true]
  refine op_callQ (g0 _ _ _ a0 ⟨_, by simp only [go_sem, binC], ⟨_, rfl, r0.mono (vw_app 0 H _)⟩⟩ ⟨_, by simp only [go_sem, binC], ⟨_, rfl, rq0.mono (vw_app 0 H _)⟩⟩) ?_
  simp only [go_sem, binC]
  refine seq_cond (t := false) (by simp only [go_sem, binC]) ?_
  simp only [go_sem, binC]
  refine seq_skip ?_
  refine seq_assoc (seq_reg ?_)
  simp only [go_sem, binC, bne_self_eq_false, beq_self_eq_true]
  refine op_callQ (g1 _ _ _ a1 ⟨_, by simp only [go_sem, binC], ⟨_, rfl, r1.mono (vw_app 0 H _)⟩⟩ ⟨_, by simp only [go_sem, binC], ⟨_, rfl, rq1.mono (vw_app 0 H _)⟩⟩) ?_
  simp only [go_sem, binC]
  refine seq_cond (t := false) (by simp only [go_sem, binC]) ?_
  simp only [go_sem, binC]
  refine seq_skip ?_
  refine seq_reg ?_
  simp only [go_sem, binC]
  refine wpc_ret ⟨Or.inr rfl, _, ?_, rfl, rfl⟩
  simp only [go_sem, binC]
end Go.Proofs.YtkmghcglmjehcaaI
end
section
/- The small functions of labels, trust and values. -/
set_option linter.unusedVariables false
set_option linter.unusedSimpArgs false
namespace Go.Proofs.YtkmghcglmjehcaaI
open Go Go.RowKit
attribute [local irreducible] optP wpo wpp wpc binI Kc Kp wpOp thenX
def c_iIn : IFn := ⟨3, 15, [.t 6],
 .seq (.reg none [
    ⟨(some 6), none, .mov (.c (.bool false))⟩])
 (.seq (.reg none [
    ⟨(some 7), none, .mov (.t 1)⟩,
    ⟨(some 8), none, .mov (.t 0)⟩,
    ⟨(some 9), none, .bin .leq (.t 7) (.t 8)⟩,
    ⟨(some 10), none, .mov (.t 9)⟩,
    ⟨(some 11), (some (10, true)), .mov (.t 0)⟩,
    ⟨(some 12), (some (10, true)), .mov (.t 2)⟩,
    ⟨(some 13), (some (10, true)), .bin .leq (.t 11) (.t 12)⟩,
    ⟨(some 14), none, .pick (.t 10) (.t 13) (.c (.bool false))⟩,
    ⟨(some 6), none, .mov (.t 14)⟩])
 (.ret))⟩
def c_sIn : IFn := ⟨3, 15, [.t 6],
 .seq (.reg none [
    ⟨(some 6), none, .mov (.c (.bool false))⟩])
 (.seq (.reg none [
    ⟨(some 7), none, .mov (.t 0)⟩,
    ⟨(some 8), none, .mov (.t 1)⟩,
    ⟨(some 9), none, .bin .geq (.t 7) (.t 8)⟩,
    ⟨(some 10), none, .mov (.t 9)⟩,
    ⟨(some 11), (some (10, true)), .mov (.t 0)⟩,
    ⟨(some 12), (some (10, true)), .mov (.t 2)⟩,
    ⟨(some 13), (some (10, true)), .bin .leq (.t 11) (.t 12)⟩,
    ⟨(some 14), none, .pick (.t 10) (.t 13) (.c (.bool false))⟩,
    ⟨(some 6), none, .mov (.t 14)⟩])
 (.ret))⟩
def c_iSet : IFn := ⟨1, 5, [.t 2],
 .seq (.reg none [
    ⟨(some 2), none, .mov (.c (.bool false))⟩])
 (.seq (.reg none [
    ⟨(some 3), none, .mov (.t 0)⟩,
    ⟨(some 4), none, .call .q (.f 136) [(.t 3), (.c (.int .i64 0)), (.c (.int .i64 7))]⟩,
    ⟨(some 2), none, .mov (.t 4)⟩])
 (.ret))⟩
def c_sSet : IFn := ⟨1, 6, [.t 2],
 .seq (.reg none [
    ⟨(some 2), none, .mov (.c (.bool false))⟩])
 (.seq (.reg none [
    ⟨(some 3), none, .mov (.t 0)⟩,
    ⟨(some 4), none, .call .q (.f 102) []⟩,
    ⟨(some 5), none, .call .q (.f 86) [(.t 3), (.c (.int .i64 0)), (.t 4)]⟩,
    ⟨(some 2), none, .mov (.t 5)⟩])
 (.ret))⟩
def c_sAll : IFn := ⟨0, 1, [.t 0],
 .seq (.reg none [
    ⟨(some 0), none, .mov (.c (.int .i64 0))⟩])
 (.seq (.reg none [
    ⟨(some 0), none, .mov (.c (.int .i64 7))⟩])
 (.ret))⟩
def c_iHost : IFn := ⟨1, 5, [.t 2],
 .seq (.reg none [
    ⟨(some 2), none, .mov (.c (.bool false))⟩])
 (.seq (.reg none [
    ⟨(some 3), none, .mov (.t 0)⟩,
    ⟨(some 4), none, .call .q (.f 136) [(.t 3), (.c (.int .i64 0)), (.c (.int .i64 2))]⟩,
    ⟨(some 2), none, .mov (.t 4)⟩])
 (.ret))⟩
def c_iNum : IFn := ⟨1, 5, [.t 2],
 .seq (.reg none [
    ⟨(some 2), none, .mov (.c (.bool false))⟩])
 (.seq (.reg none [
    ⟨(some 3), none, .mov (.t 0)⟩,
    ⟨(some 4), none, .call .q (.f 136) [(.t 3), (.c (.int .i64 0)), (.c (.int .i64 9))]⟩,
    ⟨(some 2), none, .mov (.t 4)⟩])
 (.ret))⟩
def c_iLabelOk : IFn := ⟨1, 11, [.t 2],
 .seq (.reg none [
    ⟨(some 1), none, .box (.t 0)⟩,
    ⟨(some 2), none, .mov (.c (.bool false))⟩])
 (.seq (.reg none [
    ⟨(some 3), none, .fad 0 (.t 1)⟩,
    ⟨(some 4), none, .load false 1 (.t 3)⟩,
    ⟨(some 5), none, .call .q (.f 116) [(.t 4)]⟩,
    ⟨(some 6), none, .mov (.t 5)⟩,
    ⟨(some 7), (some (6, true)), .fad 1 (.t 1)⟩,
    ⟨(some 8), (some (6, true)), .load false 1 (.t 7)⟩,
    ⟨(some 9), (some (6, true)), .call .q (.f 116) [(.t 8)]⟩,
    ⟨(some 10), none, .pick (.t 6) (.t 9) (.c (.bool false))⟩,
    ⟨(some 2), none, .mov (.t 10)⟩])
 (.ret))⟩
def c_sLabelOk : IFn := ⟨1, 11, [.t 2],
 .seq (.reg none [
    ⟨(some 1), none, .box (.t 0)⟩,
    ⟨(some 2), none, .mov (.c (.bool false))⟩])
 (.seq (.reg none [
    ⟨(some 3), none, .fad 0 (.t 1)⟩,
    ⟨(some 4), none, .load false 1 (.t 3)⟩,
    ⟨(some 5), none, .call .q (.f 68) [(.t 4)]⟩,
    ⟨(some 6), none, .mov (.t 5)⟩,
    ⟨(some 7), (some (6, true)), .fad 1 (.t 1)⟩,
    ⟨(some 8), (some (6, true)), .load false 1 (.t 7)⟩,
    ⟨(some 9), (some (6, true)), .call .q (.f 68) [(.t 8)]⟩,
    ⟨(some 10), none, .pick (.t 6) (.t 9) (.c (.bool false))⟩,
    ⟨(some 2), none, .mov (.t 10)⟩])
 (.ret))⟩
def c_iVar : IFn := ⟨2, 11, [.t 4],
 .seq (.reg none [
    ⟨(some 2), none, .box (.t 0)⟩,
    ⟨(some 4), none, .mov (.c (.bool false))⟩])
 (.seq (.reg none [
    ⟨(some 5), none, .mov (.t 1)⟩,
    ⟨(some 6), none, .fad 0 (.t 2)⟩,
    ⟨(some 7), none, .load false 1 (.t 6)⟩,
    ⟨(some 8), none, .len (.t 7)⟩,
    ⟨(some 9), none, .bin .sub (.t 8) (.c (.int .i64 1))⟩,
    ⟨(some 10), none, .call .q (.f 136) [(.t 5), (.c (.int .i64 0)), (.t 9)]⟩,
    ⟨(some 4), none, .mov (.t 10)⟩])
 (.ret))⟩
def c_sVar : IFn := ⟨2, 11, [.t 4],
 .seq (.reg none [
    ⟨(some 2), none, .box (.t 0)⟩,
    ⟨(some 4), none, .mov (.c (.bool false))⟩])
 (.seq (.reg none [
    ⟨(some 5), none, .mov (.t 1)⟩,
    ⟨(some 6), none, .fad 0 (.t 2)⟩,
    ⟨(some 7), none, .load false 1 (.t 6)⟩,
    ⟨(some 8), none, .len (.t 7)⟩,
    ⟨(some 9), none, .bin .sub (.t 8) (.c (.int .i64 1))⟩,
    ⟨(some 10), none, .call .q (.f 86) [(.t 5), (.c (.int .i64 0)), (.t 9)]⟩,
    ⟨(some 4), none, .mov (.t 10)⟩])
 (.ret))⟩
def c_iVal : IFn := ⟨2, 48, [.t 4],
 .seq (.reg none [
    ⟨(some 2), none, .box (.t 0)⟩,
    ⟨(some 3), none, .box (.t 1)⟩,
    ⟨(some 4), none, .mov (.c (.bool false))⟩])
 (.seq (.seq (.reg none [
     ⟨(some 5), none, .fad 0 (.t 3)⟩,
     ⟨(some 6), none, .load false 1 (.t 5)⟩])
  (.block 0 (.seq (.reg none [
      ⟨(some 8), none, .bin .eql (.t 6) (.c (.int .i64 1))⟩,
      ⟨(some 7), none, .mov (.t 8)⟩])
   (.cond (.t 7) (.seq (.reg none [
       ⟨(some 9), none, .fad 1 (.t 3)⟩,
       ⟨(some 10), none, .load false 1 (.t 9)⟩,
       ⟨(some 11), none, .call .q (.f 119) [(.t 10)]⟩,
       ⟨(some 12), none, .mov (.t 11)⟩,
       ⟨(some 13), (some (12, true)), .fad 2 (.t 3)⟩,
       ⟨(some 14), (some (12, true)), .load false 1 (.t 13)⟩,
       ⟨(some 15), (some (12, true)), .bin .eql (.t 14) (.c (.int .i64 0))⟩,
       ⟨(some 16), none, .pick (.t 12) (.t 15) (.c (.bool false))⟩,
       ⟨(some 4), none, .mov (.t 16)⟩])
    (.ret)) (.seq (.reg none [
       ⟨(some 18), none, .bin .eql (.t 6) (.c (.int .i64 2))⟩,
       ⟨(some 17), none, .mov (.t 18)⟩])
    (.cond (.t 17) (.seq (.reg none [
        ⟨(some 19), none, .load true 2 (.t 2)⟩,
        ⟨(some 20), none, .fad 1 (.t 3)⟩,
        ⟨(some 21), none, .load false 1 (.t 20)⟩,
        ⟨(some 22), none, .call .q (.f 143) [(.t 19), (.t 21)]⟩,
        ⟨(some 23), none, .mov (.t 22)⟩,
        ⟨(some 24), (some (23, true)), .fad 2 (.t 3)⟩,
        ⟨(some 25), (some (23, true)), .load false 1 (.t 24)⟩,
        ⟨(some 26), (some (23, true)), .bin .eql (.t 25) (.c (.int .i64 0))⟩,
        ⟨(some 27), none, .pick (.t 23) (.t 26) (.c (.bool false))⟩,
        ⟨(some 4), none, .mov (.t 27)⟩])
     (.ret)) (.skip)))))))
 (.seq (.reg none [
    ⟨(some 28), none, .fad 0 (.t 3)⟩,
    ⟨(some 29), none, .load false 1 (.t 28)⟩,
    ⟨(some 30), none, .bin .eql (.t 29) (.c (.int .i64 3))⟩,
    ⟨(some 31), none, .mov (.t 30)⟩,
    ⟨(some 32), (some (31, false)), .fad 0 (.t 3)⟩,
    ⟨(some 33), (some (31, false)), .load false 1 (.t 32)⟩,
    ⟨(some 34), (some (31, false)), .bin .eql (.t 33) (.c (.int .i64 4))⟩,
    ⟨(some 35), none, .pick (.t 31) (.c (.bool true)) (.t 34)⟩,
    ⟨(some 36), none, .mov (.t 35)⟩,
    ⟨(some 37), (some (36, true)), .load true 2 (.t 2)⟩,
    ⟨(some 38), (some (36, true)), .fad 1 (.t 3)⟩,
    ⟨(some 39), (some (36, true)), .load false 1 (.t 38)⟩,
    ⟨(some 40), (some (36, true)), .call .q (.f 143) [(.t 37), (.t 39)]⟩,
    ⟨(some 41), none, .pick (.t 36) (.t 40) (.c (.bool false))⟩,
    ⟨(some 42), none, .mov (.t 41)⟩,
    ⟨(some 43), (some (42, true)), .load true 2 (.t 2)⟩,
    ⟨(some 44), (some (42, true)), .fad 2 (.t 3)⟩,
    ⟨(some 45), (some (42, true)), .load false 1 (.t 44)⟩,
    ⟨(some 46), (some (42, true)), .call .q (.f 143) [(.t 43), (.t 45)]⟩,
    ⟨(some 47), none, .pick (.t 42) (.t 46) (.c (.bool false))⟩,
    ⟨(some 4), none, .mov (.t 47)⟩])
 (.ret)))⟩
def c_sVal : IFn := ⟨2, 41, [.t 4],
 .seq (.reg none [
    ⟨(some 2), none, .box (.t 0)⟩,
    ⟨(some 3), none, .box (.t 1)⟩,
    ⟨(some 4), none, .mov (.c (.bool false))⟩])
 (.seq (.seq (.reg none [
     ⟨(some 5), none, .fad 0 (.t 3)⟩,
     ⟨(some 6), none, .load false 1 (.t 5)⟩])
  (.block 0 (.seq (.reg none [
      ⟨(some 8), none, .bin .eql (.t 6) (.c (.int .i64 1))⟩,
      ⟨(some 7), none, .mov (.t 8)⟩])
   (.cond (.t 7) (.seq (.reg none [
       ⟨(some 9), none, .fad 1 (.t 3)⟩,
       ⟨(some 10), none, .load false 1 (.t 9)⟩,
       ⟨(some 11), none, .call .q (.f 86) [(.t 10), (.c (.int .i64 0)), (.c (.int .i64 9))]⟩,
       ⟨(some 12), none, .mov (.t 11)⟩,
       ⟨(some 13), (some (12, true)), .fad 2 (.t 3)⟩,
       ⟨(some 14), (some (12, true)), .load false 1 (.t 13)⟩,
       ⟨(some 15), (some (12, true)), .bin .eql (.t 14) (.c (.int .i64 0))⟩,
       ⟨(some 16), none, .pick (.t 12) (.t 15) (.c (.bool false))⟩,
       ⟨(some 4), none, .mov (.t 16)⟩])
    (.ret)) (.seq (.reg none [
       ⟨(some 18), none, .bin .eql (.t 6) (.c (.int .i64 2))⟩,
       ⟨(some 17), none, .mov (.t 18)⟩])
    (.cond (.t 17) (.seq (.reg none [
        ⟨(some 19), none, .load true 2 (.t 2)⟩,
        ⟨(some 20), none, .fad 1 (.t 3)⟩,
        ⟨(some 21), none, .load false 1 (.t 20)⟩,
        ⟨(some 22), none, .call .q (.f 145) [(.t 19), (.t 21)]⟩,
        ⟨(some 23), none, .mov (.t 22)⟩,
        ⟨(some 24), (some (23, true)), .fad 2 (.t 3)⟩,
        ⟨(some 25), (some (23, true)), .load false 1 (.t 24)⟩,
        ⟨(some 26), (some (23, true)), .bin .eql (.t 25) (.c (.int .i64 0))⟩,
        ⟨(some 27), none, .pick (.t 23) (.t 26) (.c (.bool false))⟩,
        ⟨(some 4), none, .mov (.t 27)⟩])
     (.ret)) (.seq (.seq (.reg none [
         ⟨(some 29), none, .bin .eql (.t 6) (.c (.int .i64 3))⟩,
         ⟨(some 28), none, .mov (.t 29)⟩])
      (.cond (.t 28) (.skip) (.reg none [
         ⟨(some 30), none, .bin .eql (.t 6) (.c (.int .i64 4))⟩,
         ⟨(some 28), none, .mov (.t 30)⟩])))
     (.cond (.t 28) (.seq (.reg none [
         ⟨(some 31), none, .load true 2 (.t 2)⟩,
         ⟨(some 32), none, .fad 1 (.t 3)⟩,
         ⟨(some 33), none, .load false 1 (.t 32)⟩,
         ⟨(some 34), none, .call .q (.f 145) [(.t 31), (.t 33)]⟩,
         ⟨(some 35), none, .mov (.t 34)⟩,
         ⟨(some 36), (some (35, true)), .load true 2 (.t 2)⟩,
         ⟨(some 37), (some (35, true)), .fad 2 (.t 3)⟩,
         ⟨(some 38), (some (35, true)), .load false 1 (.t 37)⟩,
         ⟨(some 39), (some (35, true)), .call .q (.f 145) [(.t 36), (.t 38)]⟩,
         ⟨(some 40), none, .pick (.t 35) (.t 39) (.c (.bool false))⟩,
         ⟨(some 4), none, .mov (.t 40)⟩])
      (.ret)) (.skip)))))))))
 (.seq (.reg none [
    ⟨(some 4), none, .mov (.c (.bool false))⟩])
 (.ret)))⟩
def c_iHas : IFn := ⟨2, 14, [.t 4],
 .seq (.reg none [
    ⟨(some 4), none, .mov (.c (.bool false))⟩])
 (.seq (.reg none [
    ⟨(some 5), none, .mov (.t 1)⟩,
    ⟨(some 6), none, .call .q (.f 89) [(.t 5)]⟩,
    ⟨(some 7), none, .mov (.t 6)⟩,
    ⟨(some 8), (some (7, true)), .mov (.t 0)⟩,
    ⟨(some 9), (some (7, true)), .mov (.t 1)⟩,
    ⟨(some 10), (some (7, true)), .bin .shr (.t 8) (.t 9)⟩,
    ⟨(some 11), (some (7, true)), .bin .and (.t 10) (.c (.int .i64 1))⟩,
    ⟨(some 12), (some (7, true)), .bin .eql (.t 11) (.c (.int .i64 1))⟩,
    ⟨(some 13), none, .pick (.t 7) (.t 12) (.c (.bool false))⟩,
    ⟨(some 4), none, .mov (.t 13)⟩])
 (.ret))⟩
def c_sHas : IFn := ⟨2, 18, [.t 4],
 .seq (.reg none [
    ⟨(some 4), none, .mov (.c (.bool false))⟩])
 (.seq (.reg none [
    ⟨(some 5), none, .mov (.t 1)⟩,
    ⟨(some 6), none, .bin .geq (.t 5) (.c (.int .i64 0))⟩,
    ⟨(some 7), none, .mov (.t 6)⟩,
    ⟨(some 8), (some (7, true)), .mov (.t 1)⟩,
    ⟨(some 9), (some (7, true)), .bin .lss (.t 8) (.c (.int .i64 3))⟩,
    ⟨(some 10), none, .pick (.t 7) (.t 9) (.c (.bool false))⟩,
    ⟨(some 11), none, .mov (.t 10)⟩,
    ⟨(some 12), (some (11, true)), .mov (.t 0)⟩,
    ⟨(some 13), (some (11, true)), .mov (.t 1)⟩,
    ⟨(some 14), (some (11, true)), .bin .shr (.t 12) (.t 13)⟩,
    ⟨(some 15), (some (11, true)), .bin .rem (.t 14) (.c (.int .i64 2))⟩,
    ⟨(some 16), (some (11, true)), .bin .eql (.t 15) (.c (.int .i64 1))⟩,
    ⟨(some 17), none, .pick (.t 11) (.t 16) (.c (.bool false))⟩,
    ⟨(some 4), none, .mov (.t 17)⟩])
 (.ret))⟩
def inB (a l h : Int) : Bool := decide (l ≤ a) && decide (a ≤ h)
theorem iIn_ok {F : Nat → Option IFn} {f : Nat} (hf : F f = some c_iIn)  : ∀ (H : Heap) (a b c : Int), QC F f [.int .i64 a, .int .i64 b, .int .i64 c] H (.bool (inB a b c)) := by
  intro H a b c
  refine QC.mk hf rfl ?_
  repeat' (first
    | refine seq_assoc ?_
    | refine seq_reg ?_
    | refine seq_skip ?_
    | refine seq_regD ?_
    | refine seq_cond (t := true) rfl ?_
    | refine seq_cond (t := false) rfl ?_
    | refine wpc_cond (t := true) rfl ?_
    | refine wpc_cond (t := false) rfl ?_
    | refine seq_block ?_
    | refine wpc_block ?_
    | refine seq_ret ?_
    | refine wpc_ret ?_
    | refine wpc_reg ?_
    | refine wpc_regD ?_
    | refine wpc_skip ?_
    | refine fin_t rfl ?_
    | refine seq_exit ?_
    | refine wpc_exit ?_
    | refine cmp_lss (fun _ => ?_) (fun _ => ?_)
    | refine cmp_leq (fun _ => ?_) (fun _ => ?_)
    | refine cmp_gtr (fun _ => ?_) (fun _ => ?_)
    | refine cmp_geq (fun _ => ?_) (fun _ => ?_)
    | refine cmp_eql (fun _ => ?_) (fun _ => ?_)
    | refine cmp_neq (fun _ => ?_) (fun _ => ?_)
    | simp only [go_sem, out_n, out_r, out_e, thenX_n, thenX_r, thenX_e]
    )
  all_goals (refine ⟨?_, rfl⟩; simp [inB, *])
theorem sIn_ok {F : Nat → Option IFn} {f : Nat} (hf : F f = some c_sIn)  : ∀ (H : Heap) (a b c : Int), QC F f [.int .i64 a, .int .i64 b, .int .i64 c] H (.bool (inB a b c)) := by
  intro H a b c
  refine QC.mk hf rfl ?_
  repeat' (first
    | refine seq_assoc ?_
    | refine seq_reg ?_
    | refine seq_skip ?_
    | refine seq_regD ?_
    | refine seq_cond (t := true) rfl ?_
    | refine seq_cond (t := false) rfl ?_
    | refine wpc_cond (t := true) rfl ?_
    | refine wpc_cond (t := false) rfl ?_
    | refine seq_block ?_
    | refine wpc_block ?_
    | refine seq_ret ?_
    | refine wpc_ret ?_
    | refine wpc_reg ?_
    | refine wpc_regD ?_
    | refine wpc_skip ?_
    | refine fin_t rfl ?_
    | refine seq_exit ?_
    | refine wpc_exit ?_
    | refine cmp_lss (fun _ => ?_) (fun _ => ?_)
    | refine cmp_leq (fun _ => ?_) (fun _ => ?_)
    | refine cmp_gtr (fun _ => ?_) (fun _ => ?_)
    | refine cmp_geq (fun _ => ?_) (fun _ => ?_)
    | refine cmp_eql (fun _ => ?_) (fun _ => ?_)
    | refine cmp_neq (fun _ => ?_) (fun _ => ?_)
    | simp only [go_sem, out_n, out_r, out_e, thenX_n, thenX_r, thenX_e]
    )
  all_goals (refine ⟨?_, rfl⟩; simp [inB, *])
theorem iSet_ok {F : Nat → Option IFn} {f : Nat} (hf : F f = some c_iSet) (g0 : ∀ (H : Heap) (a b c : Int), QC F 136 [.int .i64 a, .int .i64 b, .int .i64 c] H (.bool (inB a b c))) : ∀ (H : Heap) (a : Int), QC F f [.int .i64 a] H (.bool (inB a 0 7)) := by
  intro H a
  refine QC.mk hf rfl ?_
  repeat' (first
    | refine seq_assoc ?_
    | refine seq_reg ?_
    | refine seq_skip ?_
    | refine seq_regD ?_
    | refine seq_cond (t := true) rfl ?_
    | refine seq_cond (t := false) rfl ?_
    | refine wpc_cond (t := true) rfl ?_
    | refine wpc_cond (t := false) rfl ?_
    | refine seq_block ?_
    | refine wpc_block ?_
    | refine seq_ret ?_
    | refine wpc_ret ?_
    | refine wpc_reg ?_
    | refine wpc_regD ?_
    | refine wpc_skip ?_
    | refine fin_t rfl ?_
    | refine seq_exit ?_
    | refine wpc_exit ?_
    | refine cmp_lss (fun _ => ?_) (fun _ => ?_)
    | refine cmp_leq (fun _ => ?_) (fun _ => ?_)
    | refine cmp_gtr (fun _ => ?_) (fun _ => ?_)
    | refine cmp_geq (fun _ => ?_) (fun _ => ?_)
    | refine cmp_eql (fun _ => ?_) (fun _ => ?_)
    | refine cmp_neq (fun _ => ?_) (fun _ => ?_)
    | (refine op_callB (by simp only [go_sem, out_n, out_r, out_e, thenX_n, thenX_r, thenX_e]; exact g0 _ _ _ _) (fun _ => ?_) (fun _ => ?_))
    | simp only [go_sem, out_n, out_r, out_e, thenX_n, thenX_r, thenX_e]
    )
  all_goals (refine ⟨?_, rfl⟩; simp [*])
theorem iHost_ok {F : Nat → Option IFn} {f : Nat} (hf : F f = some c_iHost) (g0 : ∀ (H : Heap) (a b c : Int), QC F 136 [.int .i64 a, .int .i64 b, .int .i64 c] H (.bool (inB a b c))) : ∀ (H : Heap) (a : Int), QC F f [.int .i64 a] H (.bool (inB a 0 2)) := by
  intro H a
  refine QC.mk hf rfl ?_
  repeat' (first
    | refine seq_assoc ?_
    | refine seq_reg ?_
    | refine seq_skip ?_
    | refine seq_regD ?_
    | refine seq_cond (t := true) rfl ?_
    | refine seq_cond (t := false) rfl ?_
    | refine wpc_cond (t := true) rfl ?_
    | refine wpc_cond (t := false) rfl ?_
    | refine seq_block ?_
    | refine wpc_block ?_
    | refine seq_ret ?_
    | refine wpc_ret ?_
    | refine wpc_reg ?_
    | refine wpc_regD ?_
    | refine wpc_skip ?_
    | refine fin_t rfl ?_
    | refine seq_exit ?_
    | refine wpc_exit ?_
    | refine cmp_lss (fun _ => ?_) (fun _ => ?_)
    | refine cmp_leq (fun _ => ?_) (fun _ => ?_)
    | refine cmp_gtr (fun _ => ?_) (fun _ => ?_)
    | refine cmp_geq (fun _ => ?_) (fun _ => ?_)
    | refine cmp_eql (fun _ => ?_) (fun _ => ?_)
    | refine cmp_neq (fun _ => ?_) (fun _ => ?_)
    | (refine op_callB (by simp only [go_sem, out_n, out_r, out_e, thenX_n, thenX_r, thenX_e]; exact g0 _ _ _ _) (fun _ => ?_) (fun _ => ?_))
    | simp only [go_sem, out_n, out_r, out_e, thenX_n, thenX_r, thenX_e]
    )
  all_goals (refine ⟨?_, rfl⟩; simp [*])
theorem iNum_ok {F : Nat → Option IFn} {f : Nat} (hf : F f = some c_iNum) (g0 : ∀ (H : Heap) (a b c : Int), QC F 136 [.int .i64 a, .int .i64 b, .int .i64 c] H (.bool (inB a b c))) : ∀ (H : Heap) (a : Int), QC F f [.int .i64 a] H (.bool (inB a 0 9)) := by
  intro H a
  refine QC.mk hf rfl ?_
  repeat' (first
    | refine seq_assoc ?_
    | refine seq_reg ?_
    | refine seq_skip ?_
    | refine seq_regD ?_
    | refine seq_cond (t := true) rfl ?_
    | refine seq_cond (t := false) rfl ?_
    | refine wpc_cond (t := true) rfl ?_
    | refine wpc_cond (t := false) rfl ?_
    | refine seq_block ?_
    | refine wpc_block ?_
    | refine seq_ret ?_
    | refine wpc_ret ?_
    | refine wpc_reg ?_
    | refine wpc_regD ?_
    | refine wpc_skip ?_
    | refine fin_t rfl ?_
    | refine seq_exit ?_
    | refine wpc_exit ?_
    | refine cmp_lss (fun _ => ?_) (fun _ => ?_)
    | refine cmp_leq (fun _ => ?_) (fun _ => ?_)
    | refine cmp_gtr (fun _ => ?_) (fun _ => ?_)
    | refine cmp_geq (fun _ => ?_) (fun _ => ?_)
    | refine cmp_eql (fun _ => ?_) (fun _ => ?_)
    | refine cmp_neq (fun _ => ?_) (fun _ => ?_)
    | (refine op_callB (by simp only [go_sem, out_n, out_r, out_e, thenX_n, thenX_r, thenX_e]; exact g0 _ _ _ _) (fun _ => ?_) (fun _ => ?_))
    | simp only [go_sem, out_n, out_r, out_e, thenX_n, thenX_r, thenX_e]
    )
  all_goals (refine ⟨?_, rfl⟩; simp [*])
theorem sAll_ok {F : Nat → Option IFn} {f : Nat} (hf : F f = some c_sAll)  : ∀ (H : Heap) , QC F f [] H (.int .i64 (7)) := by
  intro H
  refine QC.mk hf rfl ?_
  repeat' (first
    | refine seq_assoc ?_
    | refine seq_reg ?_
    | refine seq_skip ?_
    | refine seq_regD ?_
    | refine seq_cond (t := true) rfl ?_
    | refine seq_cond (t := false) rfl ?_
    | refine wpc_cond (t := true) rfl ?_
    | refine wpc_cond (t := false) rfl ?_
    | refine seq_block ?_
    | refine wpc_block ?_
    | refine seq_ret ?_
    | refine wpc_ret ?_
    | refine wpc_reg ?_
    | refine wpc_regD ?_
    | refine wpc_skip ?_
    | refine fin_t rfl ?_
    | refine seq_exit ?_
    | refine wpc_exit ?_
    | refine cmp_lss (fun _ => ?_) (fun _ => ?_)
    | refine cmp_leq (fun _ => ?_) (fun _ => ?_)
    | refine cmp_gtr (fun _ => ?_) (fun _ => ?_)
    | refine cmp_geq (fun _ => ?_) (fun _ => ?_)
    | refine cmp_eql (fun _ => ?_) (fun _ => ?_)
    | refine cmp_neq (fun _ => ?_) (fun _ => ?_)
    | simp only [go_sem, out_n, out_r, out_e, thenX_n, thenX_r, thenX_e]
    )
  exact rfl
theorem sSet_ok {F : Nat → Option IFn} {f : Nat} (hf : F f = some c_sSet) (g0 : ∀ (H : Heap) (a b c : Int), QC F 86 [.int .i64 a, .int .i64 b, .int .i64 c] H (.bool (inB a b c))) (g1 : ∀ H, QC F 102 [] H (.int .i64 7)) : ∀ (H : Heap) (a : Int), QC F f [.int .i64 a] H (.bool (inB a 0 7)) := by
  intro H a
  refine QC.mk hf rfl ?_
  repeat' (first
    | refine seq_assoc ?_
    | refine seq_reg ?_
    | refine seq_skip ?_
    | refine seq_regD ?_
    | refine seq_cond (t := true) rfl ?_
    | refine seq_cond (t := false) rfl ?_
    | refine wpc_cond (t := true) rfl ?_
    | refine wpc_cond (t := false) rfl ?_
    | refine seq_block ?_
    | refine wpc_block ?_
    | refine seq_ret ?_
    | refine wpc_ret ?_
    | refine wpc_reg ?_
    | refine wpc_regD ?_
    | refine wpc_skip ?_
    | refine fin_t rfl ?_
    | refine seq_exit ?_
    | refine wpc_exit ?_
    | refine cmp_lss (fun _ => ?_) (fun _ => ?_)
    | refine cmp_leq (fun _ => ?_) (fun _ => ?_)
    | refine cmp_gtr (fun _ => ?_) (fun _ => ?_)
    | refine cmp_geq (fun _ => ?_) (fun _ => ?_)
    | refine cmp_eql (fun _ => ?_) (fun _ => ?_)
    | refine cmp_neq (fun _ => ?_) (fun _ => ?_)
    | (refine op_callQ (by simp only [go_sem, out_n, out_r, out_e, thenX_n, thenX_r, thenX_e]; exact g1 _) ?_)
    | (refine op_callB (by simp only [go_sem, out_n, out_r, out_e, thenX_n, thenX_r, thenX_e]; exact g0 _ _ _ _) (fun _ => ?_) (fun _ => ?_))
    | simp only [go_sem, out_n, out_r, out_e, thenX_n, thenX_r, thenX_e]
    )
  all_goals (refine ⟨?_, rfl⟩; simp [*])
def labB (l : Int × Int) : Bool := inB l.1 0 7 && inB l.2 0 7
theorem iLabelOk_ok {F : Nat → Option IFn} {f : Nat} (hf : F f = some c_iLabelOk) (g0 : ∀ (H : Heap) (a : Int), QC F 116 [.int .i64 a] H (.bool (inB a 0 7))) : ∀ (H : Heap) (v : Value) (a : Int × Int) (_ : Rd Co.p2 true (vw 0 H) v a), QC F f [v] H (.bool (labB a)) := by
  rintro H v ⟨a0, a1⟩ ⟨cs, hc, _, _, rfl, ⟨rfl, b0⟩, ⟨rfl, b1⟩⟩
  simp only [go_sem, binC, Option.some.injEq] at hc
  subst hc
  refine QC.mk hf rfl ?_
  repeat' (first
    | refine seq_assoc ?_
    | refine seq_reg ?_
    | refine seq_skip ?_
    | refine seq_regD ?_
    | refine seq_cond (t := true) rfl ?_
    | refine seq_cond (t := false) rfl ?_
    | refine wpc_cond (t := true) rfl ?_
    | refine wpc_cond (t := false) rfl ?_
    | refine seq_block ?_
    | refine wpc_block ?_
    | refine seq_ret ?_
    | refine wpc_ret ?_
    | refine wpc_reg ?_
    | refine wpc_regD ?_
    | refine wpc_skip ?_
    | refine fin_t rfl ?_
    | refine seq_exit ?_
    | refine wpc_exit ?_
    | refine cmp_lss (fun _ => ?_) (fun _ => ?_)
    | refine cmp_leq (fun _ => ?_) (fun _ => ?_)
    | refine cmp_gtr (fun _ => ?_) (fun _ => ?_)
    | refine cmp_geq (fun _ => ?_) (fun _ => ?_)
    | refine cmp_eql (fun _ => ?_) (fun _ => ?_)
    | refine cmp_neq (fun _ => ?_) (fun _ => ?_)
    | (refine op_callB (by simp only [go_sem, out_n, out_r, out_e, thenX_n, thenX_r, thenX_e]; exact g0 _ _) (fun _ => ?_) (fun _ => ?_))
    | simp only [go_sem, out_n, out_r, out_e, thenX_n, thenX_r, thenX_e]
    )
  all_goals (refine ⟨?_, rfl⟩; simp [labB, *])
theorem sLabelOk_ok {F : Nat → Option IFn} {f : Nat} (hf : F f = some c_sLabelOk) (g0 : ∀ (H : Heap) (a : Int), QC F 68 [.int .i64 a] H (.bool (inB a 0 7))) : ∀ (H : Heap) (v : Value) (a : Int × Int) (_ : Rd Co.p2 true (vw 0 H) v a), QC F f [v] H (.bool (labB a)) := by
  rintro H v ⟨a0, a1⟩ ⟨cs, hc, _, _, rfl, ⟨rfl, b0⟩, ⟨rfl, b1⟩⟩
  simp only [go_sem, binC, Option.some.injEq] at hc
  subst hc
  refine QC.mk hf rfl ?_
  repeat' (first
    | refine seq_assoc ?_
    | refine seq_reg ?_
    | refine seq_skip ?_
    | refine seq_regD ?_
    | refine seq_cond (t := true) rfl ?_
    | refine seq_cond (t := false) rfl ?_
    | refine wpc_cond (t := true) rfl ?_
    | refine wpc_cond (t := false) rfl ?_
    | refine seq_block ?_
    | refine wpc_block ?_
    | refine seq_ret ?_
    | refine wpc_ret ?_
    | refine wpc_reg ?_
    | refine wpc_regD ?_
    | refine wpc_skip ?_
    | refine fin_t rfl ?_
    | refine seq_exit ?_
    | refine wpc_exit ?_
    | refine cmp_lss (fun _ => ?_) (fun _ => ?_)
    | refine cmp_leq (fun _ => ?_) (fun _ => ?_)
    | refine cmp_gtr (fun _ => ?_) (fun _ => ?_)
    | refine cmp_geq (fun _ => ?_) (fun _ => ?_)
    | refine cmp_eql (fun _ => ?_) (fun _ => ?_)
    | refine cmp_neq (fun _ => ?_) (fun _ => ?_)
    | (refine op_callB (by simp only [go_sem, out_n, out_r, out_e, thenX_n, thenX_r, thenX_e]; exact g0 _ _) (fun _ => ?_) (fun _ => ?_))
    | simp only [go_sem, out_n, out_r, out_e, thenX_n, thenX_r, thenX_e]
    )
  all_goals (refine ⟨?_, rfl⟩; simp [labB, *])
def varB (k : Nat) (a : Int) : Bool := inB a 0 ((k : Int) - 1)
theorem iVar_ok {F : Nat → Option IFn} {f : Nat} (hf : F f = some c_iVar) (g0 : ∀ (H : Heap) (a b c : Int), QC F 136 [.int .i64 a, .int .i64 b, .int .i64 c] H (.bool (inB a b c))) : ∀ (H : Heap) (n : Nat) (v : Value) (p : TProg n) (a : Int) (_ : Rd (Co.prog n) true (vw 0 H) v p), QC F f [v, .int .i64 a] H (.bool (varB p.1.length a)) := by
  rintro H n v ⟨p0, p1⟩ a ⟨cs, hc, _, _, rfl, ⟨v0, rfl, r0⟩, ⟨v1, rfl, r1⟩⟩
  simp only [go_sem, binC, Option.some.injEq] at hc
  subst hc
  obtain ⟨_, x0⟩ := r0.shape
  subst x0
  obtain ⟨_, x1⟩ := r1.shape
  subst x1
  have hw : IntKind.i64.wrap ((p0.length : Int) - 1) = (p0.length : Int) - 1 := wrap_id (by omega) (by have := r0.1; simp only at this; omega)
  refine QC.mk hf rfl ?_
  repeat' (first
    | refine seq_assoc ?_
    | refine seq_reg ?_
    | refine seq_skip ?_
    | refine seq_regD ?_
    | refine seq_cond (t := true) rfl ?_
    | refine seq_cond (t := false) rfl ?_
    | refine wpc_cond (t := true) rfl ?_
    | refine wpc_cond (t := false) rfl ?_
    | refine seq_block ?_
    | refine wpc_block ?_
    | refine seq_ret ?_
    | refine wpc_ret ?_
    | refine wpc_reg ?_
    | refine wpc_regD ?_
    | refine wpc_skip ?_
    | refine fin_t rfl ?_
    | refine seq_exit ?_
    | refine wpc_exit ?_
    | refine cmp_lss (fun _ => ?_) (fun _ => ?_)
    | refine cmp_leq (fun _ => ?_) (fun _ => ?_)
    | refine cmp_gtr (fun _ => ?_) (fun _ => ?_)
    | refine cmp_geq (fun _ => ?_) (fun _ => ?_)
    | refine cmp_eql (fun _ => ?_) (fun _ => ?_)
    | refine cmp_neq (fun _ => ?_) (fun _ => ?_)
    | (refine op_callB (by simp only [go_sem, out_n, out_r, out_e, thenX_n, thenX_r, thenX_e]; exact g0 _ _ _ _) (fun _ => ?_) (fun _ => ?_))
    | simp only [go_sem, out_n, out_r, out_e, thenX_n, thenX_r, thenX_e]
    )
  all_goals (refine ⟨?_, rfl⟩; rw [hw] at *; simp [varB, *])
theorem sVar_ok {F : Nat → Option IFn} {f : Nat} (hf : F f = some c_sVar) (g0 : ∀ (H : Heap) (a b c : Int), QC F 86 [.int .i64 a, .int .i64 b, .int .i64 c] H (.bool (inB a b c))) : ∀ (H : Heap) (n : Nat) (v : Value) (p : TProg n) (a : Int) (_ : Rd (Co.prog n) true (vw 0 H) v p), QC F f [v, .int .i64 a] H (.bool (varB p.1.length a)) := by
  rintro H n v ⟨p0, p1⟩ a ⟨cs, hc, _, _, rfl, ⟨v0, rfl, r0⟩, ⟨v1, rfl, r1⟩⟩
  simp only [go_sem, binC, Option.some.injEq] at hc
  subst hc
  obtain ⟨_, x0⟩ := r0.shape
  subst x0
  obtain ⟨_, x1⟩ := r1.shape
  subst x1
  have hw : IntKind.i64.wrap ((p0.length : Int) - 1) = (p0.length : Int) - 1 := wrap_id (by omega) (by have := r0.1; simp only at this; omega)
  refine QC.mk hf rfl ?_
  repeat' (first
    | refine seq_assoc ?_
    | refine seq_reg ?_
    | refine seq_skip ?_
    | refine seq_regD ?_
    | refine seq_cond (t := true) rfl ?_
    | refine seq_cond (t := false) rfl ?_
    | refine wpc_cond (t := true) rfl ?_
    | refine wpc_cond (t := false) rfl ?_
    | refine seq_block ?_
    | refine wpc_block ?_
    | refine seq_ret ?_
    | refine wpc_ret ?_
    | refine wpc_reg ?_
    | refine wpc_regD ?_
    | refine wpc_skip ?_
    | refine fin_t rfl ?_
    | refine seq_exit ?_
    | refine wpc_exit ?_
    | refine cmp_lss (fun _ => ?_) (fun _ => ?_)
    | refine cmp_leq (fun _ => ?_) (fun _ => ?_)
    | refine cmp_gtr (fun _ => ?_) (fun _ => ?_)
    | refine cmp_geq (fun _ => ?_) (fun _ => ?_)
    | refine cmp_eql (fun _ => ?_) (fun _ => ?_)
    | refine cmp_neq (fun _ => ?_) (fun _ => ?_)
    | (refine op_callB (by simp only [go_sem, out_n, out_r, out_e, thenX_n, thenX_r, thenX_e]; exact g0 _ _ _ _) (fun _ => ?_) (fun _ => ?_))
    | simp only [go_sem, out_n, out_r, out_e, thenX_n, thenX_r, thenX_e]
    )
  all_goals (refine ⟨?_, rfl⟩; rw [hw] at *; simp [varB, *])
def valB (k : Nat) (v : Int × Int × Int) : Bool :=
  if v.1 = 1 then inB v.2.1 0 9 && decide (v.2.2 = 0) else if v.1 = 2 then varB k v.2.1 && decide (v.2.2 = 0) else if v.1 = 3 ∨ v.1 = 4 then varB k v.2.1 && varB k v.2.2 else false
theorem iVal_ok {F : Nat → Option IFn} {f : Nat} (hf : F f = some c_iVal) (g0 : ∀ (H : Heap) (a : Int), QC F 119 [.int .i64 a] H (.bool (inB a 0 9))) (g1 : ∀ (H : Heap) (n : Nat) (v : Value) (p : TProg n) (a : Int) (_ : Rd (Co.prog n) true (vw 0 H) v p), QC F 143 [v, .int .i64 a] H (.bool (varB p.1.length a))) : ∀ (H : Heap) (n : Nat) (v u : Value) (p : TProg n) (a : Int × Int × Int) (_ : Rd (Co.prog n) true (vw 0 H) v p) (_ : Rd Co.val true (vw 0 H) u a), QC F f [v, u] H (.bool (valB p.1.length a)) := by
  rintro H n v u ⟨p0, p1⟩ ⟨a0, a1, a2⟩ ⟨cs, hc, _, _, rfl, ⟨v0, rfl, r0⟩, ⟨v1, rfl, r1⟩⟩ ⟨cs2, hc2, _, _, rfl, ⟨rfl, b0⟩, _, _, rfl, ⟨rfl, b1⟩, ⟨rfl, b2⟩⟩
  have hp : ∀ L, Rd (Co.prog n) true (vw 0 (H ++ L)) (.agg #[v0, v1]) (p0, p1) := fun L => ⟨_, rfl, _, _, rfl, ⟨_, rfl, r0.mono (vw_app 0 H L)⟩, ⟨_, rfl, r1.mono (vw_app 0 H L)⟩⟩
  simp only [go_sem, binC, Option.some.injEq] at hc2
  subst hc2
  simp only [go_sem, binC, Option.some.injEq] at hc
  subst hc
  obtain ⟨_, x0⟩ := r0.shape
  subst x0
  obtain ⟨_, x1⟩ := r1.shape
  subst x1
  skip
  have hw : IntKind.i64.wrap ((p0.length : Int) - 1) = (p0.length : Int) - 1 := wrap_id (by omega) (by have := r0.1; simp only at this; omega)
  refine QC.mk hf rfl ?_
  repeat' (first
    | refine seq_assoc ?_
    | refine seq_reg ?_
    | refine seq_skip ?_
    | refine seq_regD ?_
    | refine seq_cond (t := true) rfl ?_
    | refine seq_cond (t := false) rfl ?_
    | refine wpc_cond (t := true) rfl ?_
    | refine wpc_cond (t := false) rfl ?_
    | refine seq_block ?_
    | refine wpc_block ?_
    | refine seq_ret ?_
    | refine wpc_ret ?_
    | refine wpc_reg ?_
    | refine wpc_regD ?_
    | refine wpc_skip ?_
    | refine fin_t rfl ?_
    | refine seq_exit ?_
    | refine wpc_exit ?_
    | refine cmp_lss (fun _ => ?_) (fun _ => ?_)
    | refine cmp_leq (fun _ => ?_) (fun _ => ?_)
    | refine cmp_gtr (fun _ => ?_) (fun _ => ?_)
    | refine cmp_geq (fun _ => ?_) (fun _ => ?_)
    | refine cmp_eql (fun _ => ?_) (fun _ => ?_)
    | refine cmp_neq (fun _ => ?_) (fun _ => ?_)
    | (refine op_callB (by simp only [go_sem, out_n, out_r, out_e, thenX_n, thenX_r, thenX_e]; exact g0 _ _) (fun _ => ?_) (fun _ => ?_))
    | (refine op_callB (by simp only [go_sem, out_n, out_r, out_e, thenX_n, thenX_r, thenX_e]; exact g1 _ n _ (p0, p1) _ (hp _)) (fun _ => ?_) (fun _ => ?_))
    | simp only [go_sem, out_n, out_r, out_e, thenX_n, thenX_r, thenX_e]
    )
  all_goals (refine ⟨?_, rfl⟩; simp [valB, *])
theorem sVal_ok {F : Nat → Option IFn} {f : Nat} (hf : F f = some c_sVal) (g0 : ∀ (H : Heap) (a b c : Int), QC F 86 [.int .i64 a, .int .i64 b, .int .i64 c] H (.bool (inB a b c))) (g1 : ∀ (H : Heap) (n : Nat) (v : Value) (p : TProg n) (a : Int) (_ : Rd (Co.prog n) true (vw 0 H) v p), QC F 145 [v, .int .i64 a] H (.bool (varB p.1.length a))) : ∀ (H : Heap) (n : Nat) (v u : Value) (p : TProg n) (a : Int × Int × Int) (_ : Rd (Co.prog n) true (vw 0 H) v p) (_ : Rd Co.val true (vw 0 H) u a), QC F f [v, u] H (.bool (valB p.1.length a)) := by
  rintro H n v u ⟨p0, p1⟩ ⟨a0, a1, a2⟩ ⟨cs, hc, _, _, rfl, ⟨v0, rfl, r0⟩, ⟨v1, rfl, r1⟩⟩ ⟨cs2, hc2, _, _, rfl, ⟨rfl, b0⟩, _, _, rfl, ⟨rfl, b1⟩, ⟨rfl, b2⟩⟩
  have hp : ∀ L, Rd (Co.prog n) true (vw 0 (H ++ L)) (.agg #[v0, v1]) (p0, p1) := fun L => ⟨_, rfl, _, _, rfl, ⟨_, rfl, r0.mono (vw_app 0 H L)⟩, ⟨_, rfl, r1.mono (vw_app 0 H L)⟩⟩
  simp only [go_sem, binC, Option.some.injEq] at hc2
  subst hc2
  simp only [go_sem, binC, Option.some.injEq] at hc
  subst hc
  obtain ⟨_, x0⟩ := r0.shape
  subst x0
  obtain ⟨_, x1⟩ := r1.shape
  subst x1
  skip
  have hw : IntKind.i64.wrap ((p0.length : Int) - 1) = (p0.length : Int) - 1 := wrap_id (by omega) (by have := r0.1; simp only at this; omega)
  refine QC.mk hf rfl ?_
  repeat' (first
    | refine seq_assoc ?_
    | refine seq_reg ?_
    | refine seq_skip ?_
    | refine seq_regD ?_
    | refine seq_cond (t := true) rfl ?_
    | refine seq_cond (t := false) rfl ?_
    | refine wpc_cond (t := true) rfl ?_
    | refine wpc_cond (t := false) rfl ?_
    | refine seq_block ?_
    | refine wpc_block ?_
    | refine seq_ret ?_
    | refine wpc_ret ?_
    | refine wpc_reg ?_
    | refine wpc_regD ?_
    | refine wpc_skip ?_
    | refine fin_t rfl ?_
    | refine seq_exit ?_
    | refine wpc_exit ?_
    | refine cmp_lss (fun _ => ?_) (fun _ => ?_)
    | refine cmp_leq (fun _ => ?_) (fun _ => ?_)
    | refine cmp_gtr (fun _ => ?_) (fun _ => ?_)
    | refine cmp_geq (fun _ => ?_) (fun _ => ?_)
    | refine cmp_eql (fun _ => ?_) (fun _ => ?_)
    | refine cmp_neq (fun _ => ?_) (fun _ => ?_)
    | (refine op_callB (by simp only [go_sem, out_n, out_r, out_e, thenX_n, thenX_r, thenX_e]; exact g0 _ _ _ _) (fun _ => ?_) (fun _ => ?_))
    | (refine op_callB (by simp only [go_sem, out_n, out_r, out_e, thenX_n, thenX_r, thenX_e]; exact g1 _ n _ (p0, p1) _ (hp _)) (fun _ => ?_) (fun _ => ?_))
    | simp only [go_sem, out_n, out_r, out_e, thenX_n, thenX_r, thenX_e]
    )
  all_goals (refine ⟨?_, rfl⟩; simp [valB, *])
end Go.Proofs.YtkmghcglmjehcaaI
end
section
/- Whether steps are in form, told twice. -/
set_option linter.unusedVariables false
set_option linter.unusedSimpArgs false
namespace Go.Proofs.YtkmghcglmjehcaaI
open Go Go.RowKit
theorem eqs_rule {a b c x y z : Int} {ne : Bool} {K : Value → Prop} (h1 : (a, b, c) = (x, y, z) → K (.bool (!ne))) (h2 : ¬ (a, b, c) = (x, y, z) → K (.bool ne)) :
    optP (eqsV ne 3 (.agg [.int .i64 a, .int .i64 b, .int .i64 c].toArray) (.agg [.int .i64 x, .int .i64 y, .int .i64 z].toArray)) K := by
  have e : eqsV ne 3 (.agg [.int .i64 a, .int .i64 b, .int .i64 c].toArray) (.agg [.int .i64 x, .int .i64 y, .int .i64 z].toArray) = some (.bool (if ne then !(a == x && (b == y && c == z)) else (a == x && (b == y && c == z)))) := by
    cases ne <;> simp [eqsV, eqCells]
  rw [e]
  by_cases h : (a, b, c) = (x, y, z)
  · have ht : (a == x && (b == y && c == z)) = true := by simpa using h
    rw [ht]
    have := h1 h
    cases ne <;> exact this
  · have ht : (a == x && (b == y && c == z)) = false := by
      rw [Bool.eq_false_iff]
      intro h'
      exact h (by simpa using h')
    rw [ht]
    have := h2 h
    cases ne <;> exact this
attribute [local irreducible] optP wpo wpp wpc binI Kc Kp wpOp thenX eqsV
def stepB (k : Nat) : (n : Nat) → Int → TStep n → Bool
  | 0, _, _ => false
  | n + 1, d, (kd, vr, v, ho, th, el) => decide (1 ≤ d) && varB k vr && (if kd = 1 then valB k v && decide (ho = 0) && decide ((th.length : Int) + el.length = 0) else
      if kd = 3 then decide (v = (0, 0, 0)) && inB ho 0 2 && decide ((th.length : Int) + el.length = 0) else
      if kd = 2 then decide (v = (0, 0, 0)) && decide (ho = 0) && th.all (stepB k n (d - 1)) && el.all (stepB k n (d - 1)) else false)
def VarOk (F : Nat → Option IFn) (f : Nat) : Prop := ∀ (H : Heap) (n : Nat) (v : Value) (p : TProg n) (a : Int) (_ : Rd (Co.prog n) true (vw 0 H) v p), QC F f [v, .int .i64 a] H (.bool (varB p.1.length a))
def ValOk (F : Nat → Option IFn) (f : Nat) : Prop := ∀ (H : Heap) (n : Nat) (v u : Value) (p : TProg n) (a : Int × Int × Int) (_ : Rd (Co.prog n) true (vw 0 H) v p) (_ : Rd Co.val true (vw 0 H) u a), QC F f [v, u] H (.bool (valB p.1.length a))
def InOk (F : Nat → Option IFn) (f : Nat) : Prop := ∀ (H : Heap) (a b c : Int), QC F f [.int .i64 a, .int .i64 b, .int .i64 c] H (.bool (inB a b c))
/-- A list of steps, of programs of any depth 'm'. -/
def StepsOk (F : Nat → Option IFn) (f : Nat) (n : Nat) : Prop := ∀ (H : Heap) (m : Nat) (v u : Value) (p : TProg m) (l : List (TStep n)) (d : Int), Rd (Co.prog m) true (vw 0 H) v p → SlR (Co.step n) (vw 0 H) u l → (Co.sl (Co.step n)).sm l → 0 ≤ d → d ≤ 3 →
  QC F f [v, u, .int .i64 d] H (.bool (l.all (stepB p.1.length n d)))
def StepOk (F : Nat → Option IFn) (f : Nat) (n : Nat) : Prop := ∀ (H : Heap) (m : Nat) (v u : Value) (p : TProg m) (a : TStep n) (d : Int), Rd (Co.prog m) true (vw 0 H) v p → Rd (Co.step n) true (vw 0 H) u a → (Co.step n).sm a → 0 ≤ d → d ≤ 3 →
  QC F f [v, u, .int .i64 d] H (.bool (stepB p.1.length n d a))
def c_sStep : IFn := ⟨3, 86, [.t 6],
 .seq (.reg none [
    ⟨(some 3), none, .box (.t 0)⟩,
    ⟨(some 4), none, .box (.t 1)⟩,
    ⟨(some 6), none, .mov (.c (.bool false))⟩])
 (.seq (.seq (.reg none [
     ⟨(some 8), none, .mov (.t 2)⟩,
     ⟨(some 9), none, .bin .lss (.t 8) (.c (.int .i64 1))⟩,
     ⟨(some 10), none, .mov (.t 9)⟩,
     ⟨(some 11), (some (10, false)), .load true 2 (.t 3)⟩,
     ⟨(some 12), (some (10, false)), .fad 1 (.t 4)⟩,
     ⟨(some 13), (some (10, false)), .load false 1 (.t 12)⟩,
     ⟨(some 14), (some (10, false)), .call .q (.f 145) [(.t 11), (.t 13)]⟩,
     ⟨(some 15), (some (10, false)), .un .not (.t 14)⟩,
     ⟨(some 16), none, .pick (.t 10) (.c (.bool true)) (.t 15)⟩])
  (.cond (.t 16) (.seq (.reg none [
      ⟨(some 6), none, .mov (.c (.bool false))⟩])
   (.ret)) (.skip)))
 (.seq (.reg none [
    ⟨(some 17), none, .fad 2 (.t 4)⟩,
    ⟨(some 18), none, .load true 3 (.t 17)⟩,
    ⟨(some 19), none, .build [(.int .i64 0), (.int .i64 0), (.int .i64 0)] []⟩,
    ⟨(some 20), none, .eqs false 3 (.t 18) (.t 19)⟩,
    ⟨(some 7), none, .mov (.t 20)⟩])
 (.seq (.seq (.reg none [
     ⟨(some 21), none, .fad 0 (.t 4)⟩,
     ⟨(some 22), none, .load false 1 (.t 21)⟩])
  (.block 0 (.seq (.reg none [
      ⟨(some 24), none, .bin .eql (.t 22) (.c (.int .i64 1))⟩,
      ⟨(some 23), none, .mov (.t 24)⟩])
   (.cond (.t 23) (.seq (.reg none [
       ⟨(some 25), none, .load true 2 (.t 3)⟩,
       ⟨(some 26), none, .fad 2 (.t 4)⟩,
       ⟨(some 27), none, .load true 3 (.t 26)⟩,
       ⟨(some 28), none, .call .q (.f 146) [(.t 25), (.t 27)]⟩,
       ⟨(some 29), none, .mov (.t 28)⟩,
       ⟨(some 30), (some (29, true)), .fad 5 (.t 4)⟩,
       ⟨(some 31), (some (29, true)), .load false 1 (.t 30)⟩,
       ⟨(some 32), (some (29, true)), .bin .eql (.t 31) (.c (.int .i64 0))⟩,
       ⟨(some 33), none, .pick (.t 29) (.t 32) (.c (.bool false))⟩,
       ⟨(some 34), none, .mov (.t 33)⟩,
       ⟨(some 35), (some (34, true)), .fad 6 (.t 4)⟩,
       ⟨(some 36), (some (34, true)), .load false 1 (.t 35)⟩,
       ⟨(some 37), (some (34, true)), .len (.t 36)⟩,
       ⟨(some 38), (some (34, true)), .fad 7 (.t 4)⟩,
       ⟨(some 39), (some (34, true)), .load false 1 (.t 38)⟩,
       ⟨(some 40), (some (34, true)), .len (.t 39)⟩,
       ⟨(some 41), (some (34, true)), .bin .add (.t 37) (.t 40)⟩,
       ⟨(some 42), (some (34, true)), .bin .eql (.t 41) (.c (.int .i64 0))⟩,
       ⟨(some 43), none, .pick (.t 34) (.t 42) (.c (.bool false))⟩,
       ⟨(some 6), none, .mov (.t 43)⟩])
    (.ret)) (.seq (.reg none [
       ⟨(some 45), none, .bin .eql (.t 22) (.c (.int .i64 3))⟩,
       ⟨(some 44), none, .mov (.t 45)⟩])
    (.cond (.t 44) (.seq (.reg none [
        ⟨(some 46), none, .mov (.t 7)⟩,
        ⟨(some 47), none, .mov (.t 46)⟩,
        ⟨(some 48), (some (47, true)), .fad 5 (.t 4)⟩,
        ⟨(some 49), (some (47, true)), .load false 1 (.t 48)⟩,
        ⟨(some 50), (some (47, true)), .call .q (.f 86) [(.t 49), (.c (.int .i64 0)), (.c (.int .i64 2))]⟩,
        ⟨(some 51), none, .pick (.t 47) (.t 50) (.c (.bool false))⟩,
        ⟨(some 52), none, .mov (.t 51)⟩,
        ⟨(some 53), (some (52, true)), .fad 6 (.t 4)⟩,
        ⟨(some 54), (some (52, true)), .load false 1 (.t 53)⟩,
        ⟨(some 55), (some (52, true)), .len (.t 54)⟩,
        ⟨(some 56), (some (52, true)), .fad 7 (.t 4)⟩,
        ⟨(some 57), (some (52, true)), .load false 1 (.t 56)⟩,
        ⟨(some 58), (some (52, true)), .len (.t 57)⟩,
        ⟨(some 59), (some (52, true)), .bin .add (.t 55) (.t 58)⟩,
        ⟨(some 60), (some (52, true)), .bin .eql (.t 59) (.c (.int .i64 0))⟩,
        ⟨(some 61), none, .pick (.t 52) (.t 60) (.c (.bool false))⟩,
        ⟨(some 6), none, .mov (.t 61)⟩])
     (.ret)) (.seq (.reg none [
        ⟨(some 63), none, .bin .eql (.t 22) (.c (.int .i64 2))⟩,
        ⟨(some 62), none, .mov (.t 63)⟩])
     (.cond (.t 62) (.seq (.reg none [
         ⟨(some 64), none, .mov (.t 7)⟩,
         ⟨(some 65), none, .mov (.t 64)⟩,
         ⟨(some 66), (some (65, true)), .fad 5 (.t 4)⟩,
         ⟨(some 67), (some (65, true)), .load false 1 (.t 66)⟩,
         ⟨(some 68), (some (65, true)), .bin .eql (.t 67) (.c (.int .i64 0))⟩,
         ⟨(some 69), none, .pick (.t 65) (.t 68) (.c (.bool false))⟩,
         ⟨(some 70), none, .mov (.t 69)⟩,
         ⟨(some 71), (some (70, true)), .load true 2 (.t 3)⟩,
         ⟨(some 72), (some (70, true)), .fad 6 (.t 4)⟩,
         ⟨(some 73), (some (70, true)), .load false 1 (.t 72)⟩,
         ⟨(some 74), (some (70, true)), .mov (.t 2)⟩,
         ⟨(some 75), (some (70, true)), .bin .sub (.t 74) (.c (.int .i64 1))⟩,
         ⟨(some 76), (some (70, true)), .call .q (.f 61) [(.t 71), (.t 73), (.t 75)]⟩,
         ⟨(some 77), none, .pick (.t 70) (.t 76) (.c (.bool false))⟩,
         ⟨(some 78), none, .mov (.t 77)⟩,
         ⟨(some 79), (some (78, true)), .load true 2 (.t 3)⟩,
         ⟨(some 80), (some (78, true)), .fad 7 (.t 4)⟩,
         ⟨(some 81), (some (78, true)), .load false 1 (.t 80)⟩,
         ⟨(some 82), (some (78, true)), .mov (.t 2)⟩,
         ⟨(some 83), (some (78, true)), .bin .sub (.t 82) (.c (.int .i64 1))⟩,
         ⟨(some 84), (some (78, true)), .call .q (.f 61) [(.t 79), (.t 81), (.t 83)]⟩,
         ⟨(some 85), none, .pick (.t 78) (.t 84) (.c (.bool false))⟩,
         ⟨(some 6), none, .mov (.t 85)⟩])
      (.ret)) (.skip)))))))))
 (.seq (.reg none [
    ⟨(some 6), none, .mov (.c (.bool false))⟩])
 (.ret)))))⟩
def c_sSteps : IFn := ⟨3, 22, [.t 6],
 .seq (.reg none [
    ⟨(some 3), none, .box (.t 0)⟩,
    ⟨(some 6), none, .mov (.c (.bool false))⟩])
 (.seq (.seq (.reg none [
     ⟨(some 7), none, .mov (.c (.int .i64 0))⟩])
  (.block 0 (.loop (.seq (.seq (.reg none [
        ⟨(some 8), none, .mov (.t 7)⟩,
        ⟨(some 9), none, .mov (.t 1)⟩,
        ⟨(some 10), none, .len (.t 9)⟩,
        ⟨(some 11), none, .bin .lss (.t 8) (.t 10)⟩])
     (.cond (.t 11) (.skip) (.exit 0)))
    (.seq (.block 1 (.seq (.reg (some 6) [
         ⟨(some 14), none, .load true 2 (.t 3)⟩,
         ⟨(some 15), none, .mov (.t 1)⟩,
         ⟨(some 16), none, .mov (.t 7)⟩,
         ⟨(some 17), none, .iad 8 (.t 15) (.t 16)⟩,
         ⟨(some 18), none, .load true 8 (.t 17)⟩,
         ⟨(some 19), none, .mov (.t 2)⟩,
         ⟨(some 20), none, .call .q (.f 113) [(.t 14), (.t 18), (.t 19)]⟩,
         ⟨(some 21), none, .un .not (.t 20)⟩])
      (.cond (.t 21) (.seq (.reg none [
          ⟨(some 6), none, .mov (.c (.bool false))⟩])
       (.ret)) (.skip))))
    (.reg none [
      ⟨(some 12), none, .mov (.t 7)⟩,
      ⟨(some 13), none, .bin .add (.t 12) (.c (.int .i64 1))⟩,
      ⟨(some 7), none, .mov (.t 13)⟩]))))))
 (.seq (.reg none [
    ⟨(some 6), none, .mov (.c (.bool true))⟩])
 (.ret)))⟩
def c_iSteps : IFn := ⟨3, 93, [.t 6],
 .seq (.reg none [
    ⟨(some 3), none, .box (.t 0)⟩,
    ⟨(some 6), none, .mov (.c (.bool false))⟩])
 (.seq (.seq (.reg none [
     ⟨(some 10), none, .mov (.t 1)⟩,
     ⟨(some 11), none, .len (.t 10)⟩,
     ⟨(some 12), none, .mov (.c (.int .i64 0))⟩])
  (.block 0 (.loop (.seq (.reg none [
       ⟨(some 13), none, .bin .lss (.t 12) (.t 11)⟩])
    (.seq (.cond (.t 13) (.skip) (.exit 0))
    (.seq (.block 1 (.seq (.reg none [
         ⟨(some 14), none, .iad 8 (.t 10) (.t 12)⟩,
         ⟨(some 15), none, .load true 8 (.t 14)⟩,
         ⟨(some 8), none, .new [(.int .i64 0), (.int .i64 0), (.int .i64 0), (.int .i64 0), (.int .i64 0), (.int .i64 0), (.slice none 0 0), (.slice none 0 0)]⟩,
         ⟨none, none, .store 8 (.t 8) (.t 15)⟩])
      (.seq (.seq (.reg none [
          ⟨(some 16), none, .mov (.t 2)⟩,
          ⟨(some 17), none, .bin .lss (.t 16) (.c (.int .i64 1))⟩,
          ⟨(some 18), none, .mov (.t 17)⟩,
          ⟨(some 19), (some (18, false)), .load true 2 (.t 3)⟩,
          ⟨(some 20), (some (18, false)), .fad 1 (.t 8)⟩,
          ⟨(some 21), (some (18, false)), .load false 1 (.t 20)⟩,
          ⟨(some 22), (some (18, false)), .call .q (.f 143) [(.t 19), (.t 21)]⟩,
          ⟨(some 23), (some (18, false)), .un .not (.t 22)⟩,
          ⟨(some 24), none, .pick (.t 18) (.c (.bool true)) (.t 23)⟩,
          ⟨(some 25), none, .mov (.t 24)⟩,
          ⟨(some 26), (some (25, false)), .fad 0 (.t 8)⟩,
          ⟨(some 27), (some (25, false)), .load false 1 (.t 26)⟩,
          ⟨(some 28), (some (25, false)), .bin .neq (.t 27) (.c (.int .i64 1))⟩,
          ⟨(some 29), (some (25, false)), .mov (.t 28)⟩,
          ⟨(some 30), (some (29, true)), .fad 2 (.t 8)⟩,
          ⟨(some 31), (some (29, true)), .load true 3 (.t 30)⟩,
          ⟨(some 32), (some (29, true)), .build [(.int .i64 0), (.int .i64 0), (.int .i64 0)] []⟩,
          ⟨(some 33), (some (29, true)), .eqs true 3 (.t 31) (.t 32)⟩,
          ⟨(some 34), (some (25, false)), .pick (.t 29) (.t 33) (.c (.bool false))⟩,
          ⟨(some 35), none, .pick (.t 25) (.c (.bool true)) (.t 34)⟩,
          ⟨(some 36), none, .mov (.t 35)⟩,
          ⟨(some 37), (some (36, false)), .fad 0 (.t 8)⟩,
          ⟨(some 38), (some (36, false)), .load false 1 (.t 37)⟩,
          ⟨(some 39), (some (36, false)), .bin .neq (.t 38) (.c (.int .i64 3))⟩,
          ⟨(some 40), (some (36, false)), .mov (.t 39)⟩,
          ⟨(some 41), (some (40, true)), .fad 5 (.t 8)⟩,
          ⟨(some 42), (some (40, true)), .load false 1 (.t 41)⟩,
          ⟨(some 43), (some (40, true)), .bin .neq (.t 42) (.c (.int .i64 0))⟩,
          ⟨(some 44), (some (36, false)), .pick (.t 40) (.t 43) (.c (.bool false))⟩,
          ⟨(some 45), none, .pick (.t 36) (.c (.bool true)) (.t 44)⟩,
          ⟨(some 46), none, .mov (.t 45)⟩,
          ⟨(some 47), (some (46, false)), .fad 0 (.t 8)⟩,
          ⟨(some 48), (some (46, false)), .load false 1 (.t 47)⟩,
          ⟨(some 49), (some (46, false)), .bin .neq (.t 48) (.c (.int .i64 2))⟩,
          ⟨(some 50), (some (46, false)), .mov (.t 49)⟩,
          ⟨(some 51), (some (50, true)), .fad 6 (.t 8)⟩,
          ⟨(some 52), (some (50, true)), .load false 1 (.t 51)⟩,
          ⟨(some 53), (some (50, true)), .len (.t 52)⟩,
          ⟨(some 54), (some (50, true)), .fad 7 (.t 8)⟩,
          ⟨(some 55), (some (50, true)), .load false 1 (.t 54)⟩,
          ⟨(some 56), (some (50, true)), .len (.t 55)⟩,
          ⟨(some 57), (some (50, true)), .bin .add (.t 53) (.t 56)⟩,
          ⟨(some 58), (some (50, true)), .bin .gtr (.t 57) (.c (.int .i64 0))⟩,
          ⟨(some 59), (some (46, false)), .pick (.t 50) (.t 58) (.c (.bool false))⟩,
          ⟨(some 60), none, .pick (.t 46) (.c (.bool true)) (.t 59)⟩])
       (.cond (.t 60) (.seq (.reg none [
           ⟨(some 6), none, .mov (.c (.bool false))⟩])
        (.ret)) (.skip)))
      (.seq (.reg none [
         ⟨(some 9), none, .mov (.c (.bool false))⟩])
      (.seq (.seq (.reg none [
          ⟨(some 61), none, .fad 0 (.t 8)⟩,
          ⟨(some 62), none, .load false 1 (.t 61)⟩])
       (.block 2 (.seq (.reg none [
           ⟨(some 64), none, .bin .eql (.t 62) (.c (.int .i64 1))⟩,
           ⟨(some 63), none, .mov (.t 64)⟩])
        (.cond (.t 63) (.reg none [
           ⟨(some 65), none, .load true 2 (.t 3)⟩,
           ⟨(some 66), none, .fad 2 (.t 8)⟩,
           ⟨(some 67), none, .load true 3 (.t 66)⟩,
           ⟨(some 68), none, .call .q (.f 144) [(.t 65), (.t 67)]⟩,
           ⟨(some 9), none, .mov (.t 68)⟩]) (.seq (.reg none [
            ⟨(some 70), none, .bin .eql (.t 62) (.c (.int .i64 2))⟩,
            ⟨(some 69), none, .mov (.t 70)⟩])
         (.cond (.t 69) (.reg none [
            ⟨(some 71), none, .load true 2 (.t 3)⟩,
            ⟨(some 72), none, .fad 6 (.t 8)⟩,
            ⟨(some 73), none, .load false 1 (.t 72)⟩,
            ⟨(some 74), none, .mov (.t 2)⟩,
            ⟨(some 75), none, .bin .sub (.t 74) (.c (.int .i64 1))⟩,
            ⟨(some 76), none, .call .q (.f 109) [(.t 71), (.t 73), (.t 75)]⟩,
            ⟨(some 77), none, .mov (.t 76)⟩,
            ⟨(some 78), (some (77, true)), .load true 2 (.t 3)⟩,
            ⟨(some 79), (some (77, true)), .fad 7 (.t 8)⟩,
            ⟨(some 80), (some (77, true)), .load false 1 (.t 79)⟩,
            ⟨(some 81), (some (77, true)), .mov (.t 2)⟩,
            ⟨(some 82), (some (77, true)), .bin .sub (.t 81) (.c (.int .i64 1))⟩,
            ⟨(some 83), (some (77, true)), .call .q (.f 109) [(.t 78), (.t 80), (.t 82)]⟩,
            ⟨(some 84), none, .pick (.t 77) (.t 83) (.c (.bool false))⟩,
            ⟨(some 9), none, .mov (.t 84)⟩]) (.seq (.reg none [
             ⟨(some 86), none, .bin .eql (.t 62) (.c (.int .i64 3))⟩,
             ⟨(some 85), none, .mov (.t 86)⟩])
          (.cond (.t 85) (.reg none [
             ⟨(some 87), none, .fad 5 (.t 8)⟩,
             ⟨(some 88), none, .load false 1 (.t 87)⟩,
             ⟨(some 89), none, .call .q (.f 89) [(.t 88)]⟩,
             ⟨(some 9), none, .mov (.t 89)⟩]) (.skip)))))))))
      (.seq (.reg none [
         ⟨(some 90), none, .mov (.t 9)⟩,
         ⟨(some 91), none, .un .not (.t 90)⟩])
      (.cond (.t 91) (.seq (.reg none [
          ⟨(some 6), none, .mov (.c (.bool false))⟩])
       (.ret)) (.skip))))))))
    (.reg none [
      ⟨(some 92), none, .bin .add (.t 12) (.c (.int .i64 1))⟩,
      ⟨(some 12), none, .mov (.t 92)⟩])))))))
 (.seq (.reg none [
    ⟨(some 6), none, .mov (.c (.bool true))⟩])
 (.ret)))⟩
set_option maxHeartbeats 4000000 in
theorem sStep_ok {F : Nat → Option IFn} {f n : Nat} (hf : F f = some c_sStep) (g0 : InOk F 86) (g1 : VarOk F 145) (g2 : ValOk F 146) (g3 : StepsOk F 61 n) : StepOk F f (n + 1) := by
  rintro H m v u ⟨p0, p1⟩ ⟨a0, a1, ⟨a2, a3, a4⟩, a5, a6, a7⟩ d hp0 ⟨cs, hc, _, _, rfl, ⟨rfl, b0⟩, _, _, rfl, ⟨rfl, b1⟩, _, _, rfl, ⟨_, _, rfl, ⟨rfl, b2⟩, _, _, rfl, ⟨rfl, b3⟩, ⟨rfl, b4⟩⟩, _, _, rfl, ⟨rfl, b5⟩, _, _, rfl, ⟨v6, rfl, r6⟩, ⟨v7, rfl, r7⟩⟩ ⟨s0, s1, s2, s3, s6, s7⟩ hd0 hd3
  obtain ⟨pc, hpc, _, _, rfl, ⟨v0, rfl, r0⟩, ⟨v1, rfl, r1⟩⟩ := hp0
  have hp : ∀ L, Rd (Co.prog m) true (vw 0 (H ++ L)) (.agg #[v0, v1]) (p0, p1) := fun L => ⟨_, rfl, _, _, rfl, ⟨_, rfl, r0.mono (vw_app 0 H L)⟩, ⟨_, rfl, r1.mono (vw_app 0 H L)⟩⟩
  simp only [go_sem, binC, Option.some.injEq] at hpc
  subst hpc
  obtain ⟨_, x0⟩ := r0.shape
  subst x0
  obtain ⟨_, x1⟩ := r1.shape
  subst x1
  simp only [go_sem, binC, Option.some.injEq] at hc
  subst hc
  have r6c := r6
  have r7c := r7
  obtain ⟨_, x6⟩ := r6.shape
  subst x6
  obtain ⟨_, x7⟩ := r7.shape
  subst x7
  have hd : IntKind.i64.wrap (d - 1) = d - 1 := wrap_id (by omega) (by omega)
  have ha : IntKind.i64.wrap ((a6.length : Int) + (a7.length : Int)) = (a6.length : Int) + (a7.length : Int) := by
    have h6 : a6.length ≤ 1048576 := s6.1
    have h7 : a7.length ≤ 1048576 := s7.1
    exact wrap_id (by omega) (by omega)
  refine QC.mk hf rfl ?_
  repeat' (first
    | refine seq_assoc ?_
    | refine seq_reg ?_
    | refine seq_skip ?_
    | refine seq_regD ?_
    | refine seq_cond (t := true) rfl ?_
    | refine seq_cond (t := false) rfl ?_
    | refine wpc_cond (t := true) rfl ?_
    | refine wpc_cond (t := false) rfl ?_
    | refine seq_block ?_
    | refine wpc_block ?_
    | refine seq_ret ?_
    | refine wpc_ret ?_
    | refine wpc_reg ?_
    | refine wpc_regD ?_
    | refine wpc_skip ?_
    | refine fin_t rfl ?_
    | refine seq_exit ?_
    | refine wpc_exit ?_
    | refine eqs_rule (fun _ => ?_) (fun _ => ?_)
    | refine cmp_lss (fun _ => ?_) (fun _ => ?_)
    | refine cmp_leq (fun _ => ?_) (fun _ => ?_)
    | refine cmp_gtr (fun _ => ?_) (fun _ => ?_)
    | refine cmp_geq (fun _ => ?_) (fun _ => ?_)
    | refine cmp_eql (fun _ => ?_) (fun _ => ?_)
    | refine cmp_neq (fun _ => ?_) (fun _ => ?_)
    | (refine op_callB (by simp only [go_sem, out_n, out_r, out_e, thenX_n, thenX_r, thenX_e, hd, ha, Bool.not_true, Bool.not_false]; exact g0 _ _ _ _) (fun _ => ?_) (fun _ => ?_))
    | (refine op_callB (by simp only [go_sem, out_n, out_r, out_e, thenX_n, thenX_r, thenX_e, hd, ha, Bool.not_true, Bool.not_false]; exact g1 _ m _ (p0, p1) _ (hp _)) (fun _ => ?_) (fun _ => ?_))
    | (refine op_callB (by simp only [go_sem, out_n, out_r, out_e, thenX_n, thenX_r, thenX_e, hd, ha, Bool.not_true, Bool.not_false]; exact g2 _ m _ _ (p0, p1) (a2, a3, a4) (hp _) ⟨_, rfl, _, _, rfl, ⟨rfl, b2⟩, _, _, rfl, ⟨rfl, b3⟩, ⟨rfl, b4⟩⟩) (fun _ => ?_) (fun _ => ?_))
    | (refine op_callB (by simp only [go_sem, out_n, out_r, out_e, thenX_n, thenX_r, thenX_e, hd, ha, Bool.not_true, Bool.not_false]; exact g3 _ m _ _ (p0, p1) a6 _ (hp _) (r6c.mono (vw_app 0 H _)) s6 (by omega) (by omega)) (fun _ => ?_) (fun _ => ?_))
    | (refine op_callB (by simp only [go_sem, out_n, out_r, out_e, thenX_n, thenX_r, thenX_e, hd, ha, Bool.not_true, Bool.not_false]; exact g3 _ m _ _ (p0, p1) a7 _ (hp _) (r7c.mono (vw_app 0 H _)) s7 (by omega) (by omega)) (fun _ => ?_) (fun _ => ?_))
    | simp only [go_sem, out_n, out_r, out_e, thenX_n, thenX_r, thenX_e, hd, ha, Bool.not_true, Bool.not_false]
    )
  all_goals (refine ⟨?_, rfl⟩; simp only [stepB])
  all_goals simp_all
  all_goals first | omega | (obtain ⟨x, hx, hx2⟩ := ‹∃ x, x ∈ a6 ∧ stepB p0.length n (d - 1) x = false›; intro hh; rw [hh x hx] at hx2; cases hx2)
end Go.Proofs.YtkmghcglmjehcaaI
end
section
/- The number of steps, told twice. -/
set_option linter.unusedVariables false
set_option linter.unusedSimpArgs false
namespace Go.Proofs.YtkmghcglmjehcaaI
open Go Go.RowKit
def Wr (x : Int) : Int := IntKind.i64.wrap x
def cntT : (n : Nat) → TStep n → Int
  | 0, _ => 0
  | n + 1, (_, _, _, _, th, el) => 1 + ((th.map (cntT n)).sum + (el.map (cntT n)).sum)
def cntL (n : Nat) (l : List (TStep n)) : Int := (l.map (cntT n)).sum
def CntOk (F : Nat → Option IFn) (f n : Nat) : Prop := ∀ (H : Heap) (u : Value) (l : List (TStep n)), SlR (Co.step n) (vw 0 H) u l → QC F f [u] H (.int .i64 (Wr (cntL n l)))
theorem gc_part {H : Heap} {b o n off k : Nat} {cs : List Value} (h : getCells H b o n = some cs) (hk : off + k ≤ n) : getCells H b (o + off) k = some ((cs.drop off).take k) := by
  unfold getCells at h ⊢
  split at h
  · rename_i kb hb
    split at h
    · rename_i hl
      simp only [Option.some.injEq] at h
      subst h
      rw [if_pos (by omega), List.drop_take, List.drop_drop, List.take_take, Nat.min_eq_left (by omega)]
    · cases h
  · cases h
def c_sCount : IFn := ⟨1, 28, [.t 2],
 .seq (.reg none [
    ⟨(some 2), none, .mov (.c (.int .i64 0))⟩])
 (.seq (.reg none [
    ⟨(some 3), none, .mov (.c (.int .i64 0))⟩])
 (.seq (.seq (.reg none [
     ⟨(some 4), none, .mov (.c (.int .i64 0))⟩])
  (.block 0 (.loop (.seq (.seq (.reg none [
        ⟨(some 5), none, .mov (.t 4)⟩,
        ⟨(some 6), none, .mov (.t 0)⟩,
        ⟨(some 7), none, .len (.t 6)⟩,
        ⟨(some 8), none, .bin .lss (.t 5) (.t 7)⟩])
     (.cond (.t 8) (.skip) (.exit 0)))
    (.seq (.block 1 (.reg (some 15) [
        ⟨(some 11), none, .mov (.t 3)⟩,
        ⟨(some 12), none, .bin .add (.t 11) (.c (.int .i64 1))⟩,
        ⟨(some 13), none, .mov (.t 0)⟩,
        ⟨(some 14), none, .mov (.t 4)⟩,
        ⟨(some 15), none, .iad 8 (.t 13) (.t 14)⟩,
        ⟨(some 16), none, .fad 6 (.t 15)⟩,
        ⟨(some 17), none, .load false 1 (.t 16)⟩,
        ⟨(some 18), none, .call .q (.f 62) [(.t 17)]⟩,
        ⟨(some 19), none, .bin .add (.t 12) (.t 18)⟩,
        ⟨(some 20), none, .mov (.t 0)⟩,
        ⟨(some 21), none, .mov (.t 4)⟩,
        ⟨(some 22), none, .iad 8 (.t 20) (.t 21)⟩,
        ⟨(some 23), none, .fad 7 (.t 22)⟩,
        ⟨(some 24), none, .load false 1 (.t 23)⟩,
        ⟨(some 25), none, .call .q (.f 62) [(.t 24)]⟩,
        ⟨(some 26), none, .bin .add (.t 19) (.t 25)⟩,
        ⟨(some 3), none, .mov (.t 26)⟩]))
    (.reg none [
      ⟨(some 9), none, .mov (.t 4)⟩,
      ⟨(some 10), none, .bin .add (.t 9) (.c (.int .i64 1))⟩,
      ⟨(some 4), none, .mov (.t 10)⟩]))))))
 (.seq (.reg none [
    ⟨(some 27), none, .mov (.t 3)⟩,
    ⟨(some 2), none, .mov (.t 27)⟩])
 (.ret))))⟩
def c_iSize : IFn := ⟨1, 25, [.t 2],
 .seq (.reg none [
    ⟨(some 2), none, .mov (.c (.int .i64 0))⟩])
 (.seq (.reg none [
    ⟨(some 6), none, .mov (.t 0)⟩,
    ⟨(some 7), none, .len (.t 6)⟩,
    ⟨(some 3), none, .mov (.t 7)⟩])
 (.seq (.seq (.reg none [
     ⟨(some 8), none, .mov (.t 0)⟩,
     ⟨(some 9), none, .len (.t 8)⟩,
     ⟨(some 10), none, .mov (.c (.int .i64 0))⟩])
  (.block 0 (.loop (.seq (.reg none [
       ⟨(some 11), none, .bin .lss (.t 10) (.t 9)⟩])
    (.seq (.cond (.t 11) (.skip) (.exit 0))
    (.seq (.block 1 (.seq (.reg none [
         ⟨(some 12), none, .iad 8 (.t 8) (.t 10)⟩,
         ⟨(some 13), none, .load true 8 (.t 12)⟩,
         ⟨(some 5), none, .new [(.int .i64 0), (.int .i64 0), (.int .i64 0), (.int .i64 0), (.int .i64 0), (.int .i64 0), (.slice none 0 0), (.slice none 0 0)]⟩,
         ⟨none, none, .store 8 (.t 5) (.t 13)⟩])
      (.reg (some 8) [
        ⟨(some 14), none, .mov (.t 3)⟩,
        ⟨(some 15), none, .fad 6 (.t 5)⟩,
        ⟨(some 16), none, .load false 1 (.t 15)⟩,
        ⟨(some 17), none, .call .q (.f 74) [(.t 16)]⟩,
        ⟨(some 18), none, .fad 7 (.t 5)⟩,
        ⟨(some 19), none, .load false 1 (.t 18)⟩,
        ⟨(some 20), none, .call .q (.f 74) [(.t 19)]⟩,
        ⟨(some 21), none, .bin .add (.t 17) (.t 20)⟩,
        ⟨(some 22), none, .bin .add (.t 14) (.t 21)⟩,
        ⟨(some 3), none, .mov (.t 22)⟩])))
    (.reg none [
      ⟨(some 23), none, .bin .add (.t 10) (.c (.int .i64 1))⟩,
      ⟨(some 10), none, .mov (.t 23)⟩])))))))
 (.seq (.reg none [
    ⟨(some 24), none, .mov (.t 3)⟩,
    ⟨(some 2), none, .mov (.t 24)⟩])
 (.ret))))⟩
theorem cnt_at {n : Nat} (l : List (TStep n)) (i : Nat) (h : i < l.length) : cntL n (l.drop i) = cntT n l[i] + cntL n (l.drop (i + 1)) := by
  rw [List.drop_eq_getElem_cons h]
  unfold cntL
  rw [List.map_cons, List.sum_cons]
theorem sCount_ok {F : Nat → Option IFn} {f n : Nat} (hf : F f = some c_sCount) (g0 : CntOk F 62 n) : CntOk F f (n + 1) := by
  rintro H u l ⟨h0, a, rfl, h2⟩
  refine QC.mk hf rfl ?_
  refine seq_reg ?_
  simp only [go_sem, binC]
  refine seq_reg ?_
  simp only [go_sem, binC]
  refine seq_assoc (seq_reg ?_)
  simp only [go_sem, binC]
  refine seq_block (wpc_loop ?_)
  suffices h : ∀ (k i : Nat) (e : Env) (x : Int), i + k = l.length → e 0 = .slice a l.length l.length → e 3 = .int .i64 (Wr x) → e 4 = .int .i64 i → x + cntL (n + 1) (l.drop i) = cntL (n + 1) l → W F H.length _ e _ _ from
    h l.length 0 _ 0 (by omega) (by simp only [go_sem, binC]) (by simp only [go_sem, binC]; rfl) (by simp only [go_sem, binC]; rfl) (by simp)
  intro k
  induction k with
  | zero =>
    intro i e x hi e0 e3 e4 hx
    refine lp_step ?_
    refine seq_assoc (seq_reg ?_)
    simp only [go_sem, binC, e0, e4]
    refine seq_cond (t := false) (by simp only [go_sem, binC]; rw [decide_eq_false (by omega)]) ?_
    simp only [go_sem, binC]
    refine seq_exit ?_
    simp only [go_sem, binC, thenX_e, out_e, thenX_n]
    refine seq_reg ?_
    simp only [go_sem, binC, e3]
    refine wpc_ret ⟨Or.inr rfl, .int .i64 (Wr x), by simp only [go_sem, binC], ?_, rfl⟩
    rw [List.drop_of_length_le (by omega)] at hx
    rw [← hx]
    simp [cntL]
  | succ k ih =>
    intro i e x hi e0 e3 e4 hx
    have hil : i < l.length := by omega
    rcases h2 with h2 | ⟨b, o, hab, h2⟩
    · rw [h2] at hil; simp at hil
    subst hab
    obtain ⟨cs, h3, h4⟩ := h2 i hil
    rw [cnt_at l i hil] at hx
    generalize l[i] = y at h4 hx
    obtain ⟨a0, a1, ⟨a2, a3, a4⟩, a5, a6, a7⟩ := y
    obtain ⟨_, _, rfl, ⟨rfl, b0⟩, _, _, rfl, ⟨rfl, b1⟩, _, _, rfl, ⟨_, _, rfl, ⟨rfl, b2⟩, _, _, rfl, ⟨rfl, b3⟩, ⟨rfl, b4⟩⟩, _, _, rfl, ⟨rfl, b5⟩, _, _, rfl, ⟨v6, rfl, r6⟩, ⟨v7, rfl, r7⟩⟩ := h4
    have g3 := rng_gc h3
    rw [step_w] at g3
    have g6 := gc_part (off := 6) (k := 1) g3 (by omega)
    have g7 := gc_part (off := 7) (k := 1) g3 (by omega)
    simp only [go_sem, binC] at g6 g7
    have hw1 : IntKind.i64.wrap ((i : Int) + 1) = ((i + 1 : Nat) : Int) := by rw [wrap_id (by omega) (by omega)]; omega
    refine lp_step ?_
    refine seq_assoc (seq_reg ?_)
    simp only [go_sem, binC, e0, e4]
    refine seq_cond (t := true) (by simp only [go_sem, binC]; rw [decide_eq_true (by omega)]) ?_
    simp only [go_sem, binC]
    refine seq_skip (seq_block (wpc_regD ?_))
    simp only [go_sem, binC, e0, e3, e4, g6, g7]
    refine ⟨⟨by omega, by omega⟩, ?_⟩
    refine op_callQ (by simp only [go_sem, binC]; exact g0 _ _ _ r6) ?_
    simp only [go_sem, binC, e0, e4]
    refine ⟨⟨by omega, by omega⟩, ?_⟩
    simp only [go_sem, binC, g7]
    refine op_callQ (by simp only [go_sem, binC]; exact g0 _ _ _ r7) ?_
    simp only [go_sem, binC, out_n, thenX_n]
    refine wpc_reg ?_
    simp only [go_sem, binC, e4, hw1]
    refine ih (i + 1) _ (x + 1 + cntL n a6 + cntL n a7) (by omega) (by simp only [go_sem, binC, e0]) (by simp only [go_sem, binC]; exact congrArg _ (by simp only [Wr, IntKind.wrap_i64]; omega)) (by simp only [go_sem, binC]) ?_
    rw [← hx]
    simp only [cntT, cntL]
    omega
theorem iSize_ok {F : Nat → Option IFn} {f n : Nat} (hf : F f = some c_iSize) (g0 : CntOk F 74 n) : CntOk F f (n + 1) := by
  rintro H u l ⟨h0, a, rfl, h2⟩
  refine QC.mk hf rfl ?_
  refine seq_reg ?_
  simp only [go_sem, binC]
  refine seq_reg ?_
  simp only [go_sem, binC]
  refine seq_assoc (seq_reg ?_)
  simp only [go_sem, binC]
  refine seq_block (wpc_loop ?_)
  have hl : Wr (l.length : Int) = l.length := wrap_id (by omega) (by omega)
  suffices h : ∀ (k i : Nat) (e : Env) (x : Int) (M H' : Heap), H' = H ++ M → i + k = l.length → e 8 = .slice a l.length l.length → e 9 = .int .i64 l.length → e 3 = .int .i64 (Wr x) → e 10 = .int .i64 i → x + (cntL (n + 1) (l.drop i) - k) = cntL (n + 1) l → W F H.length _ e H' _ from
    h l.length 0 _ l.length [] _ (List.append_nil H).symm (by omega) (by simp only [go_sem, binC]) (by simp only [go_sem, binC]) (by simp only [go_sem, binC]; rw [hl]) (by simp only [go_sem, binC]; rfl) (by simp; omega)
  intro k
  induction k with
  | zero =>
    intro i e x M H' hH hi e8 e9 e3 e10 hx
    subst hH
    refine lp_step ?_
    refine seq_reg ?_
    simp only [go_sem, binC, e9, e10]
    refine seq_cond (t := false) (by simp only [go_sem, binC]; rw [decide_eq_false (by omega)]) ?_
    simp only [go_sem, binC]
    refine seq_exit ?_
    simp only [go_sem, binC, thenX_e, out_e, thenX_n]
    refine seq_reg ?_
    simp only [go_sem, binC, e3]
    refine wpc_ret ⟨Or.inr rfl, .int .i64 (Wr x), by simp only [go_sem, binC], ?_, rfl⟩
    rw [List.drop_of_length_le (by omega)] at hx
    rw [← hx]
    simp [cntL]
  | succ k ih =>
    intro i e x M H' hH hi e8 e9 e3 e10 hx
    subst hH
    have hil : i < l.length := by omega
    rcases h2 with h2 | ⟨b, o, hab, h2⟩
    · rw [h2] at hil; simp at hil
    subst hab
    obtain ⟨cs, h3, h4⟩ := h2 i hil
    rw [cnt_at l i hil] at hx
    generalize l[i] = y at h4 hx
    obtain ⟨a0, a1, ⟨a2, a3, a4⟩, a5, a6, a7⟩ := y
    obtain ⟨_, _, rfl, ⟨rfl, b0⟩, _, _, rfl, ⟨rfl, b1⟩, _, _, rfl, ⟨_, _, rfl, ⟨rfl, b2⟩, _, _, rfl, ⟨rfl, b3⟩, ⟨rfl, b4⟩⟩, _, _, rfl, ⟨rfl, b5⟩, _, _, rfl, ⟨v6, rfl, r6⟩, ⟨v7, rfl, r7⟩⟩ := h4
    have r6c := r6
    have r7c := r7
    obtain ⟨_, x6⟩ := r6.shape
    subst x6
    obtain ⟨_, x7⟩ := r7.shape
    subst x7
    have g3 := fun L => rng_gc (rng_sub (vw_app 0 H L) h3)
    rw [step_w] at g3
    simp only [go_sem, binC] at g3
    have hw1 : IntKind.i64.wrap ((i : Int) + 1) = ((i + 1 : Nat) : Int) := by rw [wrap_id (by omega) (by omega)]; omega
    refine lp_step ?_
    refine seq_reg ?_
    simp only [go_sem, binC, e9, e10]
    refine seq_cond (t := true) (by simp only [go_sem, binC]; rw [decide_eq_true (by omega)]) ?_
    simp only [go_sem, binC]
    refine seq_skip (seq_block (seq_reg ?_))
    simp only [go_sem, binC, e8, e10, g3]
    refine ⟨⟨by omega, by omega⟩, ?_⟩
    refine wpc_regD ?_
    simp only [go_sem, binC, e3]
    refine op_callQ (by simp only [go_sem, binC]; exact g0 _ _ _ (r6c.mono (vw_app 0 H _))) ?_
    simp only [go_sem, binC]
    refine op_callQ (by simp only [go_sem, binC]; exact g0 _ _ _ (r7c.mono (vw_app 0 H _))) ?_
    simp only [go_sem, binC, out_n, thenX_n]
    refine wpc_reg ?_
    simp only [go_sem, binC, e10, hw1]
    refine ih (i + 1) _ (x + (cntL n a6 + cntL n a7)) _ _ rfl (by omega) (by simp only [go_sem, binC, e8]) (by simp only [go_sem, binC, e9]) (by simp only [go_sem, binC]; exact congrArg _ (by simp only [Wr, IntKind.wrap_i64]; omega)) (by simp only [go_sem, binC]) ?_
    rw [← hx]
    simp only [cntT, cntL]
    omega
theorem sCount_z {F : Nat → Option IFn} {f : Nat} (hf : F f = some c_sCount) : CntOk F f 0 := by
  rintro H u l ⟨h0, a, rfl, h2⟩
  have hl : l = [] := by
    cases l with
    | nil => rfl
    | cons x r => exact x.elim
  subst hl
  refine QC.mk hf rfl ?_
  refine seq_reg ?_
  simp only [go_sem, binC]
  refine seq_reg ?_
  simp only [go_sem, binC]
  refine seq_assoc (seq_reg ?_)
  simp only [go_sem, binC]
  refine seq_block (wpc_loop (lp_step ?_))
  refine seq_assoc (seq_reg ?_)
  simp only [go_sem, binC]
  refine seq_cond (t := false) (by simp only [go_sem, binC]; rw [decide_eq_false (by simp)]) ?_
  simp only [go_sem, binC]
  refine seq_exit ?_
  simp only [go_sem, binC, thenX_e, out_e, thenX_n]
  refine seq_reg ?_
  simp only [go_sem, binC]
  refine wpc_ret ⟨Or.inr rfl, .int .i64 0, by simp only [go_sem, binC], ?_, rfl⟩
  rfl
theorem iSize_z {F : Nat → Option IFn} {f : Nat} (hf : F f = some c_iSize) : CntOk F f 0 := by
  rintro H u l ⟨h0, a, rfl, h2⟩
  have hl : l = [] := by
    cases l with
    | nil => rfl
    | cons x r => exact x.elim
  subst hl
  refine QC.mk hf rfl ?_
  refine seq_reg ?_
  simp only [go_sem, binC]
  refine seq_reg ?_
  simp only [go_sem, binC]
  refine seq_assoc (seq_reg ?_)
  simp only [go_sem, binC]
  refine seq_block (wpc_loop (lp_step ?_))
  refine seq_reg ?_
  simp only [go_sem, binC]
  refine seq_cond (t := false) (by simp only [go_sem, binC]; rw [decide_eq_false (by simp)]) ?_
  simp only [go_sem, binC]
  refine seq_exit ?_
  simp only [go_sem, binC, thenX_e, out_e, thenX_n]
  refine seq_reg ?_
  simp only [go_sem, binC]
  refine wpc_ret ⟨Or.inr rfl, .int .i64 0, by simp only [go_sem, binC]; rfl, ?_, rfl⟩
  rfl
theorem cnt_all {F : Nat → Option IFn} {f : Nat} (h : ∀ n, CntOk F f n → CntOk F f (n + 1)) (z : CntOk F f 0) : ∀ n, CntOk F f n := by
  intro n
  induction n with
  | zero => exact z
  | succ n ih => exact h n ih
end Go.Proofs.YtkmghcglmjehcaaI
end
section
/- Whether a program is in form, told twice. -/
set_option linter.unusedVariables false
set_option linter.unusedSimpArgs false
namespace Go.Proofs.YtkmghcglmjehcaaI
open Go Go.RowKit
def c_con : IFn := ⟨2, 9, [.t 4],
 .seq (.reg none [
    ⟨(some 4), none, .mov (.c (.bool false))⟩])
 (.seq (.reg none [
    ⟨(some 5), none, .mov (.t 0)⟩,
    ⟨(some 6), none, .mov (.t 1)⟩,
    ⟨(some 7), none, .call .q (.f 142) [(.t 5), (.t 6)]⟩,
    ⟨(some 8), none, .bin .geq (.t 7) (.c (.int .i64 0))⟩,
    ⟨(some 4), none, .mov (.t 8)⟩])
 (.ret))⟩
def c_idx : IFn := ⟨2, 19, [.t 4],
 .seq (.reg none [
    ⟨(some 4), none, .mov (.c (.int .i64 0))⟩])
 (.seq (.seq (.reg none [
     ⟨(some 6), none, .mov (.t 0)⟩,
     ⟨(some 7), none, .len (.t 6)⟩,
     ⟨(some 8), none, .mov (.c (.int .i64 0))⟩])
  (.block 0 (.loop (.seq (.reg none [
       ⟨(some 9), none, .bin .lss (.t 8) (.t 7)⟩])
    (.seq (.cond (.t 9) (.skip) (.exit 0))
    (.seq (.block 1 (.seq (.reg none [
         ⟨(some 10), none, .mov (.t 8)⟩,
         ⟨(some 5), none, .mov (.t 10)⟩])
      (.seq (.reg none [
         ⟨(some 11), none, .mov (.t 1)⟩,
         ⟨(some 12), none, .mov (.t 0)⟩,
         ⟨(some 13), none, .mov (.t 5)⟩,
         ⟨(some 14), none, .iad 2 (.t 12) (.t 13)⟩,
         ⟨(some 15), none, .load true 2 (.t 14)⟩,
         ⟨(some 16), none, .call .q (.t 11) [(.t 15)]⟩])
      (.cond (.t 16) (.seq (.reg none [
          ⟨(some 17), none, .mov (.t 5)⟩,
          ⟨(some 4), none, .mov (.t 17)⟩])
       (.ret)) (.skip)))))
    (.reg none [
      ⟨(some 18), none, .bin .add (.t 8) (.c (.int .i64 1))⟩,
      ⟨(some 8), none, .mov (.t 18)⟩])))))))
 (.seq (.reg none [
    ⟨(some 4), none, .mov (.c (.int .i64 (-1)))⟩])
 (.ret)))⟩
def c_p1 : IFn := ⟨1, 6, [.t 2],
 .seq (.reg none [
    ⟨(some 1), none, .box (.t 0)⟩,
    ⟨(some 2), none, .mov (.c (.bool false))⟩])
 (.seq (.reg none [
    ⟨(some 3), none, .load true 2 (.t 1)⟩,
    ⟨(some 4), none, .call .q (.f 65) [(.t 3)]⟩,
    ⟨(some 5), none, .un .not (.t 4)⟩,
    ⟨(some 2), none, .mov (.t 5)⟩])
 (.ret))⟩
def c_iProg : IFn := ⟨1, 25, [.t 2],
 .seq (.reg none [
    ⟨(some 1), none, .box (.t 0)⟩,
    ⟨(some 2), none, .mov (.c (.bool false))⟩])
 (.seq (.reg none [
    ⟨(some 3), none, .fad 0 (.t 1)⟩,
    ⟨(some 4), none, .load false 1 (.t 3)⟩,
    ⟨(some 5), none, .len (.t 4)⟩,
    ⟨(some 6), none, .bin .leq (.t 5) (.c (.int .i64 4))⟩,
    ⟨(some 7), none, .mov (.t 6)⟩,
    ⟨(some 8), (some (7, true)), .fad 0 (.t 1)⟩,
    ⟨(some 9), (some (7, true)), .load false 1 (.t 8)⟩,
    ⟨(some 10), (some (7, true)), .call .q (.f 107) [(.t 9), (.f 108)]⟩,
    ⟨(some 11), (some (7, true)), .un .not (.t 10)⟩,
    ⟨(some 12), none, .pick (.t 7) (.t 11) (.c (.bool false))⟩,
    ⟨(some 13), none, .mov (.t 12)⟩,
    ⟨(some 14), (some (13, true)), .load true 2 (.t 1)⟩,
    ⟨(some 15), (some (13, true)), .fad 1 (.t 1)⟩,
    ⟨(some 16), (some (13, true)), .load false 1 (.t 15)⟩,
    ⟨(some 17), (some (13, true)), .call .q (.f 109) [(.t 14), (.t 16), (.c (.int .i64 3))]⟩,
    ⟨(some 18), none, .pick (.t 13) (.t 17) (.c (.bool false))⟩,
    ⟨(some 19), none, .mov (.t 18)⟩,
    ⟨(some 20), (some (19, true)), .fad 1 (.t 1)⟩,
    ⟨(some 21), (some (19, true)), .load false 1 (.t 20)⟩,
    ⟨(some 22), (some (19, true)), .call .q (.f 74) [(.t 21)]⟩,
    ⟨(some 23), (some (19, true)), .bin .leq (.t 22) (.c (.int .i64 8))⟩,
    ⟨(some 24), none, .pick (.t 19) (.t 23) (.c (.bool false))⟩,
    ⟨(some 2), none, .mov (.t 24)⟩])
 (.ret))⟩
def c_sProg : IFn := ⟨1, 32, [.t 2],
 .seq (.reg none [
    ⟨(some 1), none, .box (.t 0)⟩,
    ⟨(some 2), none, .mov (.c (.bool false))⟩])
 (.seq (.seq (.reg none [
     ⟨(some 4), none, .fad 0 (.t 1)⟩,
     ⟨(some 5), none, .load false 1 (.t 4)⟩,
     ⟨(some 6), none, .len (.t 5)⟩,
     ⟨(some 7), none, .bin .gtr (.t 6) (.c (.int .i64 4))⟩])
  (.cond (.t 7) (.seq (.reg none [
      ⟨(some 2), none, .mov (.c (.bool false))⟩])
   (.ret)) (.skip)))
 (.seq (.seq (.reg none [
     ⟨(some 3), none, .mov (.c (.int .i64 0))⟩])
  (.block 0 (.loop (.seq (.seq (.reg none [
        ⟨(some 8), none, .mov (.t 3)⟩,
        ⟨(some 9), none, .fad 0 (.t 1)⟩,
        ⟨(some 10), none, .load false 1 (.t 9)⟩,
        ⟨(some 11), none, .len (.t 10)⟩,
        ⟨(some 12), none, .bin .lss (.t 8) (.t 11)⟩])
     (.cond (.t 12) (.skip) (.exit 0)))
    (.seq (.block 1 (.seq (.reg none [
         ⟨(some 15), none, .fad 0 (.t 1)⟩,
         ⟨(some 16), none, .load false 1 (.t 15)⟩,
         ⟨(some 17), none, .mov (.t 3)⟩,
         ⟨(some 18), none, .iad 2 (.t 16) (.t 17)⟩,
         ⟨(some 19), none, .load true 2 (.t 18)⟩,
         ⟨(some 20), none, .call .q (.f 25) [(.t 19)]⟩,
         ⟨(some 21), none, .un .not (.t 20)⟩])
      (.cond (.t 21) (.seq (.reg none [
          ⟨(some 2), none, .mov (.c (.bool false))⟩])
       (.ret)) (.skip))))
    (.reg none [
      ⟨(some 13), none, .mov (.t 3)⟩,
      ⟨(some 14), none, .bin .add (.t 13) (.c (.int .i64 1))⟩,
      ⟨(some 3), none, .mov (.t 14)⟩]))))))
 (.seq (.reg none [
    ⟨(some 22), none, .load true 2 (.t 1)⟩,
    ⟨(some 23), none, .fad 1 (.t 1)⟩,
    ⟨(some 24), none, .load false 1 (.t 23)⟩,
    ⟨(some 25), none, .call .q (.f 61) [(.t 22), (.t 24), (.c (.int .i64 3))]⟩,
    ⟨(some 26), none, .mov (.t 25)⟩,
    ⟨(some 27), (some (26, true)), .fad 1 (.t 1)⟩,
    ⟨(some 28), (some (26, true)), .load false 1 (.t 27)⟩,
    ⟨(some 29), (some (26, true)), .call .q (.f 62) [(.t 28)]⟩,
    ⟨(some 30), (some (26, true)), .bin .leq (.t 29) (.c (.int .i64 8))⟩,
    ⟨(some 31), none, .pick (.t 26) (.t 30) (.c (.bool false))⟩,
    ⟨(some 2), none, .mov (.t 31)⟩])
 (.ret))))⟩
def LabOk (F : Nat → Option IFn) (f : Nat) : Prop := ∀ (H : Heap) (v : Value) (a : Int × Int) (_ : Rd Co.p2 true (vw 0 H) v a), QC F f [v] H (.bool (labB a))
theorem idx_ok {F : Nat → Option IFn} {f : Nat} (hf : F f = some c_idx) (g0 : ∀ (H : Heap) (v : Value) (a : Int × Int) (_ : Rd Co.p2 true (vw 0 H) v a), QC F 108 [v] H (.bool (!labB a))) : ∀ (H : Heap) (u : Value) (l : List (Int × Int)), SlR Co.p2 (vw 0 H) u l → ∃ r : Int, QC F f [u, .func (.func 108) #[] #[]] H (.int .i64 r) ∧ (decide (0 ≤ r) = !l.all labB) := by
  rintro H u l ⟨h0, a, rfl, h2⟩
  suffices h : ∃ v, QC F f [.slice a l.length l.length, .func (.func 108) #[] #[]] H v ∧ ∃ r : Int, v = .int .i64 r ∧ (decide (0 ≤ r) = !l.all labB) from
    let ⟨v, h1, r, h3, h4⟩ := h; ⟨r, h3 ▸ h1, h4⟩
  refine QC.mkE hf rfl ?_
  refine seq_reg ?_
  simp only [go_sem, binC]
  refine seq_assoc (seq_reg ?_)
  simp only [go_sem, binC]
  refine seq_block (wpc_loop ?_)
  suffices h : ∀ (k i : Nat) (e : Env), i + k = l.length → e 0 = .slice a l.length l.length → e 1 = .func (.func 108) #[] #[] → e 6 = .slice a l.length l.length → e 7 = .int .i64 l.length → e 8 = .int .i64 i → l.all labB = (l.drop i).all labB → W F H.length _ e _ _ from
    h l.length 0 _ (by omega) (by simp only [go_sem, binC]) (by simp only [go_sem, binC]) (by simp only [go_sem, binC]) (by simp only [go_sem, binC]) (by simp only [go_sem, binC]; rfl) rfl
  intro k
  induction k with
  | zero =>
    intro i e hi e0 e1 e6 e7 e8 hall
    refine lp_step ?_
    refine seq_reg ?_
    simp only [go_sem, binC, e7, e8]
    refine seq_cond (t := false) (by simp only [go_sem, binC]; rw [decide_eq_false (by omega)]) ?_
    simp only [go_sem, binC]
    refine seq_exit ?_
    simp only [go_sem, binC, thenX_e, out_e, thenX_n]
    refine seq_reg ?_
    simp only [go_sem, binC]
    refine wpc_ret ⟨Or.inr rfl, .int .i64 (-1), by simp only [go_sem, binC], ⟨-1, rfl, ?_⟩, rfl⟩
    rw [hall, List.drop_of_length_le (by omega)]
    rfl
  | succ k ih =>
    intro i e hi e0 e1 e6 e7 e8 hall
    have hil : i < l.length := by omega
    rcases h2 with h2 | ⟨b, o, hab, h2⟩
    · rw [h2] at hil; simp at hil
    subst hab
    obtain ⟨cs, h3, h4⟩ := h2 i hil
    have g3 := rng_gc h3
    rw [show Co.p2.w = 2 from rfl] at g3
    have hw1 : IntKind.i64.wrap ((i : Int) + 1) = ((i + 1 : Nat) : Int) := by rw [wrap_id (by omega) (by omega)]; omega
    rw [List.drop_eq_getElem_cons hil, List.all_cons] at hall
    refine lp_step ?_
    refine seq_reg ?_
    simp only [go_sem, binC, e7, e8]
    refine seq_cond (t := true) (by simp only [go_sem, binC]; rw [decide_eq_true (by omega)]) ?_
    simp only [go_sem, binC]
    refine seq_skip (seq_block (seq_reg ?_))
    simp only [go_sem, binC, e8]
    refine seq_reg ?_
    simp only [go_sem, binC, e0, e1, e8, g3]
    refine ⟨⟨by omega, by omega⟩, ?_⟩
    refine op_callQc (g := 108) (first := #[]) (cap := #[]) (v := .bool (!labB l[i])) (by simp only [go_sem, binC, e1]) (by simp only [go_sem, binC]; exact g0 _ _ _ ⟨cs, rfl, h4⟩) ?_
    simp only [go_sem, binC]
    cases hb : labB l[i] with
    | true =>
      refine wpc_cond (t := false) (by simp only [go_sem, binC]) ?_
      simp only [go_sem, binC]
      refine wpc_skip ?_
      simp only [go_sem, binC, out_n, thenX_n]
      refine wpc_reg ?_
      simp only [go_sem, binC, e8, hw1]
      exact ih (i + 1) _ (by omega) (by simp only [go_sem, binC, e0]) (by simp only [go_sem, binC, e1]) (by simp only [go_sem, binC, e6]) (by simp only [go_sem, binC, e7]) (by simp only [go_sem, binC]) (by rw [hall, hb, Bool.true_and])
    | false =>
      refine wpc_cond (t := true) (by simp only [go_sem, binC]) ?_
      simp only [go_sem, binC]
      refine seq_reg ?_
      simp only [go_sem, binC]
      refine wpc_ret ?_
      simp only [go_sem, binC, out_r, thenX_r]
      refine ⟨Or.inr rfl, .int .i64 i, by simp only [go_sem, binC], ⟨i, rfl, ?_⟩, rfl⟩
      rw [hall, hb, Bool.false_and, decide_eq_true (by omega)]
      rfl
theorem con_ok {F : Nat → Option IFn} {f : Nat} (hf : F f = some c_con) (g0 : ∀ (H : Heap) (u : Value) (l : List (Int × Int)), SlR Co.p2 (vw 0 H) u l → ∃ r : Int, QC F 142 [u, .func (.func 108) #[] #[]] H (.int .i64 r) ∧ (decide (0 ≤ r) = !l.all labB)) :
    ∀ (H : Heap) (u : Value) (l : List (Int × Int)), SlR Co.p2 (vw 0 H) u l → QC F f [u, .func (.func 108) #[] #[]] H (.bool (!l.all labB)) := by
  intro H u l hu
  obtain ⟨r, h1, h2⟩ := g0 H u l hu
  refine QC.mk hf rfl ?_
  refine seq_reg ?_
  simp only [go_sem, binC]
  refine seq_reg ?_
  simp only [go_sem, binC]
  refine op_callQ (by simp only [go_sem, binC]; exact h1) ?_
  simp only [go_sem, binC]
  refine wpc_ret ⟨Or.inr rfl, .bool (decide (0 ≤ r)), by simp only [go_sem, binC], ?_, rfl⟩
  rw [← h2]
attribute [local irreducible] optP wpo wpp wpc binI Kc Kp wpOp thenX
theorem p1_ok {F : Nat → Option IFn} {f : Nat} (hf : F f = some c_p1) (g0 : LabOk F 65) : ∀ (H : Heap) (v : Value) (a : Int × Int) (_ : Rd Co.p2 true (vw 0 H) v a), QC F f [v] H (.bool (!labB a)) := by
  rintro H v ⟨a0, a1⟩ ⟨cs, hc, _, _, rfl, ⟨rfl, b0⟩, ⟨rfl, b1⟩⟩
  simp only [go_sem, binC, Option.some.injEq] at hc
  subst hc
  refine QC.mk hf rfl ?_
  repeat' (first
    | refine seq_assoc ?_
    | refine seq_reg ?_
    | refine seq_skip ?_
    | refine seq_regD ?_
    | refine seq_cond (t := true) rfl ?_
    | refine seq_cond (t := false) rfl ?_
    | refine wpc_cond (t := true) rfl ?_
    | refine wpc_cond (t := false) rfl ?_
    | refine seq_block ?_
    | refine wpc_block ?_
    | refine seq_ret ?_
    | refine wpc_ret ?_
    | refine wpc_reg ?_
    | refine wpc_regD ?_
    | refine wpc_skip ?_
    | refine fin_t rfl ?_
    | refine seq_exit ?_
    | refine wpc_exit ?_
    | refine cmp_lss (fun _ => ?_) (fun _ => ?_)
    | refine cmp_leq (fun _ => ?_) (fun _ => ?_)
    | refine cmp_gtr (fun _ => ?_) (fun _ => ?_)
    | refine cmp_geq (fun _ => ?_) (fun _ => ?_)
    | refine cmp_eql (fun _ => ?_) (fun _ => ?_)
    | refine cmp_neq (fun _ => ?_) (fun _ => ?_)
    | (refine op_callB (by simp only [go_sem, out_n, out_r, out_e, thenX_n, thenX_r, thenX_e]; exact g0 _ _ (a0, a1) ⟨_, rfl, _, _, rfl, ⟨rfl, b0⟩, ⟨rfl, b1⟩⟩) (fun _ => ?_) (fun _ => ?_))
    | simp only [go_sem, out_n, out_r, out_e, thenX_n, thenX_r, thenX_e]
    )
  all_goals (refine ⟨?_, rfl⟩; simp [*])
def progB (n : Nat) (p : TProg n) : Bool := decide ((p.1.length : Int) ≤ 4) && p.1.all labB && p.2.all (stepB p.1.length n 3) && decide (Wr (cntL n p.2) ≤ 8)
def ProgOk (F : Nat → Option IFn) (f : Nat) : Prop := ∀ (H : Heap) (n : Nat) (v : Value) (p : TProg n), Rd (Co.prog n) true (vw 0 H) v p → (Co.prog n).sm p → QC F f [v] H (.bool (progB n p))
theorem iProg_ok {F : Nat → Option IFn} {f : Nat} (hf : F f = some c_iProg) (g0 : ∀ (H : Heap) (u : Value) (l : List (Int × Int)), SlR Co.p2 (vw 0 H) u l → QC F 107 [u, .func (.func 108) #[] #[]] H (.bool (!l.all labB))) (g1 : ∀ n, StepsOk F 109 n) (g2 : ∀ n, CntOk F 74 n) : ProgOk F f := by
  rintro H m v ⟨p0, p1⟩ hp0 ⟨s0, s1⟩
  obtain ⟨pc, hpc, _, _, rfl, ⟨v0, rfl, r0⟩, ⟨v1, rfl, r1⟩⟩ := hp0
  have hp : ∀ L, Rd (Co.prog m) true (vw 0 (H ++ L)) (.agg #[v0, v1]) (p0, p1) := fun L => ⟨_, rfl, _, _, rfl, ⟨_, rfl, r0.mono (vw_app 0 H L)⟩, ⟨_, rfl, r1.mono (vw_app 0 H L)⟩⟩
  simp only [go_sem, binC, Option.some.injEq] at hpc
  subst hpc
  have r0c := r0
  have r1c := r1
  obtain ⟨_, x0⟩ := r0.shape
  subst x0
  obtain ⟨_, x1⟩ := r1.shape
  subst x1
  refine QC.mk hf rfl ?_
  repeat' (first
    | refine seq_assoc ?_
    | refine seq_reg ?_
    | refine seq_skip ?_
    | refine seq_regD ?_
    | refine seq_cond (t := true) rfl ?_
    | refine seq_cond (t := false) rfl ?_
    | refine wpc_cond (t := true) rfl ?_
    | refine wpc_cond (t := false) rfl ?_
    | refine seq_block ?_
    | refine wpc_block ?_
    | refine seq_ret ?_
    | refine wpc_ret ?_
    | refine wpc_reg ?_
    | refine wpc_regD ?_
    | refine wpc_skip ?_
    | refine fin_t rfl ?_
    | refine seq_exit ?_
    | refine wpc_exit ?_
    | refine cmp_lss (fun _ => ?_) (fun _ => ?_)
    | refine cmp_leq (fun _ => ?_) (fun _ => ?_)
    | refine cmp_gtr (fun _ => ?_) (fun _ => ?_)
    | refine cmp_geq (fun _ => ?_) (fun _ => ?_)
    | refine cmp_eql (fun _ => ?_) (fun _ => ?_)
    | refine cmp_neq (fun _ => ?_) (fun _ => ?_)
    | (refine op_callB (by simp only [go_sem, out_n, out_r, out_e, thenX_n, thenX_r, thenX_e]; exact g0 _ _ _ (r0c.mono (vw_app 0 H _))) (fun _ => ?_) (fun _ => ?_))
    | (refine op_callB (by simp only [go_sem, out_n, out_r, out_e, thenX_n, thenX_r, thenX_e]; exact g1 _ _ m _ _ (p0, p1) p1 3 (hp _) (r1c.mono (vw_app 0 H _)) s1 (by omega) (by omega)) (fun _ => ?_) (fun _ => ?_))
    | (refine op_callQ (by simp only [go_sem, out_n, out_r, out_e, thenX_n, thenX_r, thenX_e]; exact g2 _ _ _ _ (r1c.mono (vw_app 0 H _))) ?_)
    | simp only [go_sem, out_n, out_r, out_e, thenX_n, thenX_r, thenX_e]
    )
  all_goals (refine ⟨congrArg _ ?_, rfl⟩; simp only [progB])
  all_goals (generalize List.all p0 labB = A at *; generalize List.all p1 (stepB p0.length m 3) = B at *)
  all_goals simp_all
  all_goals (intros; omega)
theorem sProg_ok {F : Nat → Option IFn} {f : Nat} (hf : F f = some c_sProg) (g0 : LabOk F 25) (g1 : ∀ n, StepsOk F 61 n) (g2 : ∀ n, CntOk F 62 n) : ProgOk F f := by
  rintro H m v ⟨p0, p1⟩ hp0 ⟨s0, s1⟩
  obtain ⟨pc, hpc, _, _, rfl, ⟨v0, rfl, r0⟩, ⟨v1, rfl, r1⟩⟩ := hp0
  have hp : ∀ L, Rd (Co.prog m) true (vw 0 (H ++ L)) (.agg #[v0, v1]) (p0, p1) := fun L => ⟨_, rfl, _, _, rfl, ⟨_, rfl, r0.mono (vw_app 0 H L)⟩, ⟨_, rfl, r1.mono (vw_app 0 H L)⟩⟩
  simp only [go_sem, binC, Option.some.injEq] at hpc
  subst hpc
  have r0c := r0
  have r1c := r1
  obtain ⟨h0, a, rfl, h2⟩ := r0
  obtain ⟨_, x1⟩ := r1.shape
  subst x1
  simp only at h0 h2
  refine QC.mk hf rfl ?_
  refine seq_reg ?_
  simp only [go_sem, binC]
  refine seq_assoc (seq_reg ?_)
  simp only [go_sem, binC]
  by_cases hn : (p0.length : Int) ≤ 4
  · refine seq_cond (t := false) (by simp only [go_sem, binC]; rw [decide_eq_false (by omega)]) ?_
    simp only [go_sem, binC]
    refine seq_skip (seq_assoc (seq_reg ?_))
    simp only [go_sem, binC]
    refine seq_block (wpc_loop ?_)
    suffices h : ∀ (k i : Nat) (e : Env), i + k = p0.length → e 1 = ptr H.length 0 → e 3 = .int .i64 i → p0.all labB = (p0.drop i).all labB → W F H.length _ e _ _ from
      h p0.length 0 _ (by omega) (by simp only [go_sem, binC]) (by simp only [go_sem, binC]; rfl) rfl
    intro k
    induction k with
    | zero =>
      intro i e hi e1 e3 hall
      rw [List.drop_of_length_le (by omega), List.all_nil] at hall
      refine lp_step ?_
      refine seq_assoc (seq_reg ?_)
      simp only [go_sem, binC, e1, e3]
      refine seq_cond (t := false) (by simp only [go_sem, binC]; rw [decide_eq_false (by omega)]) ?_
      simp only [go_sem, binC]
      refine seq_exit ?_
      simp only [go_sem, binC, thenX_e, out_e, thenX_n]
      repeat' (first
        | refine seq_assoc ?_
        | refine seq_reg ?_
        | refine seq_skip ?_
        | refine seq_regD ?_
        | refine seq_cond (t := true) rfl ?_
        | refine seq_cond (t := false) rfl ?_
        | refine wpc_cond (t := true) rfl ?_
        | refine wpc_cond (t := false) rfl ?_
        | refine seq_block ?_
        | refine wpc_block ?_
        | refine seq_ret ?_
        | refine wpc_ret ?_
        | refine wpc_reg ?_
        | refine wpc_regD ?_
        | refine wpc_skip ?_
        | refine fin_t rfl ?_
        | refine seq_exit ?_
        | refine wpc_exit ?_
        | refine cmp_lss (fun _ => ?_) (fun _ => ?_)
        | refine cmp_leq (fun _ => ?_) (fun _ => ?_)
        | refine cmp_gtr (fun _ => ?_) (fun _ => ?_)
        | refine cmp_geq (fun _ => ?_) (fun _ => ?_)
        | refine cmp_eql (fun _ => ?_) (fun _ => ?_)
        | refine cmp_neq (fun _ => ?_) (fun _ => ?_)
        | (refine op_callB (by simp only [go_sem, out_n, out_r, out_e, thenX_n, thenX_r, thenX_e, e1]; exact g1 _ _ m _ _ (p0, p1) p1 3 (hp _) (r1c.mono (vw_app 0 H _)) s1 (by omega) (by omega)) (fun _ => ?_) (fun _ => ?_))
        | (refine op_callQ (by simp only [go_sem, out_n, out_r, out_e, thenX_n, thenX_r, thenX_e, e1]; exact g2 _ _ _ _ (r1c.mono (vw_app 0 H _))) ?_)
        | simp only [go_sem, out_n, out_r, out_e, thenX_n, thenX_r, thenX_e, e1]
        )
      all_goals (refine ⟨congrArg _ ?_, rfl⟩; simp only [progB])
      all_goals (generalize List.all p0 labB = A at *; generalize List.all p1 (stepB p0.length m 3) = B at *)
      all_goals simp_all
    | succ k ih =>
      intro i e hi e1 e3 hall
      have hil : i < p0.length := by omega
      rcases h2 with h2 | ⟨b, o, hab, h2⟩
      · rw [h2] at hil; simp at hil
      subst hab
      obtain ⟨cs, h3, h4⟩ := h2 i hil
      have g3 := fun L => rng_gc (rng_sub (vw_app 0 H L) h3)
      rw [show Co.p2.w = 2 from rfl] at g3
      have hw1 : IntKind.i64.wrap ((i : Int) + 1) = ((i + 1 : Nat) : Int) := by rw [wrap_id (by omega) (by omega)]; omega
      rw [List.drop_eq_getElem_cons hil, List.all_cons] at hall
      refine lp_step ?_
      refine seq_assoc (seq_reg ?_)
      simp only [go_sem, binC, e1, e3]
      refine seq_cond (t := true) (by simp only [go_sem, binC]; rw [decide_eq_true (by omega)]) ?_
      simp only [go_sem, binC]
      refine seq_skip (seq_block (seq_reg ?_))
      simp only [go_sem, binC, e1, e3, g3]
      refine ⟨⟨by omega, by omega⟩, ?_⟩
      refine op_callB (by simp only [go_sem, binC]; exact g0 _ _ p0[i] ⟨cs, rfl, Co.p2.mono (vw_app 0 H _) h4⟩) (fun hb => ?_) (fun hb => ?_)
      · simp only [go_sem, binC]
        refine wpc_cond (t := false) (by simp only [go_sem, binC]) ?_
        simp only [go_sem, binC]
        refine wpc_skip ?_
        simp only [go_sem, binC, out_n, thenX_n]
        refine wpc_reg ?_
        simp only [go_sem, binC, e3, hw1, thenX_n]
        exact ih (i + 1) _ (by omega) (by simp only [go_sem, binC, e1]) (by simp only [go_sem, binC]) (by rw [hall, hb, Bool.true_and])
      · simp only [go_sem, binC]
        refine wpc_cond (t := true) (by simp only [go_sem, binC]) ?_
        simp only [go_sem, binC]
        refine seq_reg ?_
        simp only [go_sem, binC]
        refine wpc_ret ?_
        simp only [go_sem, binC, out_r, thenX_r]
        refine ⟨Or.inr rfl, .bool false, by simp only [go_sem, binC], ?_, rfl⟩
        have hA : p0.all labB = false := by rw [hall, hb, Bool.false_and]
        simp only [progB, hA, Bool.and_false, Bool.false_and]
  · refine seq_cond (t := true) (by simp only [go_sem, binC]; rw [decide_eq_true (by omega)]) ?_
    simp only [go_sem, binC]
    refine seq_assoc (seq_reg ?_)
    simp only [go_sem, binC]
    refine seq_ret ⟨Or.inr rfl, .bool false, by simp only [go_sem, binC], ?_, rfl⟩
    simp only [progB, decide_eq_false hn, Bool.false_and]
end Go.Proofs.YtkmghcglmjehcaaI
end
end
section
/- Texts of this proof, merged: D7, Q7, Q8, Q9, D8, D9, D10, D11. -/
section
/- Programs that are drawn. -/
set_option linter.unusedVariables false
set_option linter.unusedSimpArgs false
namespace Go.Proofs.YtkmghcglmjehcaaI
open Go Go.RowKit
end Go.Proofs.YtkmghcglmjehcaaI
end
section
/- Sets of hosts: who is in, and what lies in what. -/
set_option linter.unusedVariables false
set_option linter.unusedSimpArgs false
namespace Go.Proofs.YtkmghcglmjehcaaI
open Go Go.RowKit
theorem shr_rule {k : IntKind} {x y : Int} {K : Value → Prop} (h0 : 0 ≤ y) (h : K (.int k (x.fdiv (2 ^ (min y.toNat k.bits))))) : optP (binI .shr k x y) K := by
  unfold optP binI
  simp only
  rw [if_neg (by omega)]
  exact h
theorem shl_rule {k : IntKind} {x y : Int} {K : Value → Prop} (h0 : 0 ≤ y) (h : K (.int k (k.wrap (x * 2 ^ (min y.toNat k.bits))))) : optP (binI .shl k x y) K := by
  unfold optP binI
  simp only
  rw [if_neg (by omega)]
  exact h
theorem rem_rule {k : IntKind} {x : Int} {K : Value → Prop} (h : K (.int k (x.tmod 2))) : optP (binI .rem k x 2) K := by
  unfold optP binI
  simpa using h
theorem and_rule {k : IntKind} {x y : Int} {K : Value → Prop} (h : K (.int k (k.wrap ((BitVec.ofInt k.bits x &&& BitVec.ofInt k.bits y).toNat : Nat)))) : optP (binI .and k x y) K := h
theorem or_rule {k : IntKind} {x y : Int} {K : Value → Prop} (h : K (.int k (k.wrap ((BitVec.ofInt k.bits x ||| BitVec.ofInt k.bits y).toNat : Nat)))) : optP (binI .or k x y) K := h
theorem andNot_rule {k : IntKind} {x y : Int} {K : Value → Prop} (h : K (.int k (k.wrap ((BitVec.ofInt k.bits x &&& ~~~ BitVec.ofInt k.bits y).toNat : Nat)))) : optP (binI .andNot k x y) K := h
attribute [local irreducible] optP wpo wpp wpc binI Kc Kp wpOp thenX
def hasB (s h : Int) : Bool := inB h 0 2 && decide ((s / 2 ^ h.toNat) % 2 = 1)
theorem has_and {s h : Int} (h1 : 0 ≤ s) (h2 : s ≤ 7) (h3 : 0 ≤ h) (h4 : h ≤ 2) : (IntKind.i64.wrap ((BitVec.ofInt 64 (s.fdiv (2 ^ (min h.toNat 64))) &&& BitVec.ofInt 64 1).toNat : Nat) = 1) ↔ hasB s h = true := by
  have hs : s = 0 ∨ s = 1 ∨ s = 2 ∨ s = 3 ∨ s = 4 ∨ s = 5 ∨ s = 6 ∨ s = 7 := by omega
  have hh : h = 0 ∨ h = 1 ∨ h = 2 := by omega
  rcases hs with rfl | rfl | rfl | rfl | rfl | rfl | rfl | rfl <;> rcases hh with rfl | rfl | rfl <;> decide
theorem has_rem {s h : Int} (h1 : 0 ≤ s) (h2 : s ≤ 7) (h3 : 0 ≤ h) (h4 : h ≤ 2) : ((s.fdiv (2 ^ (min h.toNat 64))).tmod 2 = 1) ↔ hasB s h = true := by
  have hs : s = 0 ∨ s = 1 ∨ s = 2 ∨ s = 3 ∨ s = 4 ∨ s = 5 ∨ s = 6 ∨ s = 7 := by omega
  have hh : h = 0 ∨ h = 1 ∨ h = 2 := by omega
  rcases hs with rfl | rfl | rfl | rfl | rfl | rfl | rfl | rfl <;> rcases hh with rfl | rfl | rfl <;> decide
def HasOk (F : Nat → Option IFn) (f : Nat) : Prop := ∀ (H : Heap) (s h : Int), 0 ≤ s → s ≤ 7 → QC F f [.int .i64 s, .int .i64 h] H (.bool (hasB s h))
theorem inB_iff {a l h : Int} : inB a l h = true ↔ l ≤ a ∧ a ≤ h := by simp [inB]
theorem hasB_in {s h : Int} (hh : hasB s h = true) : 0 ≤ h ∧ h ≤ 2 := by
  simp only [hasB, Bool.and_eq_true, inB_iff] at hh; exact hh.1
theorem iHas_ok {F : Nat → Option IFn} {f : Nat} (hf : F f = some c_iHas) (g0 : ∀ (H : Heap) (a : Int), QC F 89 [.int .i64 a] H (.bool (inB a 0 2))) : HasOk F f := by
  intro H s h h1 h2
  refine QC.mk hf rfl ?_
  by_cases hh : 0 ≤ h ∧ h ≤ 2
  · obtain ⟨hh0, hh2⟩ := hh
    have hk := has_and h1 h2 hh0 hh2
    repeat' (first
      | refine seq_assoc ?_
      | refine seq_reg ?_
      | refine seq_skip ?_
      | refine seq_regD ?_
      | refine seq_cond (t := true) rfl ?_
      | refine seq_cond (t := false) rfl ?_
      | refine wpc_cond (t := true) rfl ?_
      | refine wpc_cond (t := false) rfl ?_
      | refine seq_block ?_
      | refine wpc_block ?_
      | refine seq_ret ?_
      | refine wpc_ret ?_
      | refine wpc_reg ?_
      | refine wpc_regD ?_
      | refine wpc_skip ?_
      | refine fin_t rfl ?_
      | refine seq_exit ?_
      | refine wpc_exit ?_
      | refine shr_rule (by omega) ?_
      | refine rem_rule ?_
      | refine and_rule ?_
      | refine or_rule ?_
      | refine andNot_rule ?_
      | refine shl_rule (by omega) ?_
      | refine cmp_lss (fun _ => ?_) (fun _ => ?_)
      | refine cmp_leq (fun _ => ?_) (fun _ => ?_)
      | refine cmp_gtr (fun _ => ?_) (fun _ => ?_)
      | refine cmp_geq (fun _ => ?_) (fun _ => ?_)
      | refine cmp_eql (fun _ => ?_) (fun _ => ?_)
      | refine cmp_neq (fun _ => ?_) (fun _ => ?_)
      | (refine op_callB (by simp only [go_sem, out_n, out_r, out_e, thenX_n, thenX_r, thenX_e, IntKind.bits]; exact g0 _ _) (fun _ => ?_) (fun _ => ?_))
      | simp only [go_sem, out_n, out_r, out_e, thenX_n, thenX_r, thenX_e, IntKind.bits]
      )
    all_goals refine ⟨congrArg _ ?_, rfl⟩
    all_goals first | (rename_i _ he; exact (hk.1 he).symm) | (rename_i _ he; symm; rw [Bool.eq_false_iff]; exact fun h' => he (hk.2 h')) | (rename_i he; exact absurd (inB_iff.2 ⟨hh0, hh2⟩) (by rw [he]; simp))
  · have hB : hasB s h = false := by rw [Bool.eq_false_iff]; exact fun h' => hh (hasB_in h')
    repeat' (first
      | refine seq_assoc ?_
      | refine seq_reg ?_
      | refine seq_skip ?_
      | refine seq_regD ?_
      | refine seq_cond (t := true) rfl ?_
      | refine seq_cond (t := false) rfl ?_
      | refine wpc_cond (t := true) rfl ?_
      | refine wpc_cond (t := false) rfl ?_
      | refine seq_block ?_
      | refine wpc_block ?_
      | refine seq_ret ?_
      | refine wpc_ret ?_
      | refine wpc_reg ?_
      | refine wpc_regD ?_
      | refine wpc_skip ?_
      | refine fin_t rfl ?_
      | refine seq_exit ?_
      | refine wpc_exit ?_
      | refine shr_rule (by first | omega | (have := inB_iff.1 ‹inB h 0 2 = true›; omega)) ?_
      | refine rem_rule ?_
      | refine and_rule ?_
      | refine or_rule ?_
      | refine andNot_rule ?_
      | refine shl_rule (by omega) ?_
      | refine cmp_lss (fun _ => ?_) (fun _ => ?_)
      | refine cmp_leq (fun _ => ?_) (fun _ => ?_)
      | refine cmp_gtr (fun _ => ?_) (fun _ => ?_)
      | refine cmp_geq (fun _ => ?_) (fun _ => ?_)
      | refine cmp_eql (fun _ => ?_) (fun _ => ?_)
      | refine cmp_neq (fun _ => ?_) (fun _ => ?_)
      | (refine op_callB (by simp only [go_sem, out_n, out_r, out_e, thenX_n, thenX_r, thenX_e, IntKind.bits]; exact g0 _ _) (fun _ => ?_) (fun _ => ?_))
      | simp only [go_sem, out_n, out_r, out_e, thenX_n, thenX_r, thenX_e, IntKind.bits]
      )
    all_goals refine ⟨congrArg _ ?_, rfl⟩
    all_goals first | (exact hB.symm) | (exact absurd (inB_iff.1 ‹inB h 0 2 = true›) hh)
theorem sHas_ok {F : Nat → Option IFn} {f : Nat} (hf : F f = some c_sHas) : HasOk F f := by
  intro H s h h1 h2
  refine QC.mk hf rfl ?_
  by_cases hh : 0 ≤ h ∧ h ≤ 2
  · obtain ⟨hh0, hh2⟩ := hh
    have hk := has_rem h1 h2 hh0 hh2
    repeat' (first
      | refine seq_assoc ?_
      | refine seq_reg ?_
      | refine seq_skip ?_
      | refine seq_regD ?_
      | refine seq_cond (t := true) rfl ?_
      | refine seq_cond (t := false) rfl ?_
      | refine wpc_cond (t := true) rfl ?_
      | refine wpc_cond (t := false) rfl ?_
      | refine seq_block ?_
      | refine wpc_block ?_
      | refine seq_ret ?_
      | refine wpc_ret ?_
      | refine wpc_reg ?_
      | refine wpc_regD ?_
      | refine wpc_skip ?_
      | refine fin_t rfl ?_
      | refine seq_exit ?_
      | refine wpc_exit ?_
      | refine shr_rule (by omega) ?_
      | refine rem_rule ?_
      | refine and_rule ?_
      | refine or_rule ?_
      | refine andNot_rule ?_
      | refine shl_rule (by omega) ?_
      | refine cmp_lss (fun _ => ?_) (fun _ => ?_)
      | refine cmp_leq (fun _ => ?_) (fun _ => ?_)
      | refine cmp_gtr (fun _ => ?_) (fun _ => ?_)
      | refine cmp_geq (fun _ => ?_) (fun _ => ?_)
      | refine cmp_eql (fun _ => ?_) (fun _ => ?_)
      | refine cmp_neq (fun _ => ?_) (fun _ => ?_)
      | simp only [go_sem, out_n, out_r, out_e, thenX_n, thenX_r, thenX_e, IntKind.bits]
      )
    all_goals refine ⟨congrArg _ ?_, rfl⟩
    all_goals first | (rename_i _ he; exact (hk.1 he).symm) | (rename_i _ he; symm; rw [Bool.eq_false_iff]; exact fun h' => he (hk.2 h')) | omega
  · have hB : hasB s h = false := by rw [Bool.eq_false_iff]; exact fun h' => hh (hasB_in h')
    repeat' (first
      | refine seq_assoc ?_
      | refine seq_reg ?_
      | refine seq_skip ?_
      | refine seq_regD ?_
      | refine seq_cond (t := true) rfl ?_
      | refine seq_cond (t := false) rfl ?_
      | refine wpc_cond (t := true) rfl ?_
      | refine wpc_cond (t := false) rfl ?_
      | refine seq_block ?_
      | refine wpc_block ?_
      | refine seq_ret ?_
      | refine wpc_ret ?_
      | refine wpc_reg ?_
      | refine wpc_regD ?_
      | refine wpc_skip ?_
      | refine fin_t rfl ?_
      | refine seq_exit ?_
      | refine wpc_exit ?_
      | refine shr_rule (by omega) ?_
      | refine rem_rule ?_
      | refine and_rule ?_
      | refine or_rule ?_
      | refine andNot_rule ?_
      | refine shl_rule (by omega) ?_
      | refine cmp_lss (fun _ => ?_) (fun _ => ?_)
      | refine cmp_leq (fun _ => ?_) (fun _ => ?_)
      | refine cmp_gtr (fun _ => ?_) (fun _ => ?_)
      | refine cmp_geq (fun _ => ?_) (fun _ => ?_)
      | refine cmp_eql (fun _ => ?_) (fun _ => ?_)
      | refine cmp_neq (fun _ => ?_) (fun _ => ?_)
      | simp only [go_sem, out_n, out_r, out_e, thenX_n, thenX_r, thenX_e, IntKind.bits]
      )
    all_goals refine ⟨congrArg _ ?_, rfl⟩
    all_goals first | (exact hB.symm) | omega
end Go.Proofs.YtkmghcglmjehcaaI
end
section
/- Trust: whether a list of trust is one, and who trusts a host. -/
set_option linter.unusedVariables false
set_option linter.unusedSimpArgs false
namespace Go.Proofs.YtkmghcglmjehcaaI
open Go Go.RowKit
end Go.Proofs.YtkmghcglmjehcaaI
end
section
/- Who trusts a host. -/
set_option linter.unusedVariables false
set_option linter.unusedSimpArgs false
namespace Go.Proofs.YtkmghcglmjehcaaI
open Go Go.RowKit
end Go.Proofs.YtkmghcglmjehcaaI
end
section
/- Labels of values, and whether a step is fine (the reference's). -/
set_option linter.unusedVariables false
set_option linter.unusedSimpArgs false
namespace Go.Proofs.YtkmghcglmjehcaaI
open Go Go.RowKit
def bothS (a b : Int) : Nat → Int
  | 0 => 0
  | i + 1 => bothS a b i + (if (hasB a i && hasB b i) = true then 2 ^ i else 0)
/-! labels -/
def RgI (a : Int) : Prop := -9223372036854775808 ≤ a ∧ a ≤ 9223372036854775807
theorem labB_bd {x y : Int} (h : labB (x, y) = true) : (0 ≤ x ∧ x ≤ 7) ∧ (0 ≤ y ∧ y ≤ 7) := by simpa [labB, inB] using h
def lboth (a b : Int × Int) : Int × Int := if (labB a && labB b) = true then (bothS a.1 b.1 3, bothS a.2 b.2 3) else (0, 0)
/-- The label of a value. -/
def valL (ls : List (Int × Int)) (v : Int × Int × Int) : Int × Int :=
  let o1 := if v.1 = 1 then (7, 7) else lboth (7, 7) (ls.getD v.2.1.toNat (0, 0))
  if v.1 = 3 ∨ v.1 = 4 then lboth o1 (ls.getD v.2.2.toNat (0, 0)) else o1
end Go.Proofs.YtkmghcglmjehcaaI
end
section
/- Whether a step is fine; all steps in a row (the reference's). -/
set_option linter.unusedVariables false
set_option linter.unusedSimpArgs false
namespace Go.Proofs.YtkmghcglmjehcaaI
open Go Go.RowKit
/-- A step, but for what is in it. -/
abbrev Shal := Int × Int × (Int × Int × Int) × Int
/-! ### Appending a list -/
def CA (H H' : Heap) : Prop := ∀ (b : Nat) (k : Blk), H[b]? = some k → ∃ k' : Blk, H'[b]? = some k' ∧ k'.cells = k.cells
theorem CA.of {H H' : Heap} (h : AgX [] H H') : CA H H' := fun b k hk => ⟨k, h.get hk (by simp), rfl⟩
theorem CA.vw {H H' : Heap} (h : CA H H') (lo : Nat) : Sub (vw lo H) (vw lo H') := by
  intro b cs hb
  unfold Go.Proofs.YtkmghcglmjehcaaI.vw at hb ⊢
  split at hb
  · rename_i h1
    rw [if_pos h1]
    cases hk : H[b]? with
    | none => simp [hk] at hb
    | some k =>
      obtain ⟨k', h2, h3⟩ := h b k hk
      rw [hk] at hb
      rw [h2]
      simp only [Option.map_some, Option.some.injEq] at hb ⊢
      rw [h3, hb]
  · cases hb
end Go.Proofs.YtkmghcglmjehcaaI
end
section
/- All steps in a row, and their labels (the reference's). -/
set_option linter.unusedVariables false
set_option linter.unusedSimpArgs false
namespace Go.Proofs.YtkmghcglmjehcaaI
open Go Go.RowKit
def allT : (n : Nat) → TStep n → List Shal
  | 0, _ => []
  | n + 1, (k, x, v, h, th, el) => (k, x, v, h) :: ((th.map (allT n)).flatten ++ (el.map (allT n)).flatten)
def allL (n : Nat) (l : List (TStep n)) : List Shal := (l.map (allT n)).flatten
theorem allT_succ (n : Nat) (k x : Int) (v : Int × Int × Int) (h : Int) (th el : List (TStep n)) : allT (n + 1) (k, x, v, h, th, el) = (k, x, v, h) :: (allL n th ++ allL n el) := rfl
/-- One step of a list, read. -/
theorem step_at {n : Nat} {H : Heap} {v : Value} {l : List (TStep (n + 1))} (h : SlR (Co.step (n + 1)) (vw 0 H) v l) {i : Nat} (hi : i < l.length) : ∃ (b o : Nat) (k x a bb c g : Int) (tv ev : Value) (tl el : List (TStep n)), v = .slice (some ⟨b, o, none⟩) l.length l.length ∧ l[i] = (k, x, (a, bb, c), g, tl, el) ∧
    (RgI k ∧ RgI x ∧ RgI a ∧ RgI bb ∧ RgI c ∧ RgI g) ∧ one tv = true ∧ one ev = true ∧ (∀ H', Sub (vw 0 H) (vw 0 H') → getCells H' b (o + i * 8) 8 = some [.int .i64 k, .int .i64 x, .int .i64 a, .int .i64 bb, .int .i64 c, .int .i64 g, tv, ev]) ∧ SlR (Co.step n) (vw 0 H) tv tl ∧ SlR (Co.step n) (vw 0 H) ev el := by
  obtain ⟨_, a, rfl, h2⟩ := h
  obtain ⟨b, o, rfl, h3⟩ := h2.resolve_left (fun h => by rw [h] at hi; simp at hi)
  obtain ⟨cs, h4, h5⟩ := h3 i hi
  generalize hs : l[i] = s at h5
  obtain ⟨k, x, ⟨a, bb, c⟩, g, tl, el⟩ := s
  obtain ⟨_, _, rfl, ⟨rfl, r1⟩, _, _, rfl, ⟨rfl, r2⟩, _, _, rfl, ⟨_, _, rfl, ⟨rfl, r3⟩, _, _, rfl, ⟨rfl, r4⟩, ⟨rfl, r5⟩⟩, _, _, rfl, ⟨rfl, r6⟩, _, _, rfl, ⟨tv, rfl, h6⟩, ⟨ev, rfl, h7⟩⟩ := h5
  have o6 : one tv = true := by obtain ⟨_, _, rfl, _⟩ := h6; rfl
  have o7 : one ev = true := by obtain ⟨_, _, rfl, _⟩ := h7; rfl
  exact ⟨b, o, k, x, a, bb, c, g, tv, ev, tl, el, rfl, rfl, ⟨r1, r2, r3, r4, r5, r6⟩, o6, o7, fun H' hs => rng_gc (rng_sub hs h4), h6, h7⟩
theorem agx_sub {H H' : Heap} (h : AgX [] H H') : Sub (vw 0 H) (vw 0 H') := (CA.of h).vw 0
end Go.Proofs.YtkmghcglmjehcaaI
end
section
/- Labels of steps, and the first step that is not fine (the reference's). -/
set_option linter.unusedVariables false
set_option linter.unusedSimpArgs false
namespace Go.Proofs.YtkmghcglmjehcaaI
open Go Go.RowKit
theorem cnt_len : ∀ (n : Nat) (s : TStep n), cntT n s = (allT n s).length
  | 0, s => s.elim
  | n + 1, (k, x, v, h, th, el) => by
    have hl : ∀ l : List (TStep n), (l.map (cntT n)).sum = ((l.map (allT n)).flatten.length : Int) := by
      intro l
      induction l with
      | nil => rfl
      | cons a l ih => rw [List.map_cons, List.sum_cons, List.map_cons, List.flatten_cons, List.length_append, cnt_len n a, ih]; omega
    simp only [cntT, allT, hl, List.length_cons, List.length_append]
    omega
theorem cntL_len (n : Nat) (l : List (TStep n)) : cntL n l = (allL n l).length := by
  unfold cntL allL
  induction l with
  | nil => rfl
  | cons a l ih => rw [List.map_cons, List.sum_cons, List.map_cons, List.flatten_cons, List.length_append, cnt_len n a, ih]; omega
def BB : Nat → Int
  | 0 => 0
  | d + 1 => 1 + 2097152 * BB d
theorem BB_pos : ∀ d, 0 ≤ BB d
  | 0 => Int.le_refl _
  | d + 1 => by have := BB_pos d; simp only [BB]; omega
theorem sum_leI {α : Type} (f : α → Int) (M : Int) : ∀ l : List α, (∀ a ∈ l, f a ≤ M) → (l.map f).sum ≤ (l.length : Int) * M
  | [], _ => by simp
  | a :: l, h => by
    rw [List.map_cons, List.sum_cons, List.length_cons, Int.natCast_add, Int.add_mul]
    have h1 := sum_leI f M l fun b hb => h b (List.mem_cons_of_mem _ hb)
    have h2 := h a List.mem_cons_self
    simp only [Int.natCast_one, Int.one_mul]
    omega
theorem cnt_bd (k : Nat) : ∀ (d n : Nat) (s : TStep n), stepB k n d s = true → (Co.step n).sm s → cntT n s ≤ BB d
  | _, 0, s, _, _ => s.elim
  | 0, n + 1, (kd, vr, v, ho, th, el), h, _ => by simp [stepB] at h
  | d + 1, n + 1, (kd, vr, v, ho, th, el), h, hs => by
    obtain ⟨_, _, _, _, ⟨h1, h2⟩, h3, h4⟩ := hs
    have hp := BB_pos d
    have hl : ∀ l : List (TStep n), l.length ≤ 1048576 → (∀ a ∈ l, cntT n a ≤ BB d) → (l.map (cntT n)).sum ≤ 1048576 * BB d := fun l hl ha => by
      have h5 := sum_leI (cntT n) (BB d) l ha
      have h6 : (l.length : Int) * BB d ≤ 1048576 * BB d := Int.mul_le_mul_of_nonneg_right (by omega) hp
      omega
    have hz : ((th.length : Int) + el.length = 0) → cntT (n + 1) (kd, vr, v, ho, th, el) ≤ BB (d + 1) := fun h0 => by
      obtain rfl : th = [] := List.eq_nil_of_length_eq_zero (by omega)
      obtain rfl : el = [] := List.eq_nil_of_length_eq_zero (by omega)
      simp only [cntT, BB, List.map_nil, List.sum_nil]
      omega
    have hd : ((d + 1 : Nat) : Int) - 1 = (d : Int) := by omega
    simp only [stepB, hd, Bool.and_eq_true] at h
    obtain ⟨_, h⟩ := h
    split at h
    · simp only [Bool.and_eq_true, decide_eq_true_eq] at h
      exact hz h.2
    · split at h
      · simp only [Bool.and_eq_true, decide_eq_true_eq] at h
        exact hz h.2
      · split at h
        · simp only [Bool.and_eq_true, List.all_eq_true] at h
          have a1 := hl th h1 fun a ha => cnt_bd k d n a (h.1.2 a ha) (h2 a ha)
          have a2 := hl el h3 fun a ha => cnt_bd k d n a (h.2 a ha) (h4 a ha)
          simp only [cntT, BB]
          omega
        · cases h
theorem progB_cnt {n : Nat} {p : TProg n} (h : progB n p = true) (hs : (Co.prog n).sm p) : (allL n p.2).length ≤ 8 := by
  obtain ⟨_, hs1, hs2⟩ := hs
  simp only [progB, Bool.and_eq_true, decide_eq_true_eq, List.all_eq_true] at h
  obtain ⟨⟨_, h1⟩, h2⟩ := h
  have hb : BB 3 = 4398048608257 := by simp [BB]
  have h3 := sum_leI (cntT n) (BB 3) p.2 fun a ha => cnt_bd _ 3 n a (h1 a ha) (hs2 a ha)
  have h4 : (p.2.length : Int) * BB 3 ≤ 1048576 * BB 3 := Int.mul_le_mul_of_nonneg_right (by omega) (BB_pos 3)
  have h5 := cntL_len n p.2
  have h6 : cntL n p.2 ≤ 1048576 * BB 3 := Int.le_trans h3 h4
  rw [hb] at h6
  unfold Wr at h2
  rw [wrap_id (by omega) (by omega)] at h2
  omega
theorem progB_lab {n : Nat} {p : TProg n} (h : progB n p = true) : p.1.all labB = true := by
  simp only [progB, Bool.and_eq_true] at h
  exact h.1.1.2
def atT : (n : Nat) → List (Int × Int) → Int × Int → TStep n → List (Int × Int)
  | 0, _, _, s => s.elim
  | n + 1, ls, h, (_, x, _, _, th, el) => h :: ((th.map (atT n ls (lboth h (ls.getD x.toNat (0, 0))))).flatten ++ (el.map (atT n ls (lboth h (ls.getD x.toNat (0, 0))))).flatten)
def atL (n : Nat) (ls : List (Int × Int)) (h : Int × Int) (l : List (TStep n)) : List (Int × Int) := (l.map (atT n ls h)).flatten
end Go.Proofs.YtkmghcglmjehcaaI
end
end
