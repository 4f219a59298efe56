/- Whether steps are in form, told twice. -/
import Derived.Test.YtkdhdklggdbgdaaQ2
set_option linter.unusedVariables false
set_option linter.unusedSimpArgs false
namespace Go.Proofs.YtkdhdklggdbgdaaI
open Go Go.RowKit
theorem eqs_rule {a b c x y z : Int} {ne : Bool} {K : Value → Prop} (h1 : (a, b, c) = (x, y, z) → K (.bool (!ne))) (h2 : ¬ (a, b, c) = (x, y, z) → K (.bool ne)) :
    optP (eqsV ne 3 (.agg [.int .i64 a, .int .i64 b, .int .i64 c].toArray) (.agg [.int .i64 x, .int .i64 y, .int .i64 z].toArray)) K := by
  have e : eqsV ne 3 (.agg [.int .i64 a, .int .i64 b, .int .i64 c].toArray) (.agg [.int .i64 x, .int .i64 y, .int .i64 z].toArray) = some (.bool (if ne then !(a == x && (b == y && c == z)) else (a == x && (b == y && c == z)))) := by
    cases ne <;> simp [eqsV, eqCells]
  rw [e]
  by_cases h : (a, b, c) = (x, y, z)
  · have ht : (a == x && (b == y && c == z)) = true := by simpa using h
    rw [ht]
    have := h1 h
    cases ne <;> exact this
  · have ht : (a == x && (b == y && c == z)) = false := by
      rw [Bool.eq_false_iff]
      intro h'
      exact h (by simpa using h')
    rw [ht]
    have := h2 h
    cases ne <;> exact this
attribute [local irreducible] optP wpo wpp wpc binI Kc Kp wpOp thenX eqsV
def stepB (k : Nat) : (n : Nat) → Int → TStep n → Bool
  | 0, _, _ => false
  | n + 1, d, (kd, vr, v, ho, th, el) => decide (1 ≤ d) && varB k vr && (if kd = 1 then valB k v && decide (ho = 0) && decide ((th.length : Int) + el.length = 0) else
      if kd = 3 then decide (v = (0, 0, 0)) && inB ho 0 2 && decide ((th.length : Int) + el.length = 0) else
      if kd = 2 then decide (v = (0, 0, 0)) && decide (ho = 0) && th.all (stepB k n (d - 1)) && el.all (stepB k n (d - 1)) else false)
def VarOk (F : Nat → Option IFn) (f : Nat) : Prop := ∀ (H : Heap) (n : Nat) (v : Value) (p : TProg n) (a : Int) (_ : Rd (Co.prog n) true (vw 0 H) v p), QC F f [v, .int .i64 a] H (.bool (varB p.1.length a))
def ValOk (F : Nat → Option IFn) (f : Nat) : Prop := ∀ (H : Heap) (n : Nat) (v u : Value) (p : TProg n) (a : Int × Int × Int) (_ : Rd (Co.prog n) true (vw 0 H) v p) (_ : Rd Co.val true (vw 0 H) u a), QC F f [v, u] H (.bool (valB p.1.length a))
def InOk (F : Nat → Option IFn) (f : Nat) : Prop := ∀ (H : Heap) (a b c : Int), QC F f [.int .i64 a, .int .i64 b, .int .i64 c] H (.bool (inB a b c))
/-- A list of steps, of programs of any depth 'm'. -/
def StepsOk (F : Nat → Option IFn) (f : Nat) (n : Nat) : Prop := ∀ (H : Heap) (m : Nat) (v u : Value) (p : TProg m) (l : List (TStep n)) (d : Int), Rd (Co.prog m) true (vw 0 H) v p → SlR (Co.step n) (vw 0 H) u l → (Co.sl (Co.step n)).sm l → 0 ≤ d → d ≤ 3 →
  QC F f [v, u, .int .i64 d] H (.bool (l.all (stepB p.1.length n d)))
def StepOk (F : Nat → Option IFn) (f : Nat) (n : Nat) : Prop := ∀ (H : Heap) (m : Nat) (v u : Value) (p : TProg m) (a : TStep n) (d : Int), Rd (Co.prog m) true (vw 0 H) v p → Rd (Co.step n) true (vw 0 H) u a → (Co.step n).sm a → 0 ≤ d → d ≤ 3 →
  QC F f [v, u, .int .i64 d] H (.bool (stepB p.1.length n d a))
def c_sStep : IFn := ⟨3, 86, [.t 6],
 .seq (.reg none [
    ⟨(some 3), none, .box (.t 0)⟩,
    ⟨(some 4), none, .box (.t 1)⟩,
    ⟨(some 6), none, .mov (.c (.bool false))⟩])
 (.seq (.seq (.reg none [
     ⟨(some 8), none, .mov (.t 2)⟩,
     ⟨(some 9), none, .bin .lss (.t 8) (.c (.int .i64 1))⟩,
     ⟨(some 10), none, .mov (.t 9)⟩,
     ⟨(some 11), (some (10, false)), .load true 2 (.t 3)⟩,
     ⟨(some 12), (some (10, false)), .fad 1 (.t 4)⟩,
     ⟨(some 13), (some (10, false)), .load false 1 (.t 12)⟩,
     ⟨(some 14), (some (10, false)), .call .q (.f 34) [(.t 11), (.t 13)]⟩,
     ⟨(some 15), (some (10, false)), .un .not (.t 14)⟩,
     ⟨(some 16), none, .pick (.t 10) (.c (.bool true)) (.t 15)⟩])
  (.cond (.t 16) (.seq (.reg none [
      ⟨(some 6), none, .mov (.c (.bool false))⟩])
   (.ret)) (.skip)))
 (.seq (.reg none [
    ⟨(some 17), none, .fad 2 (.t 4)⟩,
    ⟨(some 18), none, .load true 3 (.t 17)⟩,
    ⟨(some 19), none, .build [(.int .i64 0), (.int .i64 0), (.int .i64 0)] []⟩,
    ⟨(some 20), none, .eqs false 3 (.t 18) (.t 19)⟩,
    ⟨(some 7), none, .mov (.t 20)⟩])
 (.seq (.seq (.reg none [
     ⟨(some 21), none, .fad 0 (.t 4)⟩,
     ⟨(some 22), none, .load false 1 (.t 21)⟩])
  (.block 0 (.seq (.reg none [
      ⟨(some 24), none, .bin .eql (.t 22) (.c (.int .i64 1))⟩,
      ⟨(some 23), none, .mov (.t 24)⟩])
   (.cond (.t 23) (.seq (.reg none [
       ⟨(some 25), none, .load true 2 (.t 3)⟩,
       ⟨(some 26), none, .fad 2 (.t 4)⟩,
       ⟨(some 27), none, .load true 3 (.t 26)⟩,
       ⟨(some 28), none, .call .q (.f 93) [(.t 25), (.t 27)]⟩,
       ⟨(some 29), none, .mov (.t 28)⟩,
       ⟨(some 30), (some (29, true)), .fad 5 (.t 4)⟩,
       ⟨(some 31), (some (29, true)), .load false 1 (.t 30)⟩,
       ⟨(some 32), (some (29, true)), .bin .eql (.t 31) (.c (.int .i64 0))⟩,
       ⟨(some 33), none, .pick (.t 29) (.t 32) (.c (.bool false))⟩,
       ⟨(some 34), none, .mov (.t 33)⟩,
       ⟨(some 35), (some (34, true)), .fad 6 (.t 4)⟩,
       ⟨(some 36), (some (34, true)), .load false 1 (.t 35)⟩,
       ⟨(some 37), (some (34, true)), .len (.t 36)⟩,
       ⟨(some 38), (some (34, true)), .fad 7 (.t 4)⟩,
       ⟨(some 39), (some (34, true)), .load false 1 (.t 38)⟩,
       ⟨(some 40), (some (34, true)), .len (.t 39)⟩,
       ⟨(some 41), (some (34, true)), .bin .add (.t 37) (.t 40)⟩,
       ⟨(some 42), (some (34, true)), .bin .eql (.t 41) (.c (.int .i64 0))⟩,
       ⟨(some 43), none, .pick (.t 34) (.t 42) (.c (.bool false))⟩,
       ⟨(some 6), none, .mov (.t 43)⟩])
    (.ret)) (.seq (.reg none [
       ⟨(some 45), none, .bin .eql (.t 22) (.c (.int .i64 3))⟩,
       ⟨(some 44), none, .mov (.t 45)⟩])
    (.cond (.t 44) (.seq (.reg none [
        ⟨(some 46), none, .mov (.t 7)⟩,
        ⟨(some 47), none, .mov (.t 46)⟩,
        ⟨(some 48), (some (47, true)), .fad 5 (.t 4)⟩,
        ⟨(some 49), (some (47, true)), .load false 1 (.t 48)⟩,
        ⟨(some 50), (some (47, true)), .call .q (.f 35) [(.t 49), (.c (.int .i64 0)), (.c (.int .i64 2))]⟩,
        ⟨(some 51), none, .pick (.t 47) (.t 50) (.c (.bool false))⟩,
        ⟨(some 52), none, .mov (.t 51)⟩,
        ⟨(some 53), (some (52, true)), .fad 6 (.t 4)⟩,
        ⟨(some 54), (some (52, true)), .load false 1 (.t 53)⟩,
        ⟨(some 55), (some (52, true)), .len (.t 54)⟩,
        ⟨(some 56), (some (52, true)), .fad 7 (.t 4)⟩,
        ⟨(some 57), (some (52, true)), .load false 1 (.t 56)⟩,
        ⟨(some 58), (some (52, true)), .len (.t 57)⟩,
        ⟨(some 59), (some (52, true)), .bin .add (.t 55) (.t 58)⟩,
        ⟨(some 60), (some (52, true)), .bin .eql (.t 59) (.c (.int .i64 0))⟩,
        ⟨(some 61), none, .pick (.t 52) (.t 60) (.c (.bool false))⟩,
        ⟨(some 6), none, .mov (.t 61)⟩])
     (.ret)) (.seq (.reg none [
        ⟨(some 63), none, .bin .eql (.t 22) (.c (.int .i64 2))⟩,
        ⟨(some 62), none, .mov (.t 63)⟩])
     (.cond (.t 62) (.seq (.reg none [
         ⟨(some 64), none, .mov (.t 7)⟩,
         ⟨(some 65), none, .mov (.t 64)⟩,
         ⟨(some 66), (some (65, true)), .fad 5 (.t 4)⟩,
         ⟨(some 67), (some (65, true)), .load false 1 (.t 66)⟩,
         ⟨(some 68), (some (65, true)), .bin .eql (.t 67) (.c (.int .i64 0))⟩,
         ⟨(some 69), none, .pick (.t 65) (.t 68) (.c (.bool false))⟩,
         ⟨(some 70), none, .mov (.t 69)⟩,
         ⟨(some 71), (some (70, true)), .load true 2 (.t 3)⟩,
         ⟨(some 72), (some (70, true)), .fad 6 (.t 4)⟩,
         ⟨(some 73), (some (70, true)), .load false 1 (.t 72)⟩,
         ⟨(some 74), (some (70, true)), .mov (.t 2)⟩,
         ⟨(some 75), (some (70, true)), .bin .sub (.t 74) (.c (.int .i64 1))⟩,
         ⟨(some 76), (some (70, true)), .call .q (.f 63) [(.t 71), (.t 73), (.t 75)]⟩,
         ⟨(some 77), none, .pick (.t 70) (.t 76) (.c (.bool false))⟩,
         ⟨(some 78), none, .mov (.t 77)⟩,
         ⟨(some 79), (some (78, true)), .load true 2 (.t 3)⟩,
         ⟨(some 80), (some (78, true)), .fad 7 (.t 4)⟩,
         ⟨(some 81), (some (78, true)), .load false 1 (.t 80)⟩,
         ⟨(some 82), (some (78, true)), .mov (.t 2)⟩,
         ⟨(some 83), (some (78, true)), .bin .sub (.t 82) (.c (.int .i64 1))⟩,
         ⟨(some 84), (some (78, true)), .call .q (.f 63) [(.t 79), (.t 81), (.t 83)]⟩,
         ⟨(some 85), none, .pick (.t 78) (.t 84) (.c (.bool false))⟩,
         ⟨(some 6), none, .mov (.t 85)⟩])
      (.ret)) (.skip)))))))))
 (.seq (.reg none [
    ⟨(some 6), none, .mov (.c (.bool false))⟩])
 (.ret)))))⟩
def c_sSteps : IFn := ⟨3, 22, [.t 6],
 .seq (.reg none [
    ⟨(some 3), none, .box (.t 0)⟩,
    ⟨(some 6), none, .mov (.c (.bool false))⟩])
 (.seq (.seq (.reg none [
     ⟨(some 7), none, .mov (.c (.int .i64 0))⟩])
  (.block 0 (.loop (.seq (.seq (.reg none [
        ⟨(some 8), none, .mov (.t 7)⟩,
        ⟨(some 9), none, .mov (.t 1)⟩,
        ⟨(some 10), none, .len (.t 9)⟩,
        ⟨(some 11), none, .bin .lss (.t 8) (.t 10)⟩])
     (.cond (.t 11) (.skip) (.exit 0)))
    (.seq (.block 1 (.seq (.reg (some 6) [
         ⟨(some 14), none, .load true 2 (.t 3)⟩,
         ⟨(some 15), none, .mov (.t 1)⟩,
         ⟨(some 16), none, .mov (.t 7)⟩,
         ⟨(some 17), none, .iad 8 (.t 15) (.t 16)⟩,
         ⟨(some 18), none, .load true 8 (.t 17)⟩,
         ⟨(some 19), none, .mov (.t 2)⟩,
         ⟨(some 20), none, .call .q (.f 88) [(.t 14), (.t 18), (.t 19)]⟩,
         ⟨(some 21), none, .un .not (.t 20)⟩])
      (.cond (.t 21) (.seq (.reg none [
          ⟨(some 6), none, .mov (.c (.bool false))⟩])
       (.ret)) (.skip))))
    (.reg none [
      ⟨(some 12), none, .mov (.t 7)⟩,
      ⟨(some 13), none, .bin .add (.t 12) (.c (.int .i64 1))⟩,
      ⟨(some 7), none, .mov (.t 13)⟩]))))))
 (.seq (.reg none [
    ⟨(some 6), none, .mov (.c (.bool true))⟩])
 (.ret)))⟩
def c_iSteps : IFn := ⟨3, 93, [.t 6],
 .seq (.reg none [
    ⟨(some 3), none, .box (.t 0)⟩,
    ⟨(some 6), none, .mov (.c (.bool false))⟩])
 (.seq (.seq (.reg none [
     ⟨(some 10), none, .mov (.t 1)⟩,
     ⟨(some 11), none, .len (.t 10)⟩,
     ⟨(some 12), none, .mov (.c (.int .i64 0))⟩])
  (.block 0 (.loop (.seq (.reg none [
       ⟨(some 13), none, .bin .lss (.t 12) (.t 11)⟩])
    (.seq (.cond (.t 13) (.skip) (.exit 0))
    (.seq (.block 1 (.seq (.reg none [
         ⟨(some 14), none, .iad 8 (.t 10) (.t 12)⟩,
         ⟨(some 15), none, .load true 8 (.t 14)⟩,
         ⟨(some 8), none, .new [(.int .i64 0), (.int .i64 0), (.int .i64 0), (.int .i64 0), (.int .i64 0), (.int .i64 0), (.slice none 0 0), (.slice none 0 0)]⟩,
         ⟨none, none, .store 8 (.t 8) (.t 15)⟩])
      (.seq (.seq (.reg none [
          ⟨(some 16), none, .mov (.t 2)⟩,
          ⟨(some 17), none, .bin .lss (.t 16) (.c (.int .i64 1))⟩,
          ⟨(some 18), none, .mov (.t 17)⟩,
          ⟨(some 19), (some (18, false)), .load true 2 (.t 3)⟩,
          ⟨(some 20), (some (18, false)), .fad 1 (.t 8)⟩,
          ⟨(some 21), (some (18, false)), .load false 1 (.t 20)⟩,
          ⟨(some 22), (some (18, false)), .call .q (.f 43) [(.t 19), (.t 21)]⟩,
          ⟨(some 23), (some (18, false)), .un .not (.t 22)⟩,
          ⟨(some 24), none, .pick (.t 18) (.c (.bool true)) (.t 23)⟩,
          ⟨(some 25), none, .mov (.t 24)⟩,
          ⟨(some 26), (some (25, false)), .fad 0 (.t 8)⟩,
          ⟨(some 27), (some (25, false)), .load false 1 (.t 26)⟩,
          ⟨(some 28), (some (25, false)), .bin .neq (.t 27) (.c (.int .i64 1))⟩,
          ⟨(some 29), (some (25, false)), .mov (.t 28)⟩,
          ⟨(some 30), (some (29, true)), .fad 2 (.t 8)⟩,
          ⟨(some 31), (some (29, true)), .load true 3 (.t 30)⟩,
          ⟨(some 32), (some (29, true)), .build [(.int .i64 0), (.int .i64 0), (.int .i64 0)] []⟩,
          ⟨(some 33), (some (29, true)), .eqs true 3 (.t 31) (.t 32)⟩,
          ⟨(some 34), (some (25, false)), .pick (.t 29) (.t 33) (.c (.bool false))⟩,
          ⟨(some 35), none, .pick (.t 25) (.c (.bool true)) (.t 34)⟩,
          ⟨(some 36), none, .mov (.t 35)⟩,
          ⟨(some 37), (some (36, false)), .fad 0 (.t 8)⟩,
          ⟨(some 38), (some (36, false)), .load false 1 (.t 37)⟩,
          ⟨(some 39), (some (36, false)), .bin .neq (.t 38) (.c (.int .i64 3))⟩,
          ⟨(some 40), (some (36, false)), .mov (.t 39)⟩,
          ⟨(some 41), (some (40, true)), .fad 5 (.t 8)⟩,
          ⟨(some 42), (some (40, true)), .load false 1 (.t 41)⟩,
          ⟨(some 43), (some (40, true)), .bin .neq (.t 42) (.c (.int .i64 0))⟩,
          ⟨(some 44), (some (36, false)), .pick (.t 40) (.t 43) (.c (.bool false))⟩,
          ⟨(some 45), none, .pick (.t 36) (.c (.bool true)) (.t 44)⟩,
          ⟨(some 46), none, .mov (.t 45)⟩,
          ⟨(some 47), (some (46, false)), .fad 0 (.t 8)⟩,
          ⟨(some 48), (some (46, false)), .load false 1 (.t 47)⟩,
          ⟨(some 49), (some (46, false)), .bin .neq (.t 48) (.c (.int .i64 2))⟩,
          ⟨(some 50), (some (46, false)), .mov (.t 49)⟩,
          ⟨(some 51), (some (50, true)), .fad 6 (.t 8)⟩,
          ⟨(some 52), (some (50, true)), .load false 1 (.t 51)⟩,
          ⟨(some 53), (some (50, true)), .len (.t 52)⟩,
          ⟨(some 54), (some (50, true)), .fad 7 (.t 8)⟩,
          ⟨(some 55), (some (50, true)), .load false 1 (.t 54)⟩,
          ⟨(some 56), (some (50, true)), .len (.t 55)⟩,
          ⟨(some 57), (some (50, true)), .bin .add (.t 53) (.t 56)⟩,
          ⟨(some 58), (some (50, true)), .bin .gtr (.t 57) (.c (.int .i64 0))⟩,
          ⟨(some 59), (some (46, false)), .pick (.t 50) (.t 58) (.c (.bool false))⟩,
          ⟨(some 60), none, .pick (.t 46) (.c (.bool true)) (.t 59)⟩])
       (.cond (.t 60) (.seq (.reg none [
           ⟨(some 6), none, .mov (.c (.bool false))⟩])
        (.ret)) (.skip)))
      (.seq (.reg none [
         ⟨(some 9), none, .mov (.c (.bool false))⟩])
      (.seq (.seq (.reg none [
          ⟨(some 61), none, .fad 0 (.t 8)⟩,
          ⟨(some 62), none, .load false 1 (.t 61)⟩])
       (.block 2 (.seq (.reg none [
           ⟨(some 64), none, .bin .eql (.t 62) (.c (.int .i64 1))⟩,
           ⟨(some 63), none, .mov (.t 64)⟩])
        (.cond (.t 63) (.reg none [
           ⟨(some 65), none, .load true 2 (.t 3)⟩,
           ⟨(some 66), none, .fad 2 (.t 8)⟩,
           ⟨(some 67), none, .load true 3 (.t 66)⟩,
           ⟨(some 68), none, .call .q (.f 91) [(.t 65), (.t 67)]⟩,
           ⟨(some 9), none, .mov (.t 68)⟩]) (.seq (.reg none [
            ⟨(some 70), none, .bin .eql (.t 62) (.c (.int .i64 2))⟩,
            ⟨(some 69), none, .mov (.t 70)⟩])
         (.cond (.t 69) (.reg none [
            ⟨(some 71), none, .load true 2 (.t 3)⟩,
            ⟨(some 72), none, .fad 6 (.t 8)⟩,
            ⟨(some 73), none, .load false 1 (.t 72)⟩,
            ⟨(some 74), none, .mov (.t 2)⟩,
            ⟨(some 75), none, .bin .sub (.t 74) (.c (.int .i64 1))⟩,
            ⟨(some 76), none, .call .q (.f 72) [(.t 71), (.t 73), (.t 75)]⟩,
            ⟨(some 77), none, .mov (.t 76)⟩,
            ⟨(some 78), (some (77, true)), .load true 2 (.t 3)⟩,
            ⟨(some 79), (some (77, true)), .fad 7 (.t 8)⟩,
            ⟨(some 80), (some (77, true)), .load false 1 (.t 79)⟩,
            ⟨(some 81), (some (77, true)), .mov (.t 2)⟩,
            ⟨(some 82), (some (77, true)), .bin .sub (.t 81) (.c (.int .i64 1))⟩,
            ⟨(some 83), (some (77, true)), .call .q (.f 72) [(.t 78), (.t 80), (.t 82)]⟩,
            ⟨(some 84), none, .pick (.t 77) (.t 83) (.c (.bool false))⟩,
            ⟨(some 9), none, .mov (.t 84)⟩]) (.seq (.reg none [
             ⟨(some 86), none, .bin .eql (.t 62) (.c (.int .i64 3))⟩,
             ⟨(some 85), none, .mov (.t 86)⟩])
          (.cond (.t 85) (.reg none [
             ⟨(some 87), none, .fad 5 (.t 8)⟩,
             ⟨(some 88), none, .load false 1 (.t 87)⟩,
             ⟨(some 89), none, .call .q (.f 44) [(.t 88)]⟩,
             ⟨(some 9), none, .mov (.t 89)⟩]) (.skip)))))))))
      (.seq (.reg none [
         ⟨(some 90), none, .mov (.t 9)⟩,
         ⟨(some 91), none, .un .not (.t 90)⟩])
      (.cond (.t 91) (.seq (.reg none [
          ⟨(some 6), none, .mov (.c (.bool false))⟩])
       (.ret)) (.skip))))))))
    (.reg none [
      ⟨(some 92), none, .bin .add (.t 12) (.c (.int .i64 1))⟩,
      ⟨(some 12), none, .mov (.t 92)⟩])))))))
 (.seq (.reg none [
    ⟨(some 6), none, .mov (.c (.bool true))⟩])
 (.ret)))⟩
set_option maxHeartbeats 4000000 in
theorem sStep_ok {F : Nat → Option IFn} {f n : Nat} (hf : F f = some c_sStep) (g0 : InOk F 35) (g1 : VarOk F 34) (g2 : ValOk F 93) (g3 : StepsOk F 63 n) : StepOk F f (n + 1) := by
  rintro H m v u ⟨p0, p1⟩ ⟨a0, a1, ⟨a2, a3, a4⟩, a5, a6, a7⟩ d hp0 ⟨cs, hc, _, _, rfl, ⟨rfl, b0⟩, _, _, rfl, ⟨rfl, b1⟩, _, _, rfl, ⟨_, _, rfl, ⟨rfl, b2⟩, _, _, rfl, ⟨rfl, b3⟩, ⟨rfl, b4⟩⟩, _, _, rfl, ⟨rfl, b5⟩, _, _, rfl, ⟨v6, rfl, r6⟩, ⟨v7, rfl, r7⟩⟩ ⟨s0, s1, s2, s3, s6, s7⟩ hd0 hd3
  obtain ⟨pc, hpc, _, _, rfl, ⟨v0, rfl, r0⟩, ⟨v1, rfl, r1⟩⟩ := hp0
  have hp : ∀ L, Rd (Co.prog m) true (vw 0 (H ++ L)) (.agg #[v0, v1]) (p0, p1) := fun L => ⟨_, rfl, _, _, rfl, ⟨_, rfl, r0.mono (vw_app 0 H L)⟩, ⟨_, rfl, r1.mono (vw_app 0 H L)⟩⟩
  simp only [go_sem, binI_lss, binI_leq, binI_gtr, binI_geq, binI_eql, binI_neq, Nat.reduceEqDiff, Nat.reduceAdd, Nat.reduceMul, Nat.reduceSub, Nat.reduceLeDiff, Nat.reduceLT, reduceIte, reduceCtorEq, Option.some.injEq] at hpc
  subst hpc
  obtain ⟨_, x0⟩ := r0.shape
  subst x0
  obtain ⟨_, x1⟩ := r1.shape
  subst x1
  simp only [go_sem, binI_lss, binI_leq, binI_gtr, binI_geq, binI_eql, binI_neq, Nat.reduceEqDiff, Nat.reduceAdd, Nat.reduceMul, Nat.reduceSub, Nat.reduceLeDiff, Nat.reduceLT, reduceIte, reduceCtorEq, Option.some.injEq] at hc
  subst hc
  have r6c := r6
  have r7c := r7
  obtain ⟨_, x6⟩ := r6.shape
  subst x6
  obtain ⟨_, x7⟩ := r7.shape
  subst x7
  have hd : IntKind.i64.wrap (d - 1) = d - 1 := wrap_id (by omega) (by omega)
  have ha : IntKind.i64.wrap ((a6.length : Int) + (a7.length : Int)) = (a6.length : Int) + (a7.length : Int) := by
    have h6 : a6.length ≤ 1048576 := s6.1
    have h7 : a7.length ≤ 1048576 := s7.1
    exact wrap_id (by omega) (by omega)
  refine QC.mk hf rfl ?_
  repeat' (first
    | refine seq_assoc ?_
    | refine seq_reg ?_
    | refine seq_skip ?_
    | refine seq_regD ?_
    | refine seq_cond (t := true) rfl ?_
    | refine seq_cond (t := false) rfl ?_
    | refine wpc_cond (t := true) rfl ?_
    | refine wpc_cond (t := false) rfl ?_
    | refine seq_block ?_
    | refine wpc_block ?_
    | refine seq_ret ?_
    | refine wpc_ret ?_
    | refine wpc_reg ?_
    | refine wpc_regD ?_
    | refine wpc_skip ?_
    | refine fin_t rfl ?_
    | refine seq_exit ?_
    | refine wpc_exit ?_
    | refine eqs_rule (fun _ => ?_) (fun _ => ?_)
    | refine cmp_lss (fun _ => ?_) (fun _ => ?_)
    | refine cmp_leq (fun _ => ?_) (fun _ => ?_)
    | refine cmp_gtr (fun _ => ?_) (fun _ => ?_)
    | refine cmp_geq (fun _ => ?_) (fun _ => ?_)
    | refine cmp_eql (fun _ => ?_) (fun _ => ?_)
    | refine cmp_neq (fun _ => ?_) (fun _ => ?_)
    | (refine op_callB (by simp only [go_sem, Nat.reduceEqDiff, Nat.reduceAdd, Nat.reduceMul, Nat.reduceSub, Nat.reduceLeDiff, Nat.reduceLT, reduceIte, reduceCtorEq, out_n, out_r, out_e, thenX_n, thenX_r, thenX_e, hd, ha, Bool.not_true, Bool.not_false]; exact g0 _ _ _ _) (fun _ => ?_) (fun _ => ?_))
    | (refine op_callB (by simp only [go_sem, Nat.reduceEqDiff, Nat.reduceAdd, Nat.reduceMul, Nat.reduceSub, Nat.reduceLeDiff, Nat.reduceLT, reduceIte, reduceCtorEq, out_n, out_r, out_e, thenX_n, thenX_r, thenX_e, hd, ha, Bool.not_true, Bool.not_false]; exact g1 _ m _ (p0, p1) _ (hp _)) (fun _ => ?_) (fun _ => ?_))
    | (refine op_callB (by simp only [go_sem, Nat.reduceEqDiff, Nat.reduceAdd, Nat.reduceMul, Nat.reduceSub, Nat.reduceLeDiff, Nat.reduceLT, reduceIte, reduceCtorEq, out_n, out_r, out_e, thenX_n, thenX_r, thenX_e, hd, ha, Bool.not_true, Bool.not_false]; exact g2 _ m _ _ (p0, p1) (a2, a3, a4) (hp _) ⟨_, rfl, _, _, rfl, ⟨rfl, b2⟩, _, _, rfl, ⟨rfl, b3⟩, ⟨rfl, b4⟩⟩) (fun _ => ?_) (fun _ => ?_))
    | (refine op_callB (by simp only [go_sem, Nat.reduceEqDiff, Nat.reduceAdd, Nat.reduceMul, Nat.reduceSub, Nat.reduceLeDiff, Nat.reduceLT, reduceIte, reduceCtorEq, out_n, out_r, out_e, thenX_n, thenX_r, thenX_e, hd, ha, Bool.not_true, Bool.not_false]; exact g3 _ m _ _ (p0, p1) a6 _ (hp _) (r6c.mono (vw_app 0 H _)) s6 (by omega) (by omega)) (fun _ => ?_) (fun _ => ?_))
    | (refine op_callB (by simp only [go_sem, Nat.reduceEqDiff, Nat.reduceAdd, Nat.reduceMul, Nat.reduceSub, Nat.reduceLeDiff, Nat.reduceLT, reduceIte, reduceCtorEq, out_n, out_r, out_e, thenX_n, thenX_r, thenX_e, hd, ha, Bool.not_true, Bool.not_false]; exact g3 _ m _ _ (p0, p1) a7 _ (hp _) (r7c.mono (vw_app 0 H _)) s7 (by omega) (by omega)) (fun _ => ?_) (fun _ => ?_))
    | simp only [go_sem, Nat.reduceEqDiff, Nat.reduceAdd, Nat.reduceMul, Nat.reduceSub, Nat.reduceLeDiff, Nat.reduceLT, reduceIte, reduceCtorEq, out_n, out_r, out_e, thenX_n, thenX_r, thenX_e, hd, ha, Bool.not_true, Bool.not_false]
    )
  all_goals (refine ⟨?_, rfl⟩; simp only [stepB])
  all_goals simp_all
  all_goals first | omega | (obtain ⟨x, hx, hx2⟩ := ‹∃ x, x ∈ a6 ∧ stepB p0.length n (d - 1) x = false›; intro hh; rw [hh x hx] at hx2; cases hx2)
end Go.Proofs.YtkdhdklggdbgdaaI
