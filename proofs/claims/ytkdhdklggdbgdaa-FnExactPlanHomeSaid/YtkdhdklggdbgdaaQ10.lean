/- Whether a program is in form, told twice. -/
import Derived.Test.YtkdhdklggdbgdaaQ3
import Derived.Test.YtkdhdklggdbgdaaQ6
set_option linter.unusedVariables false
set_option linter.unusedSimpArgs false
namespace Go.Proofs.YtkdhdklggdbgdaaI
open Go Go.RowKit
def c_con : IFn := ⟨2, 9, [.t 4],
 .seq (.reg none [
    ⟨(some 4), none, .mov (.c (.bool false))⟩])
 (.seq (.reg none [
    ⟨(some 5), none, .mov (.t 0)⟩,
    ⟨(some 6), none, .mov (.t 1)⟩,
    ⟨(some 7), none, .call .q (.f 90) [(.t 5), (.t 6)]⟩,
    ⟨(some 8), none, .bin .geq (.t 7) (.c (.int .i64 0))⟩,
    ⟨(some 4), none, .mov (.t 8)⟩])
 (.ret))⟩
def c_idx : IFn := ⟨2, 19, [.t 4],
 .seq (.reg none [
    ⟨(some 4), none, .mov (.c (.int .i64 0))⟩])
 (.seq (.seq (.reg none [
     ⟨(some 6), none, .mov (.t 0)⟩,
     ⟨(some 7), none, .len (.t 6)⟩,
     ⟨(some 8), none, .mov (.c (.int .i64 0))⟩])
  (.block 0 (.loop (.seq (.reg none [
       ⟨(some 9), none, .bin .lss (.t 8) (.t 7)⟩])
    (.seq (.cond (.t 9) (.skip) (.exit 0))
    (.seq (.block 1 (.seq (.reg none [
         ⟨(some 10), none, .mov (.t 8)⟩,
         ⟨(some 5), none, .mov (.t 10)⟩])
      (.seq (.reg none [
         ⟨(some 11), none, .mov (.t 1)⟩,
         ⟨(some 12), none, .mov (.t 0)⟩,
         ⟨(some 13), none, .mov (.t 5)⟩,
         ⟨(some 14), none, .iad 2 (.t 12) (.t 13)⟩,
         ⟨(some 15), none, .load true 2 (.t 14)⟩,
         ⟨(some 16), none, .call .q (.t 11) [(.t 15)]⟩])
      (.cond (.t 16) (.seq (.reg none [
          ⟨(some 17), none, .mov (.t 5)⟩,
          ⟨(some 4), none, .mov (.t 17)⟩])
       (.ret)) (.skip)))))
    (.reg none [
      ⟨(some 18), none, .bin .add (.t 8) (.c (.int .i64 1))⟩,
      ⟨(some 8), none, .mov (.t 18)⟩])))))))
 (.seq (.reg none [
    ⟨(some 4), none, .mov (.c (.int .i64 (-1)))⟩])
 (.ret)))⟩
def c_p1 : IFn := ⟨1, 6, [.t 2],
 .seq (.reg none [
    ⟨(some 1), none, .box (.t 0)⟩,
    ⟨(some 2), none, .mov (.c (.bool false))⟩])
 (.seq (.reg none [
    ⟨(some 3), none, .load true 2 (.t 1)⟩,
    ⟨(some 4), none, .call .q (.f 71) [(.t 3)]⟩,
    ⟨(some 5), none, .un .not (.t 4)⟩,
    ⟨(some 2), none, .mov (.t 5)⟩])
 (.ret))⟩
def c_iProg : IFn := ⟨1, 25, [.t 2],
 .seq (.reg none [
    ⟨(some 1), none, .box (.t 0)⟩,
    ⟨(some 2), none, .mov (.c (.bool false))⟩])
 (.seq (.reg none [
    ⟨(some 3), none, .fad 0 (.t 1)⟩,
    ⟨(some 4), none, .load false 1 (.t 3)⟩,
    ⟨(some 5), none, .len (.t 4)⟩,
    ⟨(some 6), none, .bin .leq (.t 5) (.c (.int .i64 4))⟩,
    ⟨(some 7), none, .mov (.t 6)⟩,
    ⟨(some 8), (some (7, true)), .fad 0 (.t 1)⟩,
    ⟨(some 9), (some (7, true)), .load false 1 (.t 8)⟩,
    ⟨(some 10), (some (7, true)), .call .q (.f 69) [(.t 9), (.f 70)]⟩,
    ⟨(some 11), (some (7, true)), .un .not (.t 10)⟩,
    ⟨(some 12), none, .pick (.t 7) (.t 11) (.c (.bool false))⟩,
    ⟨(some 13), none, .mov (.t 12)⟩,
    ⟨(some 14), (some (13, true)), .load true 2 (.t 1)⟩,
    ⟨(some 15), (some (13, true)), .fad 1 (.t 1)⟩,
    ⟨(some 16), (some (13, true)), .load false 1 (.t 15)⟩,
    ⟨(some 17), (some (13, true)), .call .q (.f 72) [(.t 14), (.t 16), (.c (.int .i64 3))]⟩,
    ⟨(some 18), none, .pick (.t 13) (.t 17) (.c (.bool false))⟩,
    ⟨(some 19), none, .mov (.t 18)⟩,
    ⟨(some 20), (some (19, true)), .fad 1 (.t 1)⟩,
    ⟨(some 21), (some (19, true)), .load false 1 (.t 20)⟩,
    ⟨(some 22), (some (19, true)), .call .q (.f 73) [(.t 21)]⟩,
    ⟨(some 23), (some (19, true)), .bin .leq (.t 22) (.c (.int .i64 8))⟩,
    ⟨(some 24), none, .pick (.t 19) (.t 23) (.c (.bool false))⟩,
    ⟨(some 2), none, .mov (.t 24)⟩])
 (.ret))⟩
def c_sProg : IFn := ⟨1, 32, [.t 2],
 .seq (.reg none [
    ⟨(some 1), none, .box (.t 0)⟩,
    ⟨(some 2), none, .mov (.c (.bool false))⟩])
 (.seq (.seq (.reg none [
     ⟨(some 4), none, .fad 0 (.t 1)⟩,
     ⟨(some 5), none, .load false 1 (.t 4)⟩,
     ⟨(some 6), none, .len (.t 5)⟩,
     ⟨(some 7), none, .bin .gtr (.t 6) (.c (.int .i64 4))⟩])
  (.cond (.t 7) (.seq (.reg none [
      ⟨(some 2), none, .mov (.c (.bool false))⟩])
   (.ret)) (.skip)))
 (.seq (.seq (.reg none [
     ⟨(some 3), none, .mov (.c (.int .i64 0))⟩])
  (.block 0 (.loop (.seq (.seq (.reg none [
        ⟨(some 8), none, .mov (.t 3)⟩,
        ⟨(some 9), none, .fad 0 (.t 1)⟩,
        ⟨(some 10), none, .load false 1 (.t 9)⟩,
        ⟨(some 11), none, .len (.t 10)⟩,
        ⟨(some 12), none, .bin .lss (.t 8) (.t 11)⟩])
     (.cond (.t 12) (.skip) (.exit 0)))
    (.seq (.block 1 (.seq (.reg none [
         ⟨(some 15), none, .fad 0 (.t 1)⟩,
         ⟨(some 16), none, .load false 1 (.t 15)⟩,
         ⟨(some 17), none, .mov (.t 3)⟩,
         ⟨(some 18), none, .iad 2 (.t 16) (.t 17)⟩,
         ⟨(some 19), none, .load true 2 (.t 18)⟩,
         ⟨(some 20), none, .call .q (.f 62) [(.t 19)]⟩,
         ⟨(some 21), none, .un .not (.t 20)⟩])
      (.cond (.t 21) (.seq (.reg none [
          ⟨(some 2), none, .mov (.c (.bool false))⟩])
       (.ret)) (.skip))))
    (.reg none [
      ⟨(some 13), none, .mov (.t 3)⟩,
      ⟨(some 14), none, .bin .add (.t 13) (.c (.int .i64 1))⟩,
      ⟨(some 3), none, .mov (.t 14)⟩]))))))
 (.seq (.reg none [
    ⟨(some 22), none, .load true 2 (.t 1)⟩,
    ⟨(some 23), none, .fad 1 (.t 1)⟩,
    ⟨(some 24), none, .load false 1 (.t 23)⟩,
    ⟨(some 25), none, .call .q (.f 63) [(.t 22), (.t 24), (.c (.int .i64 3))]⟩,
    ⟨(some 26), none, .mov (.t 25)⟩,
    ⟨(some 27), (some (26, true)), .fad 1 (.t 1)⟩,
    ⟨(some 28), (some (26, true)), .load false 1 (.t 27)⟩,
    ⟨(some 29), (some (26, true)), .call .q (.f 64) [(.t 28)]⟩,
    ⟨(some 30), (some (26, true)), .bin .leq (.t 29) (.c (.int .i64 8))⟩,
    ⟨(some 31), none, .pick (.t 26) (.t 30) (.c (.bool false))⟩,
    ⟨(some 2), none, .mov (.t 31)⟩])
 (.ret))))⟩
def LabOk (F : Nat → Option IFn) (f : Nat) : Prop := ∀ (H : Heap) (v : Value) (a : Int × Int) (_ : Rd Co.p2 true (vw 0 H) v a), QC F f [v] H (.bool (labB a))
theorem idx_ok {F : Nat → Option IFn} {f : Nat} (hf : F f = some c_idx) (g0 : ∀ (H : Heap) (v : Value) (a : Int × Int) (_ : Rd Co.p2 true (vw 0 H) v a), QC F 70 [v] H (.bool (!labB a))) : ∀ (H : Heap) (u : Value) (l : List (Int × Int)), SlR Co.p2 (vw 0 H) u l → ∃ r : Int, QC F f [u, .func (.func 70) #[] #[]] H (.int .i64 r) ∧ (decide (0 ≤ r) = !l.all labB) := by
  rintro H u l ⟨h0, a, rfl, h2⟩
  suffices h : ∃ v, QC F f [.slice a l.length l.length, .func (.func 70) #[] #[]] H v ∧ ∃ r : Int, v = .int .i64 r ∧ (decide (0 ≤ r) = !l.all labB) from
    let ⟨v, h1, r, h3, h4⟩ := h; ⟨r, h3 ▸ h1, h4⟩
  refine QC.mkE hf rfl ?_
  refine seq_reg ?_
  simp only [go_sem, binI_lss, binI_leq, binI_gtr, binI_geq, binI_eql, binI_neq, Nat.reduceEqDiff, Nat.reduceAdd, Nat.reduceMul, Nat.reduceSub, Nat.reduceLeDiff, Nat.reduceLT, reduceIte, reduceCtorEq]
  refine seq_assoc (seq_reg ?_)
  simp only [go_sem, binI_lss, binI_leq, binI_gtr, binI_geq, binI_eql, binI_neq, Nat.reduceEqDiff, Nat.reduceAdd, Nat.reduceMul, Nat.reduceSub, Nat.reduceLeDiff, Nat.reduceLT, reduceIte, reduceCtorEq]
  refine seq_block (wpc_loop ?_)
  suffices h : ∀ (k i : Nat) (e : Env), i + k = l.length → e 0 = .slice a l.length l.length → e 1 = .func (.func 70) #[] #[] → e 6 = .slice a l.length l.length → e 7 = .int .i64 l.length → e 8 = .int .i64 i → l.all labB = (l.drop i).all labB → W F H.length _ e _ _ from
    h l.length 0 _ (by omega) (by simp only [go_sem, binI_lss, binI_leq, binI_gtr, binI_geq, binI_eql, binI_neq, Nat.reduceEqDiff, Nat.reduceAdd, Nat.reduceMul, Nat.reduceSub, Nat.reduceLeDiff, Nat.reduceLT, reduceIte, reduceCtorEq]) (by simp only [go_sem, binI_lss, binI_leq, binI_gtr, binI_geq, binI_eql, binI_neq, Nat.reduceEqDiff, Nat.reduceAdd, Nat.reduceMul, Nat.reduceSub, Nat.reduceLeDiff, Nat.reduceLT, reduceIte, reduceCtorEq]) (by simp only [go_sem, binI_lss, binI_leq, binI_gtr, binI_geq, binI_eql, binI_neq, Nat.reduceEqDiff, Nat.reduceAdd, Nat.reduceMul, Nat.reduceSub, Nat.reduceLeDiff, Nat.reduceLT, reduceIte, reduceCtorEq]) (by simp only [go_sem, binI_lss, binI_leq, binI_gtr, binI_geq, binI_eql, binI_neq, Nat.reduceEqDiff, Nat.reduceAdd, Nat.reduceMul, Nat.reduceSub, Nat.reduceLeDiff, Nat.reduceLT, reduceIte, reduceCtorEq]) (by simp only [go_sem, binI_lss, binI_leq, binI_gtr, binI_geq, binI_eql, binI_neq, Nat.reduceEqDiff, Nat.reduceAdd, Nat.reduceMul, Nat.reduceSub, Nat.reduceLeDiff, Nat.reduceLT, reduceIte, reduceCtorEq]; rfl) rfl
  intro k
  induction k with
  | zero =>
    intro i e hi e0 e1 e6 e7 e8 hall
    refine lp_step ?_
    refine seq_reg ?_
    simp only [go_sem, binI_lss, binI_leq, binI_gtr, binI_geq, binI_eql, binI_neq, Nat.reduceEqDiff, Nat.reduceAdd, Nat.reduceMul, Nat.reduceSub, Nat.reduceLeDiff, Nat.reduceLT, reduceIte, reduceCtorEq, e7, e8]
    refine seq_cond (t := false) (by simp only [go_sem, binI_lss, binI_leq, binI_gtr, binI_geq, binI_eql, binI_neq, Nat.reduceEqDiff, Nat.reduceAdd, Nat.reduceMul, Nat.reduceSub, Nat.reduceLeDiff, Nat.reduceLT, reduceIte, reduceCtorEq]; rw [decide_eq_false (by omega)]) ?_
    simp only [go_sem, binI_lss, binI_leq, binI_gtr, binI_geq, binI_eql, binI_neq, Nat.reduceEqDiff, Nat.reduceAdd, Nat.reduceMul, Nat.reduceSub, Nat.reduceLeDiff, Nat.reduceLT, reduceIte, reduceCtorEq]
    refine seq_exit ?_
    simp only [go_sem, binI_lss, binI_leq, binI_gtr, binI_geq, binI_eql, binI_neq, Nat.reduceEqDiff, Nat.reduceAdd, Nat.reduceMul, Nat.reduceSub, Nat.reduceLeDiff, Nat.reduceLT, reduceIte, reduceCtorEq, thenX_e, out_e, thenX_n]
    refine seq_reg ?_
    simp only [go_sem, binI_lss, binI_leq, binI_gtr, binI_geq, binI_eql, binI_neq, Nat.reduceEqDiff, Nat.reduceAdd, Nat.reduceMul, Nat.reduceSub, Nat.reduceLeDiff, Nat.reduceLT, reduceIte, reduceCtorEq]
    refine wpc_ret ⟨Or.inr rfl, .int .i64 (-1), by simp only [go_sem, binI_lss, binI_leq, binI_gtr, binI_geq, binI_eql, binI_neq, Nat.reduceEqDiff, Nat.reduceAdd, Nat.reduceMul, Nat.reduceSub, Nat.reduceLeDiff, Nat.reduceLT, reduceIte, reduceCtorEq], ⟨-1, rfl, ?_⟩, rfl⟩
    rw [hall, List.drop_of_length_le (by omega)]
    rfl
  | succ k ih =>
    intro i e hi e0 e1 e6 e7 e8 hall
    have hil : i < l.length := by omega
    rcases h2 with h2 | ⟨b, o, hab, h2⟩
    · rw [h2] at hil; simp at hil
    subst hab
    obtain ⟨cs, h3, h4⟩ := h2 i hil
    have g3 := rng_gc h3
    rw [show Co.p2.w = 2 from rfl] at g3
    have hw1 : IntKind.i64.wrap ((i : Int) + 1) = ((i + 1 : Nat) : Int) := by rw [wrap_id (by omega) (by omega)]; omega
    rw [List.drop_eq_getElem_cons hil, List.all_cons] at hall
    refine lp_step ?_
    refine seq_reg ?_
    simp only [go_sem, binI_lss, binI_leq, binI_gtr, binI_geq, binI_eql, binI_neq, Nat.reduceEqDiff, Nat.reduceAdd, Nat.reduceMul, Nat.reduceSub, Nat.reduceLeDiff, Nat.reduceLT, reduceIte, reduceCtorEq, e7, e8]
    refine seq_cond (t := true) (by simp only [go_sem, binI_lss, binI_leq, binI_gtr, binI_geq, binI_eql, binI_neq, Nat.reduceEqDiff, Nat.reduceAdd, Nat.reduceMul, Nat.reduceSub, Nat.reduceLeDiff, Nat.reduceLT, reduceIte, reduceCtorEq]; rw [decide_eq_true (by omega)]) ?_
    simp only [go_sem, binI_lss, binI_leq, binI_gtr, binI_geq, binI_eql, binI_neq, Nat.reduceEqDiff, Nat.reduceAdd, Nat.reduceMul, Nat.reduceSub, Nat.reduceLeDiff, Nat.reduceLT, reduceIte, reduceCtorEq]
    refine seq_skip (seq_block (seq_reg ?_))
    simp only [go_sem, binI_lss, binI_leq, binI_gtr, binI_geq, binI_eql, binI_neq, Nat.reduceEqDiff, Nat.reduceAdd, Nat.reduceMul, Nat.reduceSub, Nat.reduceLeDiff, Nat.reduceLT, reduceIte, reduceCtorEq, e8]
    refine seq_reg ?_
    simp only [go_sem, binI_lss, binI_leq, binI_gtr, binI_geq, binI_eql, binI_neq, Nat.reduceEqDiff, Nat.reduceAdd, Nat.reduceMul, Nat.reduceSub, Nat.reduceLeDiff, Nat.reduceLT, reduceIte, reduceCtorEq, e0, e1, e8, g3]
    refine ⟨⟨by omega, by omega⟩, ?_⟩
    refine op_callQc (g := 70) (first := #[]) (cap := #[]) (v := .bool (!labB l[i])) (by simp only [go_sem, binI_lss, binI_leq, binI_gtr, binI_geq, binI_eql, binI_neq, Nat.reduceEqDiff, Nat.reduceAdd, Nat.reduceMul, Nat.reduceSub, Nat.reduceLeDiff, Nat.reduceLT, reduceIte, reduceCtorEq, e1]) (by simp only [go_sem, binI_lss, binI_leq, binI_gtr, binI_geq, binI_eql, binI_neq, Nat.reduceEqDiff, Nat.reduceAdd, Nat.reduceMul, Nat.reduceSub, Nat.reduceLeDiff, Nat.reduceLT, reduceIte, reduceCtorEq]; exact g0 _ _ _ ⟨cs, rfl, h4⟩) ?_
    simp only [go_sem, binI_lss, binI_leq, binI_gtr, binI_geq, binI_eql, binI_neq, Nat.reduceEqDiff, Nat.reduceAdd, Nat.reduceMul, Nat.reduceSub, Nat.reduceLeDiff, Nat.reduceLT, reduceIte, reduceCtorEq]
    cases hb : labB l[i] with
    | true =>
      refine wpc_cond (t := false) (by simp only [go_sem, binI_lss, binI_leq, binI_gtr, binI_geq, binI_eql, binI_neq, Nat.reduceEqDiff, Nat.reduceAdd, Nat.reduceMul, Nat.reduceSub, Nat.reduceLeDiff, Nat.reduceLT, reduceIte, reduceCtorEq]) ?_
      simp only [go_sem, binI_lss, binI_leq, binI_gtr, binI_geq, binI_eql, binI_neq, Nat.reduceEqDiff, Nat.reduceAdd, Nat.reduceMul, Nat.reduceSub, Nat.reduceLeDiff, Nat.reduceLT, reduceIte, reduceCtorEq]
      refine wpc_skip ?_
      simp only [go_sem, binI_lss, binI_leq, binI_gtr, binI_geq, binI_eql, binI_neq, Nat.reduceEqDiff, Nat.reduceAdd, Nat.reduceMul, Nat.reduceSub, Nat.reduceLeDiff, Nat.reduceLT, reduceIte, reduceCtorEq, out_n, thenX_n]
      refine wpc_reg ?_
      simp only [go_sem, binI_lss, binI_leq, binI_gtr, binI_geq, binI_eql, binI_neq, Nat.reduceEqDiff, Nat.reduceAdd, Nat.reduceMul, Nat.reduceSub, Nat.reduceLeDiff, Nat.reduceLT, reduceIte, reduceCtorEq, e8, hw1]
      exact ih (i + 1) _ (by omega) (by simp only [go_sem, binI_lss, binI_leq, binI_gtr, binI_geq, binI_eql, binI_neq, Nat.reduceEqDiff, Nat.reduceAdd, Nat.reduceMul, Nat.reduceSub, Nat.reduceLeDiff, Nat.reduceLT, reduceIte, reduceCtorEq, e0]) (by simp only [go_sem, binI_lss, binI_leq, binI_gtr, binI_geq, binI_eql, binI_neq, Nat.reduceEqDiff, Nat.reduceAdd, Nat.reduceMul, Nat.reduceSub, Nat.reduceLeDiff, Nat.reduceLT, reduceIte, reduceCtorEq, e1]) (by simp only [go_sem, binI_lss, binI_leq, binI_gtr, binI_geq, binI_eql, binI_neq, Nat.reduceEqDiff, Nat.reduceAdd, Nat.reduceMul, Nat.reduceSub, Nat.reduceLeDiff, Nat.reduceLT, reduceIte, reduceCtorEq, e6]) (by simp only [go_sem, binI_lss, binI_leq, binI_gtr, binI_geq, binI_eql, binI_neq, Nat.reduceEqDiff, Nat.reduceAdd, Nat.reduceMul, Nat.reduceSub, Nat.reduceLeDiff, Nat.reduceLT, reduceIte, reduceCtorEq, e7]) (by simp only [go_sem, binI_lss, binI_leq, binI_gtr, binI_geq, binI_eql, binI_neq, Nat.reduceEqDiff, Nat.reduceAdd, Nat.reduceMul, Nat.reduceSub, Nat.reduceLeDiff, Nat.reduceLT, reduceIte, reduceCtorEq]) (by rw [hall, hb, Bool.true_and])
    | false =>
      refine wpc_cond (t := true) (by simp only [go_sem, binI_lss, binI_leq, binI_gtr, binI_geq, binI_eql, binI_neq, Nat.reduceEqDiff, Nat.reduceAdd, Nat.reduceMul, Nat.reduceSub, Nat.reduceLeDiff, Nat.reduceLT, reduceIte, reduceCtorEq]) ?_
      simp only [go_sem, binI_lss, binI_leq, binI_gtr, binI_geq, binI_eql, binI_neq, Nat.reduceEqDiff, Nat.reduceAdd, Nat.reduceMul, Nat.reduceSub, Nat.reduceLeDiff, Nat.reduceLT, reduceIte, reduceCtorEq]
      refine seq_reg ?_
      simp only [go_sem, binI_lss, binI_leq, binI_gtr, binI_geq, binI_eql, binI_neq, Nat.reduceEqDiff, Nat.reduceAdd, Nat.reduceMul, Nat.reduceSub, Nat.reduceLeDiff, Nat.reduceLT, reduceIte, reduceCtorEq]
      refine wpc_ret ?_
      simp only [go_sem, binI_lss, binI_leq, binI_gtr, binI_geq, binI_eql, binI_neq, Nat.reduceEqDiff, Nat.reduceAdd, Nat.reduceMul, Nat.reduceSub, Nat.reduceLeDiff, Nat.reduceLT, reduceIte, reduceCtorEq, out_r, thenX_r]
      refine ⟨Or.inr rfl, .int .i64 i, by simp only [go_sem, binI_lss, binI_leq, binI_gtr, binI_geq, binI_eql, binI_neq, Nat.reduceEqDiff, Nat.reduceAdd, Nat.reduceMul, Nat.reduceSub, Nat.reduceLeDiff, Nat.reduceLT, reduceIte, reduceCtorEq], ⟨i, rfl, ?_⟩, rfl⟩
      rw [hall, hb, Bool.false_and, decide_eq_true (by omega)]
      rfl
theorem con_ok {F : Nat → Option IFn} {f : Nat} (hf : F f = some c_con) (g0 : ∀ (H : Heap) (u : Value) (l : List (Int × Int)), SlR Co.p2 (vw 0 H) u l → ∃ r : Int, QC F 90 [u, .func (.func 70) #[] #[]] H (.int .i64 r) ∧ (decide (0 ≤ r) = !l.all labB)) :
    ∀ (H : Heap) (u : Value) (l : List (Int × Int)), SlR Co.p2 (vw 0 H) u l → QC F f [u, .func (.func 70) #[] #[]] H (.bool (!l.all labB)) := by
  intro H u l hu
  obtain ⟨r, h1, h2⟩ := g0 H u l hu
  refine QC.mk hf rfl ?_
  refine seq_reg ?_
  simp only [go_sem, binI_lss, binI_leq, binI_gtr, binI_geq, binI_eql, binI_neq, Nat.reduceEqDiff, Nat.reduceAdd, Nat.reduceMul, Nat.reduceSub, Nat.reduceLeDiff, Nat.reduceLT, reduceIte, reduceCtorEq]
  refine seq_reg ?_
  simp only [go_sem, binI_lss, binI_leq, binI_gtr, binI_geq, binI_eql, binI_neq, Nat.reduceEqDiff, Nat.reduceAdd, Nat.reduceMul, Nat.reduceSub, Nat.reduceLeDiff, Nat.reduceLT, reduceIte, reduceCtorEq]
  refine op_callQ (by simp only [go_sem, binI_lss, binI_leq, binI_gtr, binI_geq, binI_eql, binI_neq, Nat.reduceEqDiff, Nat.reduceAdd, Nat.reduceMul, Nat.reduceSub, Nat.reduceLeDiff, Nat.reduceLT, reduceIte, reduceCtorEq]; exact h1) ?_
  simp only [go_sem, binI_lss, binI_leq, binI_gtr, binI_geq, binI_eql, binI_neq, Nat.reduceEqDiff, Nat.reduceAdd, Nat.reduceMul, Nat.reduceSub, Nat.reduceLeDiff, Nat.reduceLT, reduceIte, reduceCtorEq]
  refine wpc_ret ⟨Or.inr rfl, .bool (decide (0 ≤ r)), by simp only [go_sem, binI_lss, binI_leq, binI_gtr, binI_geq, binI_eql, binI_neq, Nat.reduceEqDiff, Nat.reduceAdd, Nat.reduceMul, Nat.reduceSub, Nat.reduceLeDiff, Nat.reduceLT, reduceIte, reduceCtorEq], ?_, rfl⟩
  rw [← h2]
attribute [local irreducible] optP wpo wpp wpc binI Kc Kp wpOp thenX
theorem p1_ok {F : Nat → Option IFn} {f : Nat} (hf : F f = some c_p1) (g0 : LabOk F 71) : ∀ (H : Heap) (v : Value) (a : Int × Int) (_ : Rd Co.p2 true (vw 0 H) v a), QC F f [v] H (.bool (!labB a)) := by
  rintro H v ⟨a0, a1⟩ ⟨cs, hc, _, _, rfl, ⟨rfl, b0⟩, ⟨rfl, b1⟩⟩
  simp only [go_sem, binI_lss, binI_leq, binI_gtr, binI_geq, binI_eql, binI_neq, Nat.reduceEqDiff, Nat.reduceAdd, Nat.reduceMul, Nat.reduceSub, Nat.reduceLeDiff, Nat.reduceLT, reduceIte, reduceCtorEq, Option.some.injEq] at hc
  subst hc
  refine QC.mk hf rfl ?_
  repeat' (first
    | refine seq_assoc ?_
    | refine seq_reg ?_
    | refine seq_skip ?_
    | refine seq_regD ?_
    | refine seq_cond (t := true) rfl ?_
    | refine seq_cond (t := false) rfl ?_
    | refine wpc_cond (t := true) rfl ?_
    | refine wpc_cond (t := false) rfl ?_
    | refine seq_block ?_
    | refine wpc_block ?_
    | refine seq_ret ?_
    | refine wpc_ret ?_
    | refine wpc_reg ?_
    | refine wpc_regD ?_
    | refine wpc_skip ?_
    | refine fin_t rfl ?_
    | refine seq_exit ?_
    | refine wpc_exit ?_
    | refine cmp_lss (fun _ => ?_) (fun _ => ?_)
    | refine cmp_leq (fun _ => ?_) (fun _ => ?_)
    | refine cmp_gtr (fun _ => ?_) (fun _ => ?_)
    | refine cmp_geq (fun _ => ?_) (fun _ => ?_)
    | refine cmp_eql (fun _ => ?_) (fun _ => ?_)
    | refine cmp_neq (fun _ => ?_) (fun _ => ?_)
    | (refine op_callB (by simp only [go_sem, Nat.reduceEqDiff, Nat.reduceAdd, Nat.reduceMul, Nat.reduceSub, Nat.reduceLeDiff, Nat.reduceLT, reduceIte, reduceCtorEq, out_n, out_r, out_e, thenX_n, thenX_r, thenX_e]; exact g0 _ _ (a0, a1) ⟨_, rfl, _, _, rfl, ⟨rfl, b0⟩, ⟨rfl, b1⟩⟩) (fun _ => ?_) (fun _ => ?_))
    | simp only [go_sem, Nat.reduceEqDiff, Nat.reduceAdd, Nat.reduceMul, Nat.reduceSub, Nat.reduceLeDiff, Nat.reduceLT, reduceIte, reduceCtorEq, out_n, out_r, out_e, thenX_n, thenX_r, thenX_e]
    )
  all_goals (refine ⟨?_, rfl⟩; simp [*])
def progB (n : Nat) (p : TProg n) : Bool := decide ((p.1.length : Int) ≤ 4) && p.1.all labB && p.2.all (stepB p.1.length n 3) && decide (Wr (cntL n p.2) ≤ 8)
def ProgOk (F : Nat → Option IFn) (f : Nat) : Prop := ∀ (H : Heap) (n : Nat) (v : Value) (p : TProg n), Rd (Co.prog n) true (vw 0 H) v p → (Co.prog n).sm p → QC F f [v] H (.bool (progB n p))
theorem iProg_ok {F : Nat → Option IFn} {f : Nat} (hf : F f = some c_iProg) (g0 : ∀ (H : Heap) (u : Value) (l : List (Int × Int)), SlR Co.p2 (vw 0 H) u l → QC F 69 [u, .func (.func 70) #[] #[]] H (.bool (!l.all labB))) (g1 : ∀ n, StepsOk F 72 n) (g2 : ∀ n, CntOk F 73 n) : ProgOk F f := by
  rintro H m v ⟨p0, p1⟩ hp0 ⟨s0, s1⟩
  obtain ⟨pc, hpc, _, _, rfl, ⟨v0, rfl, r0⟩, ⟨v1, rfl, r1⟩⟩ := hp0
  have hp : ∀ L, Rd (Co.prog m) true (vw 0 (H ++ L)) (.agg #[v0, v1]) (p0, p1) := fun L => ⟨_, rfl, _, _, rfl, ⟨_, rfl, r0.mono (vw_app 0 H L)⟩, ⟨_, rfl, r1.mono (vw_app 0 H L)⟩⟩
  simp only [go_sem, binI_lss, binI_leq, binI_gtr, binI_geq, binI_eql, binI_neq, Nat.reduceEqDiff, Nat.reduceAdd, Nat.reduceMul, Nat.reduceSub, Nat.reduceLeDiff, Nat.reduceLT, reduceIte, reduceCtorEq, Option.some.injEq] at hpc
  subst hpc
  have r0c := r0
  have r1c := r1
  obtain ⟨_, x0⟩ := r0.shape
  subst x0
  obtain ⟨_, x1⟩ := r1.shape
  subst x1
  refine QC.mk hf rfl ?_
  repeat' (first
    | refine seq_assoc ?_
    | refine seq_reg ?_
    | refine seq_skip ?_
    | refine seq_regD ?_
    | refine seq_cond (t := true) rfl ?_
    | refine seq_cond (t := false) rfl ?_
    | refine wpc_cond (t := true) rfl ?_
    | refine wpc_cond (t := false) rfl ?_
    | refine seq_block ?_
    | refine wpc_block ?_
    | refine seq_ret ?_
    | refine wpc_ret ?_
    | refine wpc_reg ?_
    | refine wpc_regD ?_
    | refine wpc_skip ?_
    | refine fin_t rfl ?_
    | refine seq_exit ?_
    | refine wpc_exit ?_
    | refine cmp_lss (fun _ => ?_) (fun _ => ?_)
    | refine cmp_leq (fun _ => ?_) (fun _ => ?_)
    | refine cmp_gtr (fun _ => ?_) (fun _ => ?_)
    | refine cmp_geq (fun _ => ?_) (fun _ => ?_)
    | refine cmp_eql (fun _ => ?_) (fun _ => ?_)
    | refine cmp_neq (fun _ => ?_) (fun _ => ?_)
    | (refine op_callB (by simp only [go_sem, Nat.reduceEqDiff, Nat.reduceAdd, Nat.reduceMul, Nat.reduceSub, Nat.reduceLeDiff, Nat.reduceLT, reduceIte, reduceCtorEq, out_n, out_r, out_e, thenX_n, thenX_r, thenX_e]; exact g0 _ _ _ (r0c.mono (vw_app 0 H _))) (fun _ => ?_) (fun _ => ?_))
    | (refine op_callB (by simp only [go_sem, Nat.reduceEqDiff, Nat.reduceAdd, Nat.reduceMul, Nat.reduceSub, Nat.reduceLeDiff, Nat.reduceLT, reduceIte, reduceCtorEq, out_n, out_r, out_e, thenX_n, thenX_r, thenX_e]; exact g1 _ _ m _ _ (p0, p1) p1 3 (hp _) (r1c.mono (vw_app 0 H _)) s1 (by omega) (by omega)) (fun _ => ?_) (fun _ => ?_))
    | (refine op_callQ (by simp only [go_sem, Nat.reduceEqDiff, Nat.reduceAdd, Nat.reduceMul, Nat.reduceSub, Nat.reduceLeDiff, Nat.reduceLT, reduceIte, reduceCtorEq, out_n, out_r, out_e, thenX_n, thenX_r, thenX_e]; exact g2 _ _ _ _ (r1c.mono (vw_app 0 H _))) ?_)
    | simp only [go_sem, Nat.reduceEqDiff, Nat.reduceAdd, Nat.reduceMul, Nat.reduceSub, Nat.reduceLeDiff, Nat.reduceLT, reduceIte, reduceCtorEq, out_n, out_r, out_e, thenX_n, thenX_r, thenX_e]
    )
  all_goals (refine ⟨congrArg _ ?_, rfl⟩; simp only [progB])
  all_goals (generalize List.all p0 labB = A at *; generalize List.all p1 (stepB p0.length m 3) = B at *)
  all_goals simp_all
  all_goals (intros; omega)
theorem sProg_ok {F : Nat → Option IFn} {f : Nat} (hf : F f = some c_sProg) (g0 : LabOk F 62) (g1 : ∀ n, StepsOk F 63 n) (g2 : ∀ n, CntOk F 64 n) : ProgOk F f := by
  rintro H m v ⟨p0, p1⟩ hp0 ⟨s0, s1⟩
  obtain ⟨pc, hpc, _, _, rfl, ⟨v0, rfl, r0⟩, ⟨v1, rfl, r1⟩⟩ := hp0
  have hp : ∀ L, Rd (Co.prog m) true (vw 0 (H ++ L)) (.agg #[v0, v1]) (p0, p1) := fun L => ⟨_, rfl, _, _, rfl, ⟨_, rfl, r0.mono (vw_app 0 H L)⟩, ⟨_, rfl, r1.mono (vw_app 0 H L)⟩⟩
  simp only [go_sem, binI_lss, binI_leq, binI_gtr, binI_geq, binI_eql, binI_neq, Nat.reduceEqDiff, Nat.reduceAdd, Nat.reduceMul, Nat.reduceSub, Nat.reduceLeDiff, Nat.reduceLT, reduceIte, reduceCtorEq, Option.some.injEq] at hpc
  subst hpc
  have r0c := r0
  have r1c := r1
  obtain ⟨h0, a, rfl, h2⟩ := r0
  obtain ⟨_, x1⟩ := r1.shape
  subst x1
  simp only at h0 h2
  refine QC.mk hf rfl ?_
  refine seq_reg ?_
  simp only [go_sem, binI_lss, binI_leq, binI_gtr, binI_geq, binI_eql, binI_neq, Nat.reduceEqDiff, Nat.reduceAdd, Nat.reduceMul, Nat.reduceSub, Nat.reduceLeDiff, Nat.reduceLT, reduceIte, reduceCtorEq]
  refine seq_assoc (seq_reg ?_)
  simp only [go_sem, binI_lss, binI_leq, binI_gtr, binI_geq, binI_eql, binI_neq, Nat.reduceEqDiff, Nat.reduceAdd, Nat.reduceMul, Nat.reduceSub, Nat.reduceLeDiff, Nat.reduceLT, reduceIte, reduceCtorEq]
  by_cases hn : (p0.length : Int) ≤ 4
  · refine seq_cond (t := false) (by simp only [go_sem, binI_lss, binI_leq, binI_gtr, binI_geq, binI_eql, binI_neq, Nat.reduceEqDiff, Nat.reduceAdd, Nat.reduceMul, Nat.reduceSub, Nat.reduceLeDiff, Nat.reduceLT, reduceIte, reduceCtorEq]; rw [decide_eq_false (by omega)]) ?_
    simp only [go_sem, binI_lss, binI_leq, binI_gtr, binI_geq, binI_eql, binI_neq, Nat.reduceEqDiff, Nat.reduceAdd, Nat.reduceMul, Nat.reduceSub, Nat.reduceLeDiff, Nat.reduceLT, reduceIte, reduceCtorEq]
    refine seq_skip (seq_assoc (seq_reg ?_))
    simp only [go_sem, binI_lss, binI_leq, binI_gtr, binI_geq, binI_eql, binI_neq, Nat.reduceEqDiff, Nat.reduceAdd, Nat.reduceMul, Nat.reduceSub, Nat.reduceLeDiff, Nat.reduceLT, reduceIte, reduceCtorEq]
    refine seq_block (wpc_loop ?_)
    suffices h : ∀ (k i : Nat) (e : Env), i + k = p0.length → e 1 = ptr H.length 0 → e 3 = .int .i64 i → p0.all labB = (p0.drop i).all labB → W F H.length _ e _ _ from
      h p0.length 0 _ (by omega) (by simp only [go_sem, binI_lss, binI_leq, binI_gtr, binI_geq, binI_eql, binI_neq, Nat.reduceEqDiff, Nat.reduceAdd, Nat.reduceMul, Nat.reduceSub, Nat.reduceLeDiff, Nat.reduceLT, reduceIte, reduceCtorEq]) (by simp only [go_sem, binI_lss, binI_leq, binI_gtr, binI_geq, binI_eql, binI_neq, Nat.reduceEqDiff, Nat.reduceAdd, Nat.reduceMul, Nat.reduceSub, Nat.reduceLeDiff, Nat.reduceLT, reduceIte, reduceCtorEq]; rfl) rfl
    intro k
    induction k with
    | zero =>
      intro i e hi e1 e3 hall
      rw [List.drop_of_length_le (by omega), List.all_nil] at hall
      refine lp_step ?_
      refine seq_assoc (seq_reg ?_)
      simp only [go_sem, binI_lss, binI_leq, binI_gtr, binI_geq, binI_eql, binI_neq, Nat.reduceEqDiff, Nat.reduceAdd, Nat.reduceMul, Nat.reduceSub, Nat.reduceLeDiff, Nat.reduceLT, reduceIte, reduceCtorEq, e1, e3]
      refine seq_cond (t := false) (by simp only [go_sem, binI_lss, binI_leq, binI_gtr, binI_geq, binI_eql, binI_neq, Nat.reduceEqDiff, Nat.reduceAdd, Nat.reduceMul, Nat.reduceSub, Nat.reduceLeDiff, Nat.reduceLT, reduceIte, reduceCtorEq]; rw [decide_eq_false (by omega)]) ?_
      simp only [go_sem, binI_lss, binI_leq, binI_gtr, binI_geq, binI_eql, binI_neq, Nat.reduceEqDiff, Nat.reduceAdd, Nat.reduceMul, Nat.reduceSub, Nat.reduceLeDiff, Nat.reduceLT, reduceIte, reduceCtorEq]
      refine seq_exit ?_
      simp only [go_sem, binI_lss, binI_leq, binI_gtr, binI_geq, binI_eql, binI_neq, Nat.reduceEqDiff, Nat.reduceAdd, Nat.reduceMul, Nat.reduceSub, Nat.reduceLeDiff, Nat.reduceLT, reduceIte, reduceCtorEq, thenX_e, out_e, thenX_n]
      repeat' (first
        | refine seq_assoc ?_
        | refine seq_reg ?_
        | refine seq_skip ?_
        | refine seq_regD ?_
        | refine seq_cond (t := true) rfl ?_
        | refine seq_cond (t := false) rfl ?_
        | refine wpc_cond (t := true) rfl ?_
        | refine wpc_cond (t := false) rfl ?_
        | refine seq_block ?_
        | refine wpc_block ?_
        | refine seq_ret ?_
        | refine wpc_ret ?_
        | refine wpc_reg ?_
        | refine wpc_regD ?_
        | refine wpc_skip ?_
        | refine fin_t rfl ?_
        | refine seq_exit ?_
        | refine wpc_exit ?_
        | refine cmp_lss (fun _ => ?_) (fun _ => ?_)
        | refine cmp_leq (fun _ => ?_) (fun _ => ?_)
        | refine cmp_gtr (fun _ => ?_) (fun _ => ?_)
        | refine cmp_geq (fun _ => ?_) (fun _ => ?_)
        | refine cmp_eql (fun _ => ?_) (fun _ => ?_)
        | refine cmp_neq (fun _ => ?_) (fun _ => ?_)
        | (refine op_callB (by simp only [go_sem, Nat.reduceEqDiff, Nat.reduceAdd, Nat.reduceMul, Nat.reduceSub, Nat.reduceLeDiff, Nat.reduceLT, reduceIte, reduceCtorEq, out_n, out_r, out_e, thenX_n, thenX_r, thenX_e, e1]; exact g1 _ _ m _ _ (p0, p1) p1 3 (hp _) (r1c.mono (vw_app 0 H _)) s1 (by omega) (by omega)) (fun _ => ?_) (fun _ => ?_))
        | (refine op_callQ (by simp only [go_sem, Nat.reduceEqDiff, Nat.reduceAdd, Nat.reduceMul, Nat.reduceSub, Nat.reduceLeDiff, Nat.reduceLT, reduceIte, reduceCtorEq, out_n, out_r, out_e, thenX_n, thenX_r, thenX_e, e1]; exact g2 _ _ _ _ (r1c.mono (vw_app 0 H _))) ?_)
        | simp only [go_sem, Nat.reduceEqDiff, Nat.reduceAdd, Nat.reduceMul, Nat.reduceSub, Nat.reduceLeDiff, Nat.reduceLT, reduceIte, reduceCtorEq, out_n, out_r, out_e, thenX_n, thenX_r, thenX_e, e1]
        )
      all_goals (refine ⟨congrArg _ ?_, rfl⟩; simp only [progB])
      all_goals (generalize List.all p0 labB = A at *; generalize List.all p1 (stepB p0.length m 3) = B at *)
      all_goals simp_all
    | succ k ih =>
      intro i e hi e1 e3 hall
      have hil : i < p0.length := by omega
      rcases h2 with h2 | ⟨b, o, hab, h2⟩
      · rw [h2] at hil; simp at hil
      subst hab
      obtain ⟨cs, h3, h4⟩ := h2 i hil
      have g3 := fun L => rng_gc (rng_sub (vw_app 0 H L) h3)
      rw [show Co.p2.w = 2 from rfl] at g3
      have hw1 : IntKind.i64.wrap ((i : Int) + 1) = ((i + 1 : Nat) : Int) := by rw [wrap_id (by omega) (by omega)]; omega
      rw [List.drop_eq_getElem_cons hil, List.all_cons] at hall
      refine lp_step ?_
      refine seq_assoc (seq_reg ?_)
      simp only [go_sem, binI_lss, binI_leq, binI_gtr, binI_geq, binI_eql, binI_neq, Nat.reduceEqDiff, Nat.reduceAdd, Nat.reduceMul, Nat.reduceSub, Nat.reduceLeDiff, Nat.reduceLT, reduceIte, reduceCtorEq, e1, e3]
      refine seq_cond (t := true) (by simp only [go_sem, binI_lss, binI_leq, binI_gtr, binI_geq, binI_eql, binI_neq, Nat.reduceEqDiff, Nat.reduceAdd, Nat.reduceMul, Nat.reduceSub, Nat.reduceLeDiff, Nat.reduceLT, reduceIte, reduceCtorEq]; rw [decide_eq_true (by omega)]) ?_
      simp only [go_sem, binI_lss, binI_leq, binI_gtr, binI_geq, binI_eql, binI_neq, Nat.reduceEqDiff, Nat.reduceAdd, Nat.reduceMul, Nat.reduceSub, Nat.reduceLeDiff, Nat.reduceLT, reduceIte, reduceCtorEq]
      refine seq_skip (seq_block (seq_reg ?_))
      simp only [go_sem, binI_lss, binI_leq, binI_gtr, binI_geq, binI_eql, binI_neq, Nat.reduceEqDiff, Nat.reduceAdd, Nat.reduceMul, Nat.reduceSub, Nat.reduceLeDiff, Nat.reduceLT, reduceIte, reduceCtorEq, e1, e3, g3]
      refine ⟨⟨by omega, by omega⟩, ?_⟩
      refine op_callB (by simp only [go_sem, binI_lss, binI_leq, binI_gtr, binI_geq, binI_eql, binI_neq, Nat.reduceEqDiff, Nat.reduceAdd, Nat.reduceMul, Nat.reduceSub, Nat.reduceLeDiff, Nat.reduceLT, reduceIte, reduceCtorEq]; exact g0 _ _ p0[i] ⟨cs, rfl, Co.p2.mono (vw_app 0 H _) h4⟩) (fun hb => ?_) (fun hb => ?_)
      · simp only [go_sem, binI_lss, binI_leq, binI_gtr, binI_geq, binI_eql, binI_neq, Nat.reduceEqDiff, Nat.reduceAdd, Nat.reduceMul, Nat.reduceSub, Nat.reduceLeDiff, Nat.reduceLT, reduceIte, reduceCtorEq]
        refine wpc_cond (t := false) (by simp only [go_sem, binI_lss, binI_leq, binI_gtr, binI_geq, binI_eql, binI_neq, Nat.reduceEqDiff, Nat.reduceAdd, Nat.reduceMul, Nat.reduceSub, Nat.reduceLeDiff, Nat.reduceLT, reduceIte, reduceCtorEq]) ?_
        simp only [go_sem, binI_lss, binI_leq, binI_gtr, binI_geq, binI_eql, binI_neq, Nat.reduceEqDiff, Nat.reduceAdd, Nat.reduceMul, Nat.reduceSub, Nat.reduceLeDiff, Nat.reduceLT, reduceIte, reduceCtorEq]
        refine wpc_skip ?_
        simp only [go_sem, binI_lss, binI_leq, binI_gtr, binI_geq, binI_eql, binI_neq, Nat.reduceEqDiff, Nat.reduceAdd, Nat.reduceMul, Nat.reduceSub, Nat.reduceLeDiff, Nat.reduceLT, reduceIte, reduceCtorEq, out_n, thenX_n]
        refine wpc_reg ?_
        simp only [go_sem, binI_lss, binI_leq, binI_gtr, binI_geq, binI_eql, binI_neq, Nat.reduceEqDiff, Nat.reduceAdd, Nat.reduceMul, Nat.reduceSub, Nat.reduceLeDiff, Nat.reduceLT, reduceIte, reduceCtorEq, e3, hw1, thenX_n]
        exact ih (i + 1) _ (by omega) (by simp only [go_sem, binI_lss, binI_leq, binI_gtr, binI_geq, binI_eql, binI_neq, Nat.reduceEqDiff, Nat.reduceAdd, Nat.reduceMul, Nat.reduceSub, Nat.reduceLeDiff, Nat.reduceLT, reduceIte, reduceCtorEq, e1]) (by simp only [go_sem, binI_lss, binI_leq, binI_gtr, binI_geq, binI_eql, binI_neq, Nat.reduceEqDiff, Nat.reduceAdd, Nat.reduceMul, Nat.reduceSub, Nat.reduceLeDiff, Nat.reduceLT, reduceIte, reduceCtorEq]) (by rw [hall, hb, Bool.true_and])
      · simp only [go_sem, binI_lss, binI_leq, binI_gtr, binI_geq, binI_eql, binI_neq, Nat.reduceEqDiff, Nat.reduceAdd, Nat.reduceMul, Nat.reduceSub, Nat.reduceLeDiff, Nat.reduceLT, reduceIte, reduceCtorEq]
        refine wpc_cond (t := true) (by simp only [go_sem, binI_lss, binI_leq, binI_gtr, binI_geq, binI_eql, binI_neq, Nat.reduceEqDiff, Nat.reduceAdd, Nat.reduceMul, Nat.reduceSub, Nat.reduceLeDiff, Nat.reduceLT, reduceIte, reduceCtorEq]) ?_
        simp only [go_sem, binI_lss, binI_leq, binI_gtr, binI_geq, binI_eql, binI_neq, Nat.reduceEqDiff, Nat.reduceAdd, Nat.reduceMul, Nat.reduceSub, Nat.reduceLeDiff, Nat.reduceLT, reduceIte, reduceCtorEq]
        refine seq_reg ?_
        simp only [go_sem, binI_lss, binI_leq, binI_gtr, binI_geq, binI_eql, binI_neq, Nat.reduceEqDiff, Nat.reduceAdd, Nat.reduceMul, Nat.reduceSub, Nat.reduceLeDiff, Nat.reduceLT, reduceIte, reduceCtorEq]
        refine wpc_ret ?_
        simp only [go_sem, binI_lss, binI_leq, binI_gtr, binI_geq, binI_eql, binI_neq, Nat.reduceEqDiff, Nat.reduceAdd, Nat.reduceMul, Nat.reduceSub, Nat.reduceLeDiff, Nat.reduceLT, reduceIte, reduceCtorEq, out_r, thenX_r]
        refine ⟨Or.inr rfl, .bool false, by simp only [go_sem, binI_lss, binI_leq, binI_gtr, binI_geq, binI_eql, binI_neq, Nat.reduceEqDiff, Nat.reduceAdd, Nat.reduceMul, Nat.reduceSub, Nat.reduceLeDiff, Nat.reduceLT, reduceIte, reduceCtorEq], ?_, rfl⟩
        have hA : p0.all labB = false := by rw [hall, hb, Bool.false_and]
        simp only [progB, hA, Bool.and_false, Bool.false_and]
  · refine seq_cond (t := true) (by simp only [go_sem, binI_lss, binI_leq, binI_gtr, binI_geq, binI_eql, binI_neq, Nat.reduceEqDiff, Nat.reduceAdd, Nat.reduceMul, Nat.reduceSub, Nat.reduceLeDiff, Nat.reduceLT, reduceIte, reduceCtorEq]; rw [decide_eq_true (by omega)]) ?_
    simp only [go_sem, binI_lss, binI_leq, binI_gtr, binI_geq, binI_eql, binI_neq, Nat.reduceEqDiff, Nat.reduceAdd, Nat.reduceMul, Nat.reduceSub, Nat.reduceLeDiff, Nat.reduceLT, reduceIte, reduceCtorEq]
    refine seq_assoc (seq_reg ?_)
    simp only [go_sem, binI_lss, binI_leq, binI_gtr, binI_geq, binI_eql, binI_neq, Nat.reduceEqDiff, Nat.reduceAdd, Nat.reduceMul, Nat.reduceSub, Nat.reduceLeDiff, Nat.reduceLT, reduceIte, reduceCtorEq]
    refine seq_ret ⟨Or.inr rfl, .bool false, by simp only [go_sem, binI_lss, binI_leq, binI_gtr, binI_geq, binI_eql, binI_neq, Nat.reduceEqDiff, Nat.reduceAdd, Nat.reduceMul, Nat.reduceSub, Nat.reduceLeDiff, Nat.reduceLT, reduceIte, reduceCtorEq], ?_, rfl⟩
    simp only [progB, decide_eq_false hn, Bool.false_and]
end Go.Proofs.YtkdhdklggdbgdaaI
