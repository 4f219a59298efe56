/- Schemas: two lists that read the same; a copy of a list. -/
import Derived.Test.YtkdhdklggdbgdaaI10
set_option linter.unusedVariables false
set_option linter.unusedSimpArgs false
namespace Go.Proofs.YtkdhdklggdbgdaaI
open Go Go.RowKit

/-! ### Equal -/
def EqOk (F : Nat → Option IFn) {α : Type} (A : Co α) (agg : Bool) (f : Nat) : Prop :=
  ∀ (H : Heap) (v u : Value) (a : α), Rd A agg (vw 0 H) v a → Rd A agg (vw 0 H) u a → QC F f [v, u] H (.bool true)

def eqSlH (nt : Nat) (b : ICode) : IFn := ⟨2, nt, [.t 4],
 .seq (.reg none [
    ⟨(some 4), none, .mov (.c (.bool false))⟩])
 (.seq (.seq (.reg none [
     ⟨(some 6), none, .mov (.t 0)⟩,
     ⟨(some 7), none, .len (.t 6)⟩,
     ⟨(some 8), none, .mov (.t 1)⟩,
     ⟨(some 9), none, .len (.t 8)⟩,
     ⟨(some 10), none, .bin .neq (.t 7) (.t 9)⟩])
  (.cond (.t 10) (.seq (.reg none [
      ⟨(some 4), none, .mov (.c (.bool false))⟩])
   (.ret)) (.skip)))
 (.seq (.seq (.reg none [
     ⟨(some 5), none, .mov (.c (.int .i64 0))⟩])
  (.block 0 (.loop (.seq (.seq (.reg none [
        ⟨(some 11), none, .mov (.t 5)⟩,
        ⟨(some 12), none, .mov (.t 0)⟩,
        ⟨(some 13), none, .len (.t 12)⟩,
        ⟨(some 14), none, .bin .lss (.t 11) (.t 13)⟩])
     (.cond (.t 14) (.skip) (.exit 0)))
    (.seq (.block 1 b)
    (.reg none [
      ⟨(some 15), none, .mov (.t 5)⟩,
      ⟨(some 16), none, .bin .add (.t 15) (.c (.int .i64 1))⟩,
      ⟨(some 5), none, .mov (.t 16)⟩]))))))
 (.seq (.reg none [
    ⟨(some 4), none, .mov (.c (.bool true))⟩])
 (.ret))))⟩
def eqFlatB : ICode := (.seq (.reg (some 8) [
         ⟨(some 17), none, .mov (.t 0)⟩,
         ⟨(some 18), none, .mov (.t 5)⟩,
         ⟨(some 19), none, .iad 1 (.t 17) (.t 18)⟩,
         ⟨(some 20), none, .load false 1 (.t 19)⟩,
         ⟨(some 21), none, .mov (.t 1)⟩,
         ⟨(some 22), none, .mov (.t 5)⟩,
         ⟨(some 23), none, .iad 1 (.t 21) (.t 22)⟩,
         ⟨(some 24), none, .load false 1 (.t 23)⟩,
         ⟨(some 25), none, .bin .neq (.t 20) (.t 24)⟩])
      (.cond (.t 25) (.seq (.reg none [
          ⟨(some 4), none, .mov (.c (.bool false))⟩])
       (.ret)) (.skip)))
def eqCallB (g w : Nat) (agg : Bool) : ICode := (.seq (.reg (some 8) [
         ⟨(some 17), none, .mov (.t 0)⟩,
         ⟨(some 18), none, .mov (.t 5)⟩,
         ⟨(some 19), none, .iad w (.t 17) (.t 18)⟩,
         ⟨(some 20), none, .load agg w (.t 19)⟩,
         ⟨(some 21), none, .mov (.t 1)⟩,
         ⟨(some 22), none, .mov (.t 5)⟩,
         ⟨(some 23), none, .iad w (.t 21) (.t 22)⟩,
         ⟨(some 24), none, .load agg w (.t 23)⟩,
         ⟨(some 25), none, .call .q (.f g) [(.t 20), (.t 24)]⟩,
         ⟨(some 26), none, .un .not (.t 25)⟩])
      (.cond (.t 26) (.seq (.reg none [
          ⟨(some 4), none, .mov (.c (.bool false))⟩])
       (.ret)) (.skip)))
def eqFlat : IFn := eqSlH 26 eqFlatB
def eqCall (g w : Nat) (agg : Bool) : IFn := eqSlH 27 (eqCallB g w agg)

section
variable {F : Nat → Option IFn} {α : Type} {A : Co α} {f g w nt : Nat} {agg : Bool} {b : ICode}
/-- What the test of one pair must do. -/
def PairOk (F : Nat → Option IFn) (A : Co α) (b : ICode) : Prop := ∀ (H : Heap) (v u : Value) (l : List α) (i : Nat) (e : Env) (hi : i < l.length), SlR A (vw 0 H) v l → SlR A (vw 0 H) u l → e 0 = v → e 1 = u → e 5 = .int .i64 i →
  wpc F H.length b e H fun x e1 H1 => x = .n ∧ H1 = H ∧ e1 0 = v ∧ e1 1 = u ∧ e1 5 = .int .i64 i
theorem eqSl_ok (hf : F f = some (eqSlH nt b)) (hb : PairOk F A b) : EqOk F (Co.sl A) false f := by
  rintro H v u l ⟨cs, hc, v', rfl, hv⟩ ⟨cs2, hc2, u', rfl, hu⟩
  simp only [go_sem, binI_lss, binI_leq, binI_gtr, binI_geq, binI_eql, binI_neq, Nat.reduceEqDiff, Nat.reduceAdd, Nat.reduceMul, Nat.reduceSub, Nat.reduceLeDiff, Nat.reduceLT, reduceIte, reduceCtorEq, Option.some.injEq] at hc hc2
  subst hc hc2
  have hv' := hv
  have hu' := hu
  obtain ⟨h0, a, rfl, h2⟩ := hv
  obtain ⟨_, a', rfl, h2'⟩ := hu
  refine QC.mk hf rfl ?_
  refine seq_reg ?_
  simp only [go_sem, binI_lss, binI_leq, binI_gtr, binI_geq, binI_eql, binI_neq, Nat.reduceEqDiff, Nat.reduceAdd, Nat.reduceMul, Nat.reduceSub, Nat.reduceLeDiff, Nat.reduceLT, reduceIte, reduceCtorEq]
  refine seq_assoc (seq_reg ?_)
  simp only [go_sem, binI_lss, binI_leq, binI_gtr, binI_geq, binI_eql, binI_neq, Nat.reduceEqDiff, Nat.reduceAdd, Nat.reduceMul, Nat.reduceSub, Nat.reduceLeDiff, Nat.reduceLT, reduceIte, reduceCtorEq]
  refine seq_cond (t := false) (by simp only [go_sem, binI_lss, binI_leq, binI_gtr, binI_geq, binI_eql, binI_neq, Nat.reduceEqDiff, Nat.reduceAdd, Nat.reduceMul, Nat.reduceSub, Nat.reduceLeDiff, Nat.reduceLT, reduceIte, reduceCtorEq, bne_self_eq_false]) ?_
  simp only [go_sem, binI_lss, binI_leq, binI_gtr, binI_geq, binI_eql, binI_neq, Nat.reduceEqDiff, Nat.reduceAdd, Nat.reduceMul, Nat.reduceSub, Nat.reduceLeDiff, Nat.reduceLT, reduceIte, reduceCtorEq]
  refine seq_skip (seq_assoc (seq_reg ?_))
  simp only [go_sem, binI_lss, binI_leq, binI_gtr, binI_geq, binI_eql, binI_neq, Nat.reduceEqDiff, Nat.reduceAdd, Nat.reduceMul, Nat.reduceSub, Nat.reduceLeDiff, Nat.reduceLT, reduceIte, reduceCtorEq]
  refine seq_block (wpc_loop ?_)
  suffices h : ∀ (k i : Nat) (e : Env), i + k = l.length → e 0 = .slice a l.length l.length → e 1 = .slice a' l.length l.length → e 5 = .int .i64 i → W F H.length _ e H _ from h l.length 0 _ (by omega) (by simp only [go_sem, binI_lss, binI_leq, binI_gtr, binI_geq, binI_eql, binI_neq, Nat.reduceEqDiff, Nat.reduceAdd, Nat.reduceMul, Nat.reduceSub, Nat.reduceLeDiff, Nat.reduceLT, reduceIte, reduceCtorEq]) (by simp only [go_sem, binI_lss, binI_leq, binI_gtr, binI_geq, binI_eql, binI_neq, Nat.reduceEqDiff, Nat.reduceAdd, Nat.reduceMul, Nat.reduceSub, Nat.reduceLeDiff, Nat.reduceLT, reduceIte, reduceCtorEq]) (by simp only [go_sem, binI_lss, binI_leq, binI_gtr, binI_geq, binI_eql, binI_neq, Nat.reduceEqDiff, Nat.reduceAdd, Nat.reduceMul, Nat.reduceSub, Nat.reduceLeDiff, Nat.reduceLT, reduceIte, reduceCtorEq]; rfl)
  intro k
  induction k with
  | zero =>
    intro i e hi e0 e1 e5
    refine lp_step ?_
    refine seq_assoc (seq_reg ?_)
    simp only [go_sem, binI_lss, binI_leq, binI_gtr, binI_geq, binI_eql, binI_neq, Nat.reduceEqDiff, Nat.reduceAdd, Nat.reduceMul, Nat.reduceSub, Nat.reduceLeDiff, Nat.reduceLT, reduceIte, reduceCtorEq, e0, e1, e5]
    refine seq_cond (t := false) (by simp only [go_sem, binI_lss, binI_leq, binI_gtr, binI_geq, binI_eql, binI_neq, Nat.reduceEqDiff, Nat.reduceAdd, Nat.reduceMul, Nat.reduceSub, Nat.reduceLeDiff, Nat.reduceLT, reduceIte, reduceCtorEq]; rw [decide_eq_false (by omega)]) ?_
    simp only [go_sem, binI_lss, binI_leq, binI_gtr, binI_geq, binI_eql, binI_neq, Nat.reduceEqDiff, Nat.reduceAdd, Nat.reduceMul, Nat.reduceSub, Nat.reduceLeDiff, Nat.reduceLT, reduceIte, reduceCtorEq]
    refine seq_exit ?_
    simp only [go_sem, binI_lss, binI_leq, binI_gtr, binI_geq, binI_eql, binI_neq, Nat.reduceEqDiff, Nat.reduceAdd, Nat.reduceMul, Nat.reduceSub, Nat.reduceLeDiff, Nat.reduceLT, reduceIte, reduceCtorEq, thenX_e, out_e, thenX_n]
    refine seq_reg ?_
    simp only [go_sem, binI_lss, binI_leq, binI_gtr, binI_geq, binI_eql, binI_neq, Nat.reduceEqDiff, Nat.reduceAdd, Nat.reduceMul, Nat.reduceSub, Nat.reduceLeDiff, Nat.reduceLT, reduceIte, reduceCtorEq]
    refine wpc_ret ⟨Or.inr rfl, _, ?_, rfl, rfl⟩
    simp only [go_sem, binI_lss, binI_leq, binI_gtr, binI_geq, binI_eql, binI_neq, Nat.reduceEqDiff, Nat.reduceAdd, Nat.reduceMul, Nat.reduceSub, Nat.reduceLeDiff, Nat.reduceLT, reduceIte, reduceCtorEq]
  | succ k ih =>
    intro i e hi e0 e1 e5
    refine lp_step ?_
    refine seq_assoc (seq_reg ?_)
    simp only [go_sem, binI_lss, binI_leq, binI_gtr, binI_geq, binI_eql, binI_neq, Nat.reduceEqDiff, Nat.reduceAdd, Nat.reduceMul, Nat.reduceSub, Nat.reduceLeDiff, Nat.reduceLT, reduceIte, reduceCtorEq, e0, e1, e5]
    refine seq_cond (t := true) (by simp only [go_sem, binI_lss, binI_leq, binI_gtr, binI_geq, binI_eql, binI_neq, Nat.reduceEqDiff, Nat.reduceAdd, Nat.reduceMul, Nat.reduceSub, Nat.reduceLeDiff, Nat.reduceLT, reduceIte, reduceCtorEq]; rw [decide_eq_true (by omega)]) ?_
    simp only [go_sem, binI_lss, binI_leq, binI_gtr, binI_geq, binI_eql, binI_neq, Nat.reduceEqDiff, Nat.reduceAdd, Nat.reduceMul, Nat.reduceSub, Nat.reduceLeDiff, Nat.reduceLT, reduceIte, reduceCtorEq]
    refine seq_skip (seq_block ?_)
    refine wpc_mono (hb H _ _ l i _ (by omega) hv' hu' (by simp only [go_sem, binI_lss, binI_leq, binI_gtr, binI_geq, binI_eql, binI_neq, Nat.reduceEqDiff, Nat.reduceAdd, Nat.reduceMul, Nat.reduceSub, Nat.reduceLeDiff, Nat.reduceLT, reduceIte, reduceCtorEq, e0]) (by simp only [go_sem, binI_lss, binI_leq, binI_gtr, binI_geq, binI_eql, binI_neq, Nat.reduceEqDiff, Nat.reduceAdd, Nat.reduceMul, Nat.reduceSub, Nat.reduceLeDiff, Nat.reduceLT, reduceIte, reduceCtorEq, e1]) (by simp only [go_sem, binI_lss, binI_leq, binI_gtr, binI_geq, binI_eql, binI_neq, Nat.reduceEqDiff, Nat.reduceAdd, Nat.reduceMul, Nat.reduceSub, Nat.reduceLeDiff, Nat.reduceLT, reduceIte, reduceCtorEq, e5])) ?_
    rintro x e2 H2 ⟨rfl, rfl, q1, q2, q3⟩
    simp only [go_sem, binI_lss, binI_leq, binI_gtr, binI_geq, binI_eql, binI_neq, Nat.reduceEqDiff, Nat.reduceAdd, Nat.reduceMul, Nat.reduceSub, Nat.reduceLeDiff, Nat.reduceLT, reduceIte, reduceCtorEq, out_n, thenX_n]
    refine wpc_reg ?_
    simp only [go_sem, binI_lss, binI_leq, binI_gtr, binI_geq, binI_eql, binI_neq, Nat.reduceEqDiff, Nat.reduceAdd, Nat.reduceMul, Nat.reduceSub, Nat.reduceLeDiff, Nat.reduceLT, reduceIte, reduceCtorEq, q3]
    have hw1 : IntKind.i64.wrap ((i : Int) + 1) = ((i + 1 : Nat) : Int) := by rw [wrap_id (by omega) (by omega)]; omega
    rw [hw1]
    exact ih (i + 1) _ (by omega) (by simp only [go_sem, binI_lss, binI_leq, binI_gtr, binI_geq, binI_eql, binI_neq, Nat.reduceEqDiff, Nat.reduceAdd, Nat.reduceMul, Nat.reduceSub, Nat.reduceLeDiff, Nat.reduceLT, reduceIte, reduceCtorEq, q1]) (by simp only [go_sem, binI_lss, binI_leq, binI_gtr, binI_geq, binI_eql, binI_neq, Nat.reduceEqDiff, Nat.reduceAdd, Nat.reduceMul, Nat.reduceSub, Nat.reduceLeDiff, Nat.reduceLT, reduceIte, reduceCtorEq, q2]) (by simp only [go_sem, binI_lss, binI_leq, binI_gtr, binI_geq, binI_eql, binI_neq, Nat.reduceEqDiff, Nat.reduceAdd, Nat.reduceMul, Nat.reduceSub, Nat.reduceLeDiff, Nat.reduceLT, reduceIte, reduceCtorEq])

theorem eqFlatB_ok : PairOk F Co.int eqFlatB := by
  rintro H v u l i e hi ⟨h0, a, rfl, h2⟩ ⟨_, a', rfl, h2'⟩ e0 e1 e5
  rcases h2 with h2 | ⟨b, o, rfl, h2⟩
  · rw [h2] at hi; simp at hi
  rcases h2' with h2' | ⟨b', o', rfl, h2'⟩
  · rw [h2'] at hi; simp at hi
  obtain ⟨cs, h3, rfl, _⟩ := h2 i hi
  obtain ⟨cs', h3', rfl, _⟩ := h2' i hi
  have g3 := rng_gc h3
  have g3' := rng_gc h3'
  simp only [Co.int] at g3 g3'
  refine seq_regD ?_
  simp only [go_sem, binI_lss, binI_leq, binI_gtr, binI_geq, binI_eql, binI_neq, Nat.reduceEqDiff, Nat.reduceAdd, Nat.reduceMul, Nat.reduceSub, Nat.reduceLeDiff, Nat.reduceLT, reduceIte, reduceCtorEq, e0, e1, e5, g3]
  refine ⟨⟨by omega, by omega⟩, ⟨by omega, by omega⟩, ?_⟩
  simp only [go_sem, binI_lss, binI_leq, binI_gtr, binI_geq, binI_eql, binI_neq, Nat.reduceEqDiff, Nat.reduceAdd, Nat.reduceMul, Nat.reduceSub, Nat.reduceLeDiff, Nat.reduceLT, reduceIte, reduceCtorEq, g3', bne_self_eq_false]
  refine wpc_cond (t := false) (by simp only [go_sem, binI_lss, binI_leq, binI_gtr, binI_geq, binI_eql, binI_neq, Nat.reduceEqDiff, Nat.reduceAdd, Nat.reduceMul, Nat.reduceSub, Nat.reduceLeDiff, Nat.reduceLT, reduceIte, reduceCtorEq]) ?_
  simp only [go_sem, binI_lss, binI_leq, binI_gtr, binI_geq, binI_eql, binI_neq, Nat.reduceEqDiff, Nat.reduceAdd, Nat.reduceMul, Nat.reduceSub, Nat.reduceLeDiff, Nat.reduceLT, reduceIte, reduceCtorEq]
  refine wpc_skip ⟨rfl, rfl, ?_, ?_, ?_⟩
  · simp only [go_sem, binI_lss, binI_leq, binI_gtr, binI_geq, binI_eql, binI_neq, Nat.reduceEqDiff, Nat.reduceAdd, Nat.reduceMul, Nat.reduceSub, Nat.reduceLeDiff, Nat.reduceLT, reduceIte, reduceCtorEq, e0]
  · simp only [go_sem, binI_lss, binI_leq, binI_gtr, binI_geq, binI_eql, binI_neq, Nat.reduceEqDiff, Nat.reduceAdd, Nat.reduceMul, Nat.reduceSub, Nat.reduceLeDiff, Nat.reduceLT, reduceIte, reduceCtorEq, e1]
  · simp only [go_sem, binI_lss, binI_leq, binI_gtr, binI_geq, binI_eql, binI_neq, Nat.reduceEqDiff, Nat.reduceAdd, Nat.reduceMul, Nat.reduceSub, Nat.reduceLeDiff, Nat.reduceLT, reduceIte, reduceCtorEq, e5]

theorem eqCallB_ok (hg : EqOk F A agg g) (hw : A.w = w) (hva : ∀ V cs a, A.rd V cs a → ∃ v, valOf agg cs = some v) : PairOk F A (eqCallB g w agg) := by
  rintro H v u l i e hi ⟨h0, a, rfl, h2⟩ ⟨_, a', rfl, h2'⟩ e0 e1 e5
  rcases h2 with h2 | ⟨b, o, rfl, h2⟩
  · rw [h2] at hi; simp at hi
  rcases h2' with h2' | ⟨b', o', rfl, h2'⟩
  · rw [h2'] at hi; simp at hi
  obtain ⟨cs, h3, h4⟩ := h2 i hi
  obtain ⟨cs', h3', h4'⟩ := h2' i hi
  obtain ⟨x, hx⟩ := hva _ _ _ h4
  obtain ⟨y, hy⟩ := hva _ _ _ h4'
  have hq := hg H x y l[i] ⟨cs, hx, h4⟩ ⟨cs', hy, h4'⟩
  have g3 := rng_gc h3
  have g3' := rng_gc h3'
  rw [hw] at g3 g3'
  refine seq_regD ?_
  simp only [go_sem, binI_lss, binI_leq, binI_gtr, binI_geq, binI_eql, binI_neq, Nat.reduceEqDiff, Nat.reduceAdd, Nat.reduceMul, Nat.reduceSub, Nat.reduceLeDiff, Nat.reduceLT, reduceIte, reduceCtorEq, e0, e1, e5, g3, hx]
  refine ⟨⟨by omega, by omega⟩, ⟨by omega, by omega⟩, ?_⟩
  simp only [go_sem, binI_lss, binI_leq, binI_gtr, binI_geq, binI_eql, binI_neq, Nat.reduceEqDiff, Nat.reduceAdd, Nat.reduceMul, Nat.reduceSub, Nat.reduceLeDiff, Nat.reduceLT, reduceIte, reduceCtorEq, g3', hy]
  refine op_callQ (v := .bool true) (by simp only [go_sem, binI_lss, binI_leq, binI_gtr, binI_geq, binI_eql, binI_neq, Nat.reduceEqDiff, Nat.reduceAdd, Nat.reduceMul, Nat.reduceSub, Nat.reduceLeDiff, Nat.reduceLT, reduceIte, reduceCtorEq]; exact hq) ?_
  simp only [go_sem, binI_lss, binI_leq, binI_gtr, binI_geq, binI_eql, binI_neq, Nat.reduceEqDiff, Nat.reduceAdd, Nat.reduceMul, Nat.reduceSub, Nat.reduceLeDiff, Nat.reduceLT, reduceIte, reduceCtorEq]
  refine wpc_cond (t := false) (by simp only [go_sem, binI_lss, binI_leq, binI_gtr, binI_geq, binI_eql, binI_neq, Nat.reduceEqDiff, Nat.reduceAdd, Nat.reduceMul, Nat.reduceSub, Nat.reduceLeDiff, Nat.reduceLT, reduceIte, reduceCtorEq]) ?_
  simp only [go_sem, binI_lss, binI_leq, binI_gtr, binI_geq, binI_eql, binI_neq, Nat.reduceEqDiff, Nat.reduceAdd, Nat.reduceMul, Nat.reduceSub, Nat.reduceLeDiff, Nat.reduceLT, reduceIte, reduceCtorEq]
  refine wpc_skip ⟨rfl, rfl, ?_, ?_, ?_⟩
  · simp only [go_sem, binI_lss, binI_leq, binI_gtr, binI_geq, binI_eql, binI_neq, Nat.reduceEqDiff, Nat.reduceAdd, Nat.reduceMul, Nat.reduceSub, Nat.reduceLeDiff, Nat.reduceLT, reduceIte, reduceCtorEq, e0]
  · simp only [go_sem, binI_lss, binI_leq, binI_gtr, binI_geq, binI_eql, binI_neq, Nat.reduceEqDiff, Nat.reduceAdd, Nat.reduceMul, Nat.reduceSub, Nat.reduceLeDiff, Nat.reduceLT, reduceIte, reduceCtorEq, e1]
  · simp only [go_sem, binI_lss, binI_leq, binI_gtr, binI_geq, binI_eql, binI_neq, Nat.reduceEqDiff, Nat.reduceAdd, Nat.reduceMul, Nat.reduceSub, Nat.reduceLeDiff, Nat.reduceLT, reduceIte, reduceCtorEq, e5]
theorem eqFlat_ok (hf : F f = some eqFlat) : EqOk F (Co.sl Co.int) false f := eqSl_ok hf eqFlatB_ok
theorem eqCall_ok (hf : F f = some (eqCall g w agg)) (hg : EqOk F A agg g) (hw : A.w = w) (hva : ∀ V cs a, A.rd V cs a → ∃ v, valOf agg cs = some v) : EqOk F (Co.sl A) false f := eqSl_ok hf (eqCallB_ok hg hw hva)
end
end Go.Proofs.YtkdhdklggdbgdaaI
