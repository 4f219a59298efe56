/- The number of a part's words, told twice. -/
import Derived.Test.YtkdhdklggdbgdaaP1
set_option linter.unusedVariables false
set_option linter.unusedSimpArgs false
namespace Go.Proofs.YtkdhdklggdbgdaaI
open Go Go.RowKit
def c_sPartCount : IFn := ⟨1, 21, [.t 2],
 .seq (.reg none [
    ⟨(some 1), none, .box (.t 0)⟩,
    ⟨(some 2), none, .mov (.c (.int .i64 0))⟩])
 (.seq (.reg none [
    ⟨(some 3), none, .mov (.c (.int .i64 0))⟩])
 (.seq (.seq (.reg none [
     ⟨(some 4), none, .mov (.c (.int .i64 0))⟩])
  (.block 0 (.loop (.seq (.seq (.reg none [
        ⟨(some 5), none, .mov (.t 4)⟩,
        ⟨(some 6), none, .fad 3 (.t 1)⟩,
        ⟨(some 7), none, .load false 1 (.t 6)⟩,
        ⟨(some 8), none, .len (.t 7)⟩,
        ⟨(some 9), none, .bin .lss (.t 5) (.t 8)⟩])
     (.cond (.t 9) (.skip) (.exit 0)))
    (.seq (.block 1 (.reg none [
        ⟨(some 12), none, .mov (.t 3)⟩,
        ⟨(some 13), none, .fad 3 (.t 1)⟩,
        ⟨(some 14), none, .load false 1 (.t 13)⟩,
        ⟨(some 15), none, .mov (.t 4)⟩,
        ⟨(some 16), none, .iad 1 (.t 14) (.t 15)⟩,
        ⟨(some 17), none, .load false 1 (.t 16)⟩,
        ⟨(some 18), none, .len (.t 17)⟩,
        ⟨(some 19), none, .bin .add (.t 12) (.t 18)⟩,
        ⟨(some 3), none, .mov (.t 19)⟩]))
    (.reg none [
      ⟨(some 10), none, .mov (.t 4)⟩,
      ⟨(some 11), none, .bin .add (.t 10) (.c (.int .i64 1))⟩,
      ⟨(some 4), none, .mov (.t 11)⟩]))))))
 (.seq (.reg none [
    ⟨(some 20), none, .mov (.t 3)⟩,
    ⟨(some 2), none, .mov (.t 20)⟩])
 (.ret))))⟩
def c_iPartCount : IFn := ⟨1, 19, [.t 2],
 .seq (.reg none [
    ⟨(some 1), none, .box (.t 0)⟩,
    ⟨(some 2), none, .mov (.c (.int .i64 0))⟩])
 (.seq (.reg none [
    ⟨(some 3), none, .mov (.c (.int .i64 0))⟩])
 (.seq (.seq (.reg none [
     ⟨(some 6), none, .fad 3 (.t 1)⟩,
     ⟨(some 7), none, .load false 1 (.t 6)⟩,
     ⟨(some 8), none, .len (.t 7)⟩,
     ⟨(some 9), none, .mov (.c (.int .i64 0))⟩])
  (.block 0 (.loop (.seq (.reg none [
       ⟨(some 10), none, .bin .lss (.t 9) (.t 8)⟩])
    (.seq (.cond (.t 10) (.skip) (.exit 0))
    (.seq (.block 1 (.seq (.reg none [
         ⟨(some 11), none, .iad 1 (.t 7) (.t 9)⟩,
         ⟨(some 12), none, .load false 1 (.t 11)⟩,
         ⟨(some 5), none, .mov (.t 12)⟩])
      (.reg none [
        ⟨(some 13), none, .mov (.t 3)⟩,
        ⟨(some 14), none, .mov (.t 5)⟩,
        ⟨(some 15), none, .len (.t 14)⟩,
        ⟨(some 16), none, .bin .add (.t 13) (.t 15)⟩,
        ⟨(some 3), none, .mov (.t 16)⟩])))
    (.reg none [
      ⟨(some 17), none, .bin .add (.t 9) (.c (.int .i64 1))⟩,
      ⟨(some 9), none, .mov (.t 17)⟩])))))))
 (.seq (.reg none [
    ⟨(some 18), none, .mov (.t 3)⟩,
    ⟨(some 2), none, .mov (.t 18)⟩])
 (.ret))))⟩
def c_law : IFn := ⟨1, 27, [.t 2],
 .seq (.reg none [
    ⟨(some 1), none, .box (.t 0)⟩,
    ⟨(some 2), none, .mov (.c (.bool false))⟩])
 (.seq (.reg none [
    ⟨(some 3), none, .mov (.c (.int .i64 1048576))⟩])
 (.seq (.reg none [
    ⟨(some 7), none, .load true 5 (.t 1)⟩,
    ⟨(some 8), none, .mov (.t 3)⟩,
    ⟨(some 9), none, .call .q (.f 6) [(.t 7), (.t 8)]⟩,
    ⟨(some 3), none, .mov (.t 9)⟩])
 (.seq (.seq (.reg none [
     ⟨(some 10), none, .mov (.t 3)⟩,
     ⟨(some 11), none, .bin .lss (.t 10) (.c (.int .i64 0))⟩])
  (.cond (.t 11) (.seq (.reg none [
      ⟨(some 2), none, .mov (.c (.bool true))⟩])
   (.ret)) (.skip)))
 (.seq (.reg none [
    ⟨(some 12), none, .load true 5 (.t 1)⟩,
    ⟨(some 13), none, .call .k (.f 8) [(.t 12)]⟩,
    ⟨(some 14), none, .call .q (.f 7) [(.t 13)]⟩,
    ⟨(some 4), none, .mov (.t 14)⟩])
 (.seq (.reg none [
    ⟨(some 15), none, .load true 5 (.t 1)⟩,
    ⟨(some 16), none, .call .k (.f 8) [(.t 15)]⟩,
    ⟨(some 5), none, .new [(.slice none 0 0), (.slice none 0 0), (.slice none 0 0), (.slice none 0 0), (.bool false)]⟩,
    ⟨none, none, .store 5 (.t 5) (.t 16)⟩])
 (.seq (.reg none [
    ⟨(some 17), none, .load true 5 (.t 5)⟩,
    ⟨(some 18), none, .call .q (.f 9) [(.t 17)]⟩,
    ⟨(some 6), none, .mov (.t 18)⟩])
 (.seq (.seq (.reg none [
     ⟨(some 19), none, .mov (.t 6)⟩,
     ⟨(some 20), none, .mov (.t 4)⟩,
     ⟨(some 21), none, .bin .neq (.t 19) (.t 20)⟩])
  (.cond (.t 21) (.seq (.reg none [
      ⟨(some 2), none, .mov (.c (.bool false))⟩])
   (.ret)) (.skip)))
 (.seq (.seq (.reg (some 3) [
     ⟨(some 22), none, .load true 5 (.t 5)⟩,
     ⟨(some 23), none, .load true 5 (.t 1)⟩,
     ⟨(some 24), none, .call .k (.f 8) [(.t 23)]⟩,
     ⟨(some 25), none, .call .q (.f 10) [(.t 22), (.t 24)]⟩,
     ⟨(some 26), none, .un .not (.t 25)⟩])
  (.cond (.t 26) (.seq (.reg none [
      ⟨(some 2), none, .mov (.c (.bool false))⟩])
   (.ret)) (.skip)))
 (.seq (.reg none [
    ⟨(some 2), none, .mov (.c (.bool true))⟩])
 (.ret))))))))))⟩

def pcount {α : Type} (s : Int) : List (List α) → Int
  | [] => s
  | x :: r => pcount (IntKind.i64.wrap (s + x.length)) r
theorem pcount_at {α : Type} (s : Int) (l : List (List α)) (i : Nat) (h : i < l.length) : pcount s (l.drop i) = pcount (IntKind.i64.wrap (s + l[i].length)) (l.drop (i + 1)) := by
  rw [List.drop_eq_getElem_cons h]; rfl
theorem sPartCount_ok {F : Nat → Option IFn} {f : Nat} (hf : F f = some c_sPartCount) : ∀ (H : Heap) (v : Value) a, Rd Co.part true (vw 0 H) v a → QC F f [v] H (.int .i64 (pcount 0 a.2.1)) := by
  rintro H v ⟨⟨a0, a1, a2⟩, a3, a4⟩ ⟨cs, hc, _, _, rfl, ⟨_, _, rfl, ⟨v0, rfl, r0⟩, _, _, rfl, ⟨v1, rfl, r1⟩, ⟨v2, rfl, r2⟩⟩, _, _, rfl, ⟨v3, rfl, r3⟩, rfl⟩
  simp only [go_sem, Nat.reduceEqDiff, Nat.reduceAdd, Nat.reduceMul, Nat.reduceSub, Nat.reduceLeDiff, Nat.reduceLT, reduceIte, reduceCtorEq, Option.some.injEq] at hc
  subst hc
  obtain ⟨_, x0⟩ := r0.shape
  subst x0
  obtain ⟨_, x1⟩ := r1.shape
  subst x1
  obtain ⟨_, x2⟩ := r2.shape
  subst x2
  obtain ⟨h0, a, rfl, h2⟩ := r3
  simp only at h0
  refine QC.mk hf rfl ?_
  refine seq_reg ?_
  simp only [go_sem, Nat.reduceEqDiff, Nat.reduceAdd, Nat.reduceMul, Nat.reduceSub, Nat.reduceLeDiff, Nat.reduceLT, reduceIte, reduceCtorEq]
  refine seq_reg ?_
  simp only [go_sem, Nat.reduceEqDiff, Nat.reduceAdd, Nat.reduceMul, Nat.reduceSub, Nat.reduceLeDiff, Nat.reduceLT, reduceIte, reduceCtorEq]
  refine seq_assoc (seq_reg ?_)
  simp only [go_sem, Nat.reduceEqDiff, Nat.reduceAdd, Nat.reduceMul, Nat.reduceSub, Nat.reduceLeDiff, Nat.reduceLT, reduceIte, reduceCtorEq]
  refine seq_block (wpc_loop ?_)
  suffices h : ∀ (k i : Nat) (e : Env) (s : Int), i + k = a3.length → e 1 = ptr H.length 0 → e 3 = .int .i64 s → e 4 = .int .i64 i → pcount s (a3.drop i) = pcount 0 a3 → W F H.length _ e _ _ from h a3.length 0 _ 0 (by omega) (by simp only [go_sem, Nat.reduceEqDiff, Nat.reduceAdd, Nat.reduceMul, Nat.reduceSub, Nat.reduceLeDiff, Nat.reduceLT, reduceIte, reduceCtorEq]) (by simp only [go_sem, Nat.reduceEqDiff, Nat.reduceAdd, Nat.reduceMul, Nat.reduceSub, Nat.reduceLeDiff, Nat.reduceLT, reduceIte, reduceCtorEq]) (by simp only [go_sem, Nat.reduceEqDiff, Nat.reduceAdd, Nat.reduceMul, Nat.reduceSub, Nat.reduceLeDiff, Nat.reduceLT, reduceIte, reduceCtorEq]; rfl) rfl
  intro k
  induction k with
  | zero =>
    intro i e s hi e1 e3 e4 hp
    refine lp_step ?_
    refine seq_assoc (seq_reg ?_)
    simp only [go_sem, Nat.reduceEqDiff, Nat.reduceAdd, Nat.reduceMul, Nat.reduceSub, Nat.reduceLeDiff, Nat.reduceLT, reduceIte, reduceCtorEq, e1, e4]
    refine seq_cond (t := false) (by simp only [go_sem, Nat.reduceEqDiff, Nat.reduceAdd, Nat.reduceMul, Nat.reduceSub, Nat.reduceLeDiff, Nat.reduceLT, reduceIte, reduceCtorEq]; rw [decide_eq_false (by omega)]) ?_
    simp only [go_sem, Nat.reduceEqDiff, Nat.reduceAdd, Nat.reduceMul, Nat.reduceSub, Nat.reduceLeDiff, Nat.reduceLT, reduceIte, reduceCtorEq]
    refine seq_exit ?_
    simp only [go_sem, Nat.reduceEqDiff, Nat.reduceAdd, Nat.reduceMul, Nat.reduceSub, Nat.reduceLeDiff, Nat.reduceLT, reduceIte, reduceCtorEq, thenX_e, out_e, thenX_n]
    refine seq_reg ?_
    simp only [go_sem, Nat.reduceEqDiff, Nat.reduceAdd, Nat.reduceMul, Nat.reduceSub, Nat.reduceLeDiff, Nat.reduceLT, reduceIte, reduceCtorEq, e3]
    refine wpc_ret ⟨Or.inr rfl, .int .i64 s, by simp only [go_sem, Nat.reduceEqDiff, Nat.reduceAdd, Nat.reduceMul, Nat.reduceSub, Nat.reduceLeDiff, Nat.reduceLT, reduceIte, reduceCtorEq], ?_, rfl⟩
    rw [List.drop_of_length_le (by omega)] at hp
    exact congrArg _ hp
  | succ k ih =>
    intro i e s hi e1 e3 e4 hp
    refine lp_step ?_
    refine seq_assoc (seq_reg ?_)
    simp only [go_sem, Nat.reduceEqDiff, Nat.reduceAdd, Nat.reduceMul, Nat.reduceSub, Nat.reduceLeDiff, Nat.reduceLT, reduceIte, reduceCtorEq, e1, e4]
    refine seq_cond (t := true) (by simp only [go_sem, Nat.reduceEqDiff, Nat.reduceAdd, Nat.reduceMul, Nat.reduceSub, Nat.reduceLeDiff, Nat.reduceLT, reduceIte, reduceCtorEq]; rw [decide_eq_true (by omega)]) ?_
    simp only [go_sem, Nat.reduceEqDiff, Nat.reduceAdd, Nat.reduceMul, Nat.reduceSub, Nat.reduceLeDiff, Nat.reduceLT, reduceIte, reduceCtorEq]
    have hil : i < a3.length := by omega
    rcases h2 with h2 | ⟨b, o, rfl, h2⟩
    · have h2q : a3 = [] := h2
      rw [h2q] at hil; simp at hil
    obtain ⟨cs, h3, ⟨w, rfl, h4⟩⟩ := h2 i hil
    obtain ⟨_, x4⟩ := h4.shape
    subst x4
    have g3 := fun L => rng_gc (rng_sub (vw_app 0 H L) h3)
    simp only [Co.sl] at g3
    refine seq_skip (seq_block (wpc_reg ?_))
    simp only [go_sem, Nat.reduceEqDiff, Nat.reduceAdd, Nat.reduceMul, Nat.reduceSub, Nat.reduceLeDiff, Nat.reduceLT, reduceIte, reduceCtorEq, e1, e3, e4, g3]
    refine ⟨⟨by omega, by omega⟩, ?_⟩
    simp only [go_sem, Nat.reduceEqDiff, Nat.reduceAdd, Nat.reduceMul, Nat.reduceSub, Nat.reduceLeDiff, Nat.reduceLT, reduceIte, reduceCtorEq, out_n, thenX_n]
    refine wpc_reg ?_
    simp only [go_sem, Nat.reduceEqDiff, Nat.reduceAdd, Nat.reduceMul, Nat.reduceSub, Nat.reduceLeDiff, Nat.reduceLT, reduceIte, reduceCtorEq, e4]
    have hw1 : IntKind.i64.wrap ((i : Int) + 1) = ((i + 1 : Nat) : Int) := by rw [wrap_id (by omega) (by omega)]; omega
    rw [hw1]
    exact ih (i + 1) _ _ (by omega) (by simp only [go_sem, Nat.reduceEqDiff, Nat.reduceAdd, Nat.reduceMul, Nat.reduceSub, Nat.reduceLeDiff, Nat.reduceLT, reduceIte, reduceCtorEq, e1]) (by simp only [go_sem, Nat.reduceEqDiff, Nat.reduceAdd, Nat.reduceMul, Nat.reduceSub, Nat.reduceLeDiff, Nat.reduceLT, reduceIte, reduceCtorEq]) (by simp only [go_sem, Nat.reduceEqDiff, Nat.reduceAdd, Nat.reduceMul, Nat.reduceSub, Nat.reduceLeDiff, Nat.reduceLT, reduceIte, reduceCtorEq]) ((pcount_at s a3 i hil).symm.trans hp)
theorem iPartCount_ok {F : Nat → Option IFn} {f : Nat} (hf : F f = some c_iPartCount) : ∀ (H : Heap) (v : Value) a, Rd Co.part true (vw 0 H) v a → QC F f [v] H (.int .i64 (pcount 0 a.2.1)) := by
  rintro H v ⟨⟨a0, a1, a2⟩, a3, a4⟩ ⟨cs, hc, _, _, rfl, ⟨_, _, rfl, ⟨v0, rfl, r0⟩, _, _, rfl, ⟨v1, rfl, r1⟩, ⟨v2, rfl, r2⟩⟩, _, _, rfl, ⟨v3, rfl, r3⟩, rfl⟩
  simp only [go_sem, Nat.reduceEqDiff, Nat.reduceAdd, Nat.reduceMul, Nat.reduceSub, Nat.reduceLeDiff, Nat.reduceLT, reduceIte, reduceCtorEq, Option.some.injEq] at hc
  subst hc
  obtain ⟨_, x0⟩ := r0.shape
  subst x0
  obtain ⟨_, x1⟩ := r1.shape
  subst x1
  obtain ⟨_, x2⟩ := r2.shape
  subst x2
  obtain ⟨h0, a, rfl, h2⟩ := r3
  simp only at h0
  refine QC.mk hf rfl ?_
  refine seq_reg ?_
  simp only [go_sem, Nat.reduceEqDiff, Nat.reduceAdd, Nat.reduceMul, Nat.reduceSub, Nat.reduceLeDiff, Nat.reduceLT, reduceIte, reduceCtorEq]
  refine seq_reg ?_
  simp only [go_sem, Nat.reduceEqDiff, Nat.reduceAdd, Nat.reduceMul, Nat.reduceSub, Nat.reduceLeDiff, Nat.reduceLT, reduceIte, reduceCtorEq]
  refine seq_assoc (seq_reg ?_)
  simp only [go_sem, Nat.reduceEqDiff, Nat.reduceAdd, Nat.reduceMul, Nat.reduceSub, Nat.reduceLeDiff, Nat.reduceLT, reduceIte, reduceCtorEq]
  refine seq_block (wpc_loop ?_)
  suffices h : ∀ (k i : Nat) (e : Env) (s : Int), i + k = a3.length → e 7 = .slice a a3.length a3.length → e 8 = .int .i64 a3.length → e 3 = .int .i64 s → e 9 = .int .i64 i → pcount s (a3.drop i) = pcount 0 a3 → W F H.length _ e _ _ from h a3.length 0 _ 0 (by omega) (by simp only [go_sem, Nat.reduceEqDiff, Nat.reduceAdd, Nat.reduceMul, Nat.reduceSub, Nat.reduceLeDiff, Nat.reduceLT, reduceIte, reduceCtorEq]) (by simp only [go_sem, Nat.reduceEqDiff, Nat.reduceAdd, Nat.reduceMul, Nat.reduceSub, Nat.reduceLeDiff, Nat.reduceLT, reduceIte, reduceCtorEq]) (by simp only [go_sem, Nat.reduceEqDiff, Nat.reduceAdd, Nat.reduceMul, Nat.reduceSub, Nat.reduceLeDiff, Nat.reduceLT, reduceIte, reduceCtorEq]) (by simp only [go_sem, Nat.reduceEqDiff, Nat.reduceAdd, Nat.reduceMul, Nat.reduceSub, Nat.reduceLeDiff, Nat.reduceLT, reduceIte, reduceCtorEq]; rfl) rfl
  intro k
  induction k with
  | zero =>
    intro i e s hi e7 e8 e3 e9 hp
    refine lp_step ?_
    refine seq_reg ?_
    simp only [go_sem, Nat.reduceEqDiff, Nat.reduceAdd, Nat.reduceMul, Nat.reduceSub, Nat.reduceLeDiff, Nat.reduceLT, reduceIte, reduceCtorEq, e8, e9]
    refine seq_cond (t := false) (by simp only [go_sem, Nat.reduceEqDiff, Nat.reduceAdd, Nat.reduceMul, Nat.reduceSub, Nat.reduceLeDiff, Nat.reduceLT, reduceIte, reduceCtorEq]; rw [decide_eq_false (by omega)]) ?_
    simp only [go_sem, Nat.reduceEqDiff, Nat.reduceAdd, Nat.reduceMul, Nat.reduceSub, Nat.reduceLeDiff, Nat.reduceLT, reduceIte, reduceCtorEq]
    refine seq_exit ?_
    simp only [go_sem, Nat.reduceEqDiff, Nat.reduceAdd, Nat.reduceMul, Nat.reduceSub, Nat.reduceLeDiff, Nat.reduceLT, reduceIte, reduceCtorEq, thenX_e, out_e, thenX_n]
    refine seq_reg ?_
    simp only [go_sem, Nat.reduceEqDiff, Nat.reduceAdd, Nat.reduceMul, Nat.reduceSub, Nat.reduceLeDiff, Nat.reduceLT, reduceIte, reduceCtorEq, e3]
    refine wpc_ret ⟨Or.inr rfl, .int .i64 s, by simp only [go_sem, Nat.reduceEqDiff, Nat.reduceAdd, Nat.reduceMul, Nat.reduceSub, Nat.reduceLeDiff, Nat.reduceLT, reduceIte, reduceCtorEq], ?_, rfl⟩
    rw [List.drop_of_length_le (by omega)] at hp
    exact congrArg _ hp
  | succ k ih =>
    intro i e s hi e7 e8 e3 e9 hp
    refine lp_step ?_
    refine seq_reg ?_
    simp only [go_sem, Nat.reduceEqDiff, Nat.reduceAdd, Nat.reduceMul, Nat.reduceSub, Nat.reduceLeDiff, Nat.reduceLT, reduceIte, reduceCtorEq, e8, e9]
    refine seq_cond (t := true) (by simp only [go_sem, Nat.reduceEqDiff, Nat.reduceAdd, Nat.reduceMul, Nat.reduceSub, Nat.reduceLeDiff, Nat.reduceLT, reduceIte, reduceCtorEq]; rw [decide_eq_true (by omega)]) ?_
    simp only [go_sem, Nat.reduceEqDiff, Nat.reduceAdd, Nat.reduceMul, Nat.reduceSub, Nat.reduceLeDiff, Nat.reduceLT, reduceIte, reduceCtorEq]
    have hil : i < a3.length := by omega
    rcases h2 with h2 | ⟨b, o, rfl, h2⟩
    · have h2q : a3 = [] := h2
      rw [h2q] at hil; simp at hil
    obtain ⟨cs, h3, ⟨w, rfl, h4⟩⟩ := h2 i hil
    obtain ⟨_, x4⟩ := h4.shape
    subst x4
    have g3 := fun L => rng_gc (rng_sub (vw_app 0 H L) h3)
    simp only [Co.sl] at g3
    refine seq_skip (seq_block (seq_reg ?_))
    simp only [go_sem, Nat.reduceEqDiff, Nat.reduceAdd, Nat.reduceMul, Nat.reduceSub, Nat.reduceLeDiff, Nat.reduceLT, reduceIte, reduceCtorEq, e7, e9, g3]
    refine ⟨⟨by omega, by omega⟩, ?_⟩
    refine wpc_reg ?_
    simp only [go_sem, Nat.reduceEqDiff, Nat.reduceAdd, Nat.reduceMul, Nat.reduceSub, Nat.reduceLeDiff, Nat.reduceLT, reduceIte, reduceCtorEq, e3, out_n, thenX_n]
    refine wpc_reg ?_
    simp only [go_sem, Nat.reduceEqDiff, Nat.reduceAdd, Nat.reduceMul, Nat.reduceSub, Nat.reduceLeDiff, Nat.reduceLT, reduceIte, reduceCtorEq, e9]
    have hw1 : IntKind.i64.wrap ((i : Int) + 1) = ((i + 1 : Nat) : Int) := by rw [wrap_id (by omega) (by omega)]; omega
    rw [hw1]
    exact ih (i + 1) _ _ (by omega) (by simp only [go_sem, Nat.reduceEqDiff, Nat.reduceAdd, Nat.reduceMul, Nat.reduceSub, Nat.reduceLeDiff, Nat.reduceLT, reduceIte, reduceCtorEq, e7]) (by simp only [go_sem, Nat.reduceEqDiff, Nat.reduceAdd, Nat.reduceMul, Nat.reduceSub, Nat.reduceLeDiff, Nat.reduceLT, reduceIte, reduceCtorEq, e8]) (by simp only [go_sem, Nat.reduceEqDiff, Nat.reduceAdd, Nat.reduceMul, Nat.reduceSub, Nat.reduceLeDiff, Nat.reduceLT, reduceIte, reduceCtorEq]) (by simp only [go_sem, Nat.reduceEqDiff, Nat.reduceAdd, Nat.reduceMul, Nat.reduceSub, Nat.reduceLeDiff, Nat.reduceLT, reduceIte, reduceCtorEq]) ((pcount_at s a3 i hil).symm.trans hp)

theorem setL_full {cs vs : List Value} (h : vs.length = cs.length) : setL cs 0 vs = vs := by
  rw [setL_eq _ _ _ (by omega), List.take_zero, List.nil_append, List.drop_of_length_le (by omega), List.append_nil]
theorem law_ok {F : Nat → Option IFn} {f : Nat} (hf : F f = some c_law) (gs : SzOk F Co.part true 6) (gt : ToOk F Co.part true .k 8) (ge : EqOk F Co.part true 10)
    (gp : ∀ (H : Heap) (v : Value) a, Rd Co.part true (vw 0 H) v a → QC F 7 [v] H (.int .i64 (pcount 0 a.2.1)))
    (gi : ∀ (H : Heap) (v : Value) a, Rd Co.part true (vw 0 H) v a → QC F 9 [v] H (.int .i64 (pcount 0 a.2.1))) :
    ∀ (H : Heap) (v : Value) a, Rd Co.part true (vw 0 H) v a → QC F f [v] H (.bool true) := by
  intro H v a hr
  have hr' := hr
  obtain ⟨cs, hc, hcs⟩ := hr
  have hl := Co.part.len hcs
  have ho : cs.all one = true := by rw [List.all_eq_true]; exact Co.part.ones hcs
  simp only [go_sem, Nat.reduceEqDiff, Nat.reduceAdd, Nat.reduceMul, Nat.reduceSub, Nat.reduceLeDiff, Nat.reduceLT, reduceIte, reduceCtorEq, Option.some.injEq] at hc
  subst hc
  refine QC.mk hf rfl ?_
  refine seq_reg ?_
  simp only [go_sem, Nat.reduceEqDiff, Nat.reduceAdd, Nat.reduceMul, Nat.reduceSub, Nat.reduceLeDiff, Nat.reduceLT, reduceIte, reduceCtorEq, ho]
  refine seq_reg ?_
  simp only [go_sem, Nat.reduceEqDiff, Nat.reduceAdd, Nat.reduceMul, Nat.reduceSub, Nat.reduceLeDiff, Nat.reduceLT, reduceIte, reduceCtorEq]
  refine seq_reg ?_
  simp only [go_sem, Nat.reduceEqDiff, Nat.reduceAdd, Nat.reduceMul, Nat.reduceSub, Nat.reduceLeDiff, Nat.reduceLT, reduceIte, reduceCtorEq, inBlk, (show cs.length = 5 from hl), List.take_of_length_le (Nat.le_of_eq (show cs.length = 5 from hl))]
  obtain ⟨r, q1, q2, q3⟩ := gs (H ++ [⟨cs, 0, 0, false, true⟩]) _ a 1048576 (hr'.mono (vw_app 0 H _)) (by omega) (by omega)
  refine op_callQ (by simp only [go_sem, Nat.reduceEqDiff, Nat.reduceAdd, Nat.reduceMul, Nat.reduceSub, Nat.reduceLeDiff, Nat.reduceLT, reduceIte, reduceCtorEq]; exact q1) ?_
  simp only [go_sem, Nat.reduceEqDiff, Nat.reduceAdd, Nat.reduceMul, Nat.reduceSub, Nat.reduceLeDiff, Nat.reduceLT, reduceIte, reduceCtorEq]
  refine seq_assoc (seq_reg ?_)
  simp only [go_sem, Nat.reduceEqDiff, Nat.reduceAdd, Nat.reduceMul, Nat.reduceSub, Nat.reduceLeDiff, Nat.reduceLT, reduceIte, reduceCtorEq]
  by_cases hn : r < 0
  · refine seq_cond (t := true) (by simp only [go_sem, Nat.reduceEqDiff, Nat.reduceAdd, Nat.reduceMul, Nat.reduceSub, Nat.reduceLeDiff, Nat.reduceLT, reduceIte, reduceCtorEq]; rw [decide_eq_true hn]) ?_
    simp only [go_sem, Nat.reduceEqDiff, Nat.reduceAdd, Nat.reduceMul, Nat.reduceSub, Nat.reduceLeDiff, Nat.reduceLT, reduceIte, reduceCtorEq]
    refine seq_assoc (seq_reg ?_)
    simp only [go_sem, Nat.reduceEqDiff, Nat.reduceAdd, Nat.reduceMul, Nat.reduceSub, Nat.reduceLeDiff, Nat.reduceLT, reduceIte, reduceCtorEq]
    exact seq_ret ⟨Or.inr rfl, .bool true, by simp only [go_sem, Nat.reduceEqDiff, Nat.reduceAdd, Nat.reduceMul, Nat.reduceSub, Nat.reduceLeDiff, Nat.reduceLT, reduceIte, reduceCtorEq], rfl, rfl⟩
  refine seq_cond (t := false) (by simp only [go_sem, Nat.reduceEqDiff, Nat.reduceAdd, Nat.reduceMul, Nat.reduceSub, Nat.reduceLeDiff, Nat.reduceLT, reduceIte, reduceCtorEq]; rw [decide_eq_false hn]) ?_
  simp only [go_sem, Nat.reduceEqDiff, Nat.reduceAdd, Nat.reduceMul, Nat.reduceSub, Nat.reduceLeDiff, Nat.reduceLT, reduceIte, reduceCtorEq]
  have hs := q3 (by omega)
  refine seq_skip (seq_reg ?_)
  simp only [go_sem, Nat.reduceEqDiff, Nat.reduceAdd, Nat.reduceMul, Nat.reduceSub, Nat.reduceLeDiff, Nat.reduceLT, reduceIte, reduceCtorEq, inBlk, (show cs.length = 5 from hl), List.take_of_length_le (Nat.le_of_eq (show cs.length = 5 from hl))]
  refine gt _ _ a (hr'.mono (vw_app 0 H _)) hs _ _ _ _ (by simp only [go_sem, Nat.reduceEqDiff, Nat.reduceAdd, Nat.reduceMul, Nat.reduceSub, Nat.reduceLeDiff, Nat.reduceLT, reduceIte, reduceCtorEq]) ?_
  intro w0 L0 hw0
  simp only [go_sem, Nat.reduceEqDiff, Nat.reduceAdd, Nat.reduceMul, Nat.reduceSub, Nat.reduceLeDiff, Nat.reduceLT, reduceIte, reduceCtorEq] at hw0
  simp only [go_sem, Nat.reduceEqDiff, Nat.reduceAdd, Nat.reduceMul, Nat.reduceSub, Nat.reduceLeDiff, Nat.reduceLT, reduceIte, reduceCtorEq]
  refine op_callQ (by simp only [go_sem, Nat.reduceEqDiff, Nat.reduceAdd, Nat.reduceMul, Nat.reduceSub, Nat.reduceLeDiff, Nat.reduceLT, reduceIte, reduceCtorEq]; exact gp _ _ a (hw0.mono (vw_grow (Nat.zero_le _) fun _ _ _ => rfl))) ?_
  simp only [go_sem, Nat.reduceEqDiff, Nat.reduceAdd, Nat.reduceMul, Nat.reduceSub, Nat.reduceLeDiff, Nat.reduceLT, reduceIte, reduceCtorEq]
  refine seq_reg ?_
  simp only [go_sem, Nat.reduceEqDiff, Nat.reduceAdd, Nat.reduceMul, Nat.reduceSub, Nat.reduceLeDiff, Nat.reduceLT, reduceIte, reduceCtorEq, inBlk, (show cs.length = 5 from hl), List.take_of_length_le (Nat.le_of_eq (show cs.length = 5 from hl))]
  refine gt _ _ a (hr'.mono (vw_app 0 H _)) hs _ _ _ _ (by simp only [go_sem, Nat.reduceEqDiff, Nat.reduceAdd, Nat.reduceMul, Nat.reduceSub, Nat.reduceLeDiff, Nat.reduceLT, reduceIte, reduceCtorEq]) ?_
  rintro w1 L1 hw1
  have hw1' := fun z => hw1.mono (Sub.trans (vw_grow (Nat.zero_le _) fun _ _ _ => rfl) (vw_app 0 _ [z]))
  simp only [go_sem, Nat.reduceEqDiff, Nat.reduceAdd, Nat.reduceMul, Nat.reduceSub, Nat.reduceLeDiff, Nat.reduceLT, reduceIte, reduceCtorEq] at hw1'
  obtain ⟨cs1, hc1, hcs1⟩ := hw1
  have hl1 := Co.part.len hcs1
  have ho1 : cs1.all one = true := by rw [List.all_eq_true]; exact Co.part.ones hcs1
  simp only [go_sem, Nat.reduceEqDiff, Nat.reduceAdd, Nat.reduceMul, Nat.reduceSub, Nat.reduceLeDiff, Nat.reduceLT, reduceIte, reduceCtorEq, Option.some.injEq] at hc1
  subst hc1
  have f5 : cs1.length = 5 := hl1
  have f6 : List.take 5 cs1 = cs1 := List.take_of_length_le (by omega)
  simp only [go_sem, Nat.reduceEqDiff, Nat.reduceAdd, Nat.reduceMul, Nat.reduceSub, Nat.reduceLeDiff, Nat.reduceLT, reduceIte, reduceCtorEq, ho1, f5, setL_full]
  refine seq_reg ?_
  simp only [go_sem, Nat.reduceEqDiff, Nat.reduceAdd, Nat.reduceMul, Nat.reduceSub, Nat.reduceLeDiff, Nat.reduceLT, reduceIte, reduceCtorEq, inBlk, f5, f6]
  refine op_callQ (by simp only [go_sem, Nat.reduceEqDiff, Nat.reduceAdd, Nat.reduceMul, Nat.reduceSub, Nat.reduceLeDiff, Nat.reduceLT, reduceIte, reduceCtorEq]; exact gi _ _ a (hw1' _)) ?_
  simp only [go_sem, Nat.reduceEqDiff, Nat.reduceAdd, Nat.reduceMul, Nat.reduceSub, Nat.reduceLeDiff, Nat.reduceLT, reduceIte, reduceCtorEq]
  refine seq_assoc (seq_reg ?_)
  simp only [go_sem, Nat.reduceEqDiff, Nat.reduceAdd, Nat.reduceMul, Nat.reduceSub, Nat.reduceLeDiff, Nat.reduceLT, reduceIte, reduceCtorEq, bne_self_eq_false]
  refine seq_cond (t := false) (by simp only [go_sem, Nat.reduceEqDiff, Nat.reduceAdd, Nat.reduceMul, Nat.reduceSub, Nat.reduceLeDiff, Nat.reduceLT, reduceIte, reduceCtorEq]) ?_
  simp only [go_sem, Nat.reduceEqDiff, Nat.reduceAdd, Nat.reduceMul, Nat.reduceSub, Nat.reduceLeDiff, Nat.reduceLT, reduceIte, reduceCtorEq]
  refine seq_skip (seq_assoc (seq_regD ?_))
  simp only [go_sem, Nat.reduceEqDiff, Nat.reduceAdd, Nat.reduceMul, Nat.reduceSub, Nat.reduceLeDiff, Nat.reduceLT, reduceIte, reduceCtorEq, inBlk, f5, f6, (show cs.length = 5 from hl), List.take_of_length_le (Nat.le_of_eq (show cs.length = 5 from hl))]
  refine gt _ _ a (hr'.mono (vw_app 0 H _)) hs _ _ _ _ (by simp only [go_sem, Nat.reduceEqDiff, Nat.reduceAdd, Nat.reduceMul, Nat.reduceSub, Nat.reduceLeDiff, Nat.reduceLT, reduceIte, reduceCtorEq]) ?_
  intro w2 L2 hw2
  have hw1'' := fun z => (hw1' z).mono (vw_app 0 _ L2)
  simp only [go_sem, Nat.reduceEqDiff, Nat.reduceAdd, Nat.reduceMul, Nat.reduceSub, Nat.reduceLeDiff, Nat.reduceLT, reduceIte, reduceCtorEq] at hw2 hw1''
  simp only [go_sem, Nat.reduceEqDiff, Nat.reduceAdd, Nat.reduceMul, Nat.reduceSub, Nat.reduceLeDiff, Nat.reduceLT, reduceIte, reduceCtorEq]
  refine op_callQ (by simp only [go_sem, Nat.reduceEqDiff, Nat.reduceAdd, Nat.reduceMul, Nat.reduceSub, Nat.reduceLeDiff, Nat.reduceLT, reduceIte, reduceCtorEq]; exact ge _ _ _ a (hw1'' _) (hw2.mono (vw_grow (Nat.zero_le _) fun _ _ _ => rfl))) ?_
  simp only [go_sem, Nat.reduceEqDiff, Nat.reduceAdd, Nat.reduceMul, Nat.reduceSub, Nat.reduceLeDiff, Nat.reduceLT, reduceIte, reduceCtorEq]
  refine seq_cond (t := false) (by simp only [go_sem, Nat.reduceEqDiff, Nat.reduceAdd, Nat.reduceMul, Nat.reduceSub, Nat.reduceLeDiff, Nat.reduceLT, reduceIte, reduceCtorEq]) ?_
  simp only [go_sem, Nat.reduceEqDiff, Nat.reduceAdd, Nat.reduceMul, Nat.reduceSub, Nat.reduceLeDiff, Nat.reduceLT, reduceIte, reduceCtorEq]
  refine seq_skip (seq_reg ?_)
  simp only [go_sem, Nat.reduceEqDiff, Nat.reduceAdd, Nat.reduceMul, Nat.reduceSub, Nat.reduceLeDiff, Nat.reduceLT, reduceIte, reduceCtorEq]
  refine wpc_ret ⟨Or.inr rfl, _, ?_, rfl, rfl⟩
  simp only [go_sem, Nat.reduceEqDiff, Nat.reduceAdd, Nat.reduceMul, Nat.reduceSub, Nat.reduceLeDiff, Nat.reduceLT, reduceIte, reduceCtorEq]
end Go.Proofs.YtkdhdklggdbgdaaI
