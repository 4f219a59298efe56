/- The program's test of steps: the loop. -/
import Derived.Test.YtkdhdklggdbgdaaQ5r
set_option linter.unusedVariables false
set_option linter.unusedSimpArgs false
namespace Go.Proofs.YtkdhdklggdbgdaaI
open Go Go.RowKit
attribute [local irreducible] optP wpo wpp wpc binI Kc Kp wpOp thenX eqsV
theorem step_bad {k n : Nat} {d a0 a1 a2 a3 a4 a5 : Int} {a6 a7 : List (TStep n)} (h : (decide (d < 1) || !varB k a1 || (!decide (a0 = 1) && !decide ((a2, a3, a4) = (0, 0, 0))) || (!decide (a0 = 3) && !decide (a5 = 0)) || (!decide (a0 = 2) && decide (0 < (a6.length : Int) + a7.length))) = true) : stepB k (n + 1) d (a0, a1, (a2, a3, a4), a5, a6, a7) = false := by
  simp only [stepB]
  generalize (a6.length : Int) + (a7.length : Int) = X at *
  generalize List.all a6 (stepB k n (d - 1)) = A6 at *
  generalize List.all a7 (stepB k n (d - 1)) = A7 at *
  by_cases h1 : d < 1
  · rw [decide_eq_false (show ¬ 1 ≤ d by omega)]; rfl
  cases hv : varB k a1 with
  | false => simp
  | true =>
    by_cases hX : 0 < X
    · have hX0 : ¬ X = 0 := by omega
      by_cases k1 : a0 = 1 <;> by_cases k3 : a0 = 3 <;> by_cases k2 : a0 = 2 <;> simp_all <;> (intros; simp_all) <;> (try omega)
    · by_cases k1 : a0 = 1 <;> by_cases k3 : a0 = 3 <;> by_cases k2 : a0 = 2 <;> simp_all <;> (intros; simp_all) <;> (try omega)
theorem step_bad2 {k n : Nat} {d a0 a1 a2 a3 a4 a5 : Int} {a6 a7 : List (TStep n)} (h : (if a0 = 1 then valB k (a2, a3, a4) else if a0 = 2 then a6.all (stepB k n (d - 1)) && a7.all (stepB k n (d - 1)) else if a0 = 3 then inB a5 0 2 else false) = false) : stepB k (n + 1) d (a0, a1, (a2, a3, a4), a5, a6, a7) = false := by
  simp only [stepB]
  generalize List.all a6 (stepB k n (d - 1)) = A6 at *
  generalize List.all a7 (stepB k n (d - 1)) = A7 at *
  by_cases k1 : a0 = 1 <;> by_cases k3 : a0 = 3 <;> by_cases k2 : a0 = 2 <;> simp_all <;> (intros; simp_all)
theorem step_good {k n : Nat} {d a0 a1 a2 a3 a4 a5 : Int} {a6 a7 : List (TStep n)} (ht : (decide (d < 1) || !varB k a1 || (!decide (a0 = 1) && !decide ((a2, a3, a4) = (0, 0, 0))) || (!decide (a0 = 3) && !decide (a5 = 0)) || (!decide (a0 = 2) && decide (0 < (a6.length : Int) + a7.length))) = false) (h : (if a0 = 1 then valB k (a2, a3, a4) else if a0 = 2 then a6.all (stepB k n (d - 1)) && a7.all (stepB k n (d - 1)) else if a0 = 3 then inB a5 0 2 else false) = true) : stepB k (n + 1) d (a0, a1, (a2, a3, a4), a5, a6, a7) = true := by
  have hX : (0 : Int) ≤ (a6.length : Int) + (a7.length : Int) := by omega
  simp only [stepB]
  generalize (a6.length : Int) + (a7.length : Int) = X at *
  generalize List.all a6 (stepB k n (d - 1)) = A6 at *
  generalize List.all a7 (stepB k n (d - 1)) = A7 at *
  by_cases k1 : a0 = 1 <;> by_cases k3 : a0 = 3 <;> by_cases k2 : a0 = 2 <;> simp_all <;> omega
set_option maxHeartbeats 4000000 in
theorem iSteps_lp {F : Nat → Option IFn} {n m : Nat} (g1 : VarOk F 43) (g2 : ValOk F 91) (g4 : ∀ (H : Heap) (a : Int), QC F 44 [.int .i64 a] H (.bool (inB a 0 2))) (g3 : StepsOk F 72 n) {H : Heap} {v0 v1 : Value} {p0 : List (Int × Int)} {p1 : List (TStep m)} {d : Int}
    (hp : ∀ L, Rd (Co.prog m) true (vw 0 (H ++ L)) (.agg #[v0, v1]) (p0, p1)) {l : List (TStep (n + 1))} {a : Option Addr} (hu : SlR (Co.step (n + 1)) (vw 0 H) (.slice a l.length l.length) l) (hs : (Co.sl (Co.step (n + 1))).sm l) (hd0 : 0 ≤ d) (hd3 : d ≤ 3)
    {K : X → Env → Heap → Prop} (hK1 : ∀ e1 M, l.all (stepB p0.length (n + 1) d) = true → K (.e 0) e1 (H ++ ⟨[v0, v1], 0, 0, false, true⟩ :: M)) (hK2 : ∀ e1 M, e1 6 = .bool false → l.all (stepB p0.length (n + 1) d) = false → K .r e1 (H ++ ⟨[v0, v1], 0, 0, false, true⟩ :: M)) :
    ∀ (k i : Nat) (e : Env) (M : Heap), i + k = l.length → e 2 = .int .i64 d → e 3 = ptr H.length 0 → e 10 = .slice a l.length l.length → e 11 = .int .i64 l.length → e 12 = .int .i64 i → l.all (stepB p0.length (n + 1) d) = (l.drop i).all (stepB p0.length (n + 1) d) →
      W F H.length (.lp c_iStepsB) e (H ++ ⟨[v0, v1], 0, 0, false, true⟩ :: M) K := by
  obtain ⟨h0, a', ha', h2⟩ := hu
  cases ha'
  have hd : IntKind.i64.wrap (d - 1) = d - 1 := wrap_id (by omega) (by omega)
  intro k
  induction k with
  | zero =>
    intro i e M hi e2 e3 e10 e11 e12 hall
    refine lp_step ?_
    refine seq_reg ?_
    simp only [go_sem, binI_lss, binI_leq, binI_gtr, binI_geq, binI_eql, binI_neq, Nat.reduceEqDiff, Nat.reduceAdd, Nat.reduceMul, Nat.reduceSub, Nat.reduceLeDiff, Nat.reduceLT, reduceIte, reduceCtorEq, e11, e12]
    refine seq_cond (t := false) (by simp only [go_sem, binI_lss, binI_leq, binI_gtr, binI_geq, binI_eql, binI_neq, Nat.reduceEqDiff, Nat.reduceAdd, Nat.reduceMul, Nat.reduceSub, Nat.reduceLeDiff, Nat.reduceLT, reduceIte, reduceCtorEq]; rw [decide_eq_false (by omega)]) ?_
    simp only [go_sem, binI_lss, binI_leq, binI_gtr, binI_geq, binI_eql, binI_neq, Nat.reduceEqDiff, Nat.reduceAdd, Nat.reduceMul, Nat.reduceSub, Nat.reduceLeDiff, Nat.reduceLT, reduceIte, reduceCtorEq]
    refine seq_exit ?_
    simp only [go_sem, binI_lss, binI_leq, binI_gtr, binI_geq, binI_eql, binI_neq, Nat.reduceEqDiff, Nat.reduceAdd, Nat.reduceMul, Nat.reduceSub, Nat.reduceLeDiff, Nat.reduceLT, reduceIte, reduceCtorEq, thenX_e]
    refine hK1 _ _ ?_
    rw [hall, List.drop_of_length_le (by omega)]
    rfl
  | succ k ih =>
    intro i e M hi e2 e3 e10 e11 e12 hall
    have hil : i < l.length := by omega
    rcases h2 with h2 | ⟨b, o, hab, h2⟩
    · rw [h2] at hil; simp at hil
    subst hab
    obtain ⟨cs, h3, h4⟩ := h2 i hil
    have hsm := hs.2 _ (List.getElem_mem hil)
    rw [List.drop_eq_getElem_cons hil, List.all_cons] at hall
    generalize l[i] = x at h4 hsm hall
    obtain ⟨a0, a1, ⟨a2, a3, a4⟩, a5, a6, a7⟩ := x
    obtain ⟨_, _, rfl, ⟨rfl, b0⟩, _, _, rfl, ⟨rfl, b1⟩, _, _, rfl, ⟨_, _, rfl, ⟨rfl, b2⟩, _, _, rfl, ⟨rfl, b3⟩, ⟨rfl, b4⟩⟩, _, _, rfl, ⟨rfl, b5⟩, _, _, rfl, ⟨v6, rfl, r6⟩, ⟨v7, rfl, r7⟩⟩ := h4
    obtain ⟨s0, s1, s2, s3, s6, s7⟩ := hsm
    have r6c := r6
    have r7c := r7
    obtain ⟨u6, x6⟩ := r6.shape
    subst x6
    obtain ⟨u7, x7⟩ := r7.shape
    subst x7
    have ha : IntKind.i64.wrap ((a6.length : Int) + (a7.length : Int)) = (a6.length : Int) + (a7.length : Int) := by
      have h6 : a6.length ≤ 1048576 := s6.1
      have h7 : a7.length ≤ 1048576 := s7.1
      exact wrap_id (by omega) (by omega)
    have g3c := fun L => rng_gc (rng_sub (vw_app 0 H L) h3)
    rw [step_w] at g3c
    simp only [go_sem, binI_lss, binI_leq, binI_gtr, binI_geq, binI_eql, binI_neq, Nat.reduceEqDiff, Nat.reduceAdd, Nat.reduceMul, Nat.reduceSub, Nat.reduceLeDiff, Nat.reduceLT, reduceIte, reduceCtorEq] at g3c
    have hw1 : IntKind.i64.wrap ((i : Int) + 1) = ((i + 1 : Nat) : Int) := by rw [wrap_id (by omega) (by omega)]; omega
    refine lp_step ?_
    refine seq_reg ?_
    simp only [go_sem, binI_lss, binI_leq, binI_gtr, binI_geq, binI_eql, binI_neq, Nat.reduceEqDiff, Nat.reduceAdd, Nat.reduceMul, Nat.reduceSub, Nat.reduceLeDiff, Nat.reduceLT, reduceIte, reduceCtorEq, e11, e12]
    refine seq_cond (t := true) (by simp only [go_sem, binI_lss, binI_leq, binI_gtr, binI_geq, binI_eql, binI_neq, Nat.reduceEqDiff, Nat.reduceAdd, Nat.reduceMul, Nat.reduceSub, Nat.reduceLeDiff, Nat.reduceLT, reduceIte, reduceCtorEq]; rw [decide_eq_true (by omega)]) ?_
    simp only [go_sem, binI_lss, binI_leq, binI_gtr, binI_geq, binI_eql, binI_neq, Nat.reduceEqDiff, Nat.reduceAdd, Nat.reduceMul, Nat.reduceSub, Nat.reduceLeDiff, Nat.reduceLT, reduceIte, reduceCtorEq]
    refine seq_skip (seq_block (seq_reg ?_))
    simp only [go_sem, binI_lss, binI_leq, binI_gtr, binI_geq, binI_eql, binI_neq, Nat.reduceEqDiff, Nat.reduceAdd, Nat.reduceMul, Nat.reduceSub, Nat.reduceLeDiff, Nat.reduceLT, reduceIte, reduceCtorEq, e10, e12, g3c]
    refine ⟨⟨by omega, by omega⟩, ?_⟩
    have hE : ∀ L, getCells (H ++ L) H.length 0 2 = inBlk L[0]? 0 2 := fun L => gc_new0 H L 0 2
    refine seq_assoc (seq_reg ?_)
    unfold c_tests
    refine seg1 (c := H.length + (M.length + 1)) (b := H.length) (m := m) (d := d) (a1 := a1) g1 (hp _) (by simp only [go_sem, binI_lss, binI_leq, binI_gtr, binI_geq, binI_eql, binI_neq, Nat.reduceEqDiff, Nat.reduceAdd, Nat.reduceMul, Nat.reduceSub, Nat.reduceLeDiff, Nat.reduceLT, reduceIte, reduceCtorEq, e2]) (by simp only [go_sem, binI_lss, binI_leq, binI_gtr, binI_geq, binI_eql, binI_neq, Nat.reduceEqDiff, Nat.reduceAdd, Nat.reduceMul, Nat.reduceSub, Nat.reduceLeDiff, Nat.reduceLT, reduceIte, reduceCtorEq, e3]) (by simp only [go_sem, binI_lss, binI_leq, binI_gtr, binI_geq, binI_eql, binI_neq, Nat.reduceEqDiff, Nat.reduceAdd, Nat.reduceMul, Nat.reduceSub, Nat.reduceLeDiff, Nat.reduceLT, reduceIte, reduceCtorEq]) (by simp only [go_sem, binI_lss, binI_leq, binI_gtr, binI_geq, binI_eql, binI_neq, Nat.reduceEqDiff, Nat.reduceAdd, Nat.reduceMul, Nat.reduceSub, Nat.reduceLeDiff, Nat.reduceLT, reduceIte, reduceCtorEq]) (by simp only [go_sem, binI_lss, binI_leq, binI_gtr, binI_geq, binI_eql, binI_neq, Nat.reduceEqDiff, Nat.reduceAdd, Nat.reduceMul, Nat.reduceSub, Nat.reduceLeDiff, Nat.reduceLT, reduceIte, reduceCtorEq]) (fun x1 m1 t1 => ?_)
    refine seg2 (c := H.length + (M.length + 1)) (a0 := a0) (a2 := a2) (a3 := a3) (a4 := a4) t1 (by rw [m1.2.2.1]; simp only [go_sem, binI_lss, binI_leq, binI_gtr, binI_geq, binI_eql, binI_neq, Nat.reduceEqDiff, Nat.reduceAdd, Nat.reduceMul, Nat.reduceSub, Nat.reduceLeDiff, Nat.reduceLT, reduceIte, reduceCtorEq]) (by simp only [go_sem, binI_lss, binI_leq, binI_gtr, binI_geq, binI_eql, binI_neq, Nat.reduceEqDiff, Nat.reduceAdd, Nat.reduceMul, Nat.reduceSub, Nat.reduceLeDiff, Nat.reduceLT, reduceIte, reduceCtorEq]) (by simp only [go_sem, binI_lss, binI_leq, binI_gtr, binI_geq, binI_eql, binI_neq, Nat.reduceEqDiff, Nat.reduceAdd, Nat.reduceMul, Nat.reduceSub, Nat.reduceLeDiff, Nat.reduceLT, reduceIte, reduceCtorEq]) (fun x2 m2 t2 => ?_)
    refine seg3 (c := H.length + (M.length + 1)) (a0 := a0) (a5 := a5) t2 (by rw [m2.2.2.1, m1.2.2.1]; simp only [go_sem, binI_lss, binI_leq, binI_gtr, binI_geq, binI_eql, binI_neq, Nat.reduceEqDiff, Nat.reduceAdd, Nat.reduceMul, Nat.reduceSub, Nat.reduceLeDiff, Nat.reduceLT, reduceIte, reduceCtorEq]) (by simp only [go_sem, binI_lss, binI_leq, binI_gtr, binI_geq, binI_eql, binI_neq, Nat.reduceEqDiff, Nat.reduceAdd, Nat.reduceMul, Nat.reduceSub, Nat.reduceLeDiff, Nat.reduceLT, reduceIte, reduceCtorEq]) (by simp only [go_sem, binI_lss, binI_leq, binI_gtr, binI_geq, binI_eql, binI_neq, Nat.reduceEqDiff, Nat.reduceAdd, Nat.reduceMul, Nat.reduceSub, Nat.reduceLeDiff, Nat.reduceLT, reduceIte, reduceCtorEq]) (fun x3 m3 t3 => ?_)
    refine seg4 (c := H.length + (M.length + 1)) (a0 := a0) (n6 := a6.length) (n7 := a7.length) (u6 := u6) (u7 := u7) t3 (by rw [m3.2.2.1, m2.2.2.1, m1.2.2.1]; simp only [go_sem, binI_lss, binI_leq, binI_gtr, binI_geq, binI_eql, binI_neq, Nat.reduceEqDiff, Nat.reduceAdd, Nat.reduceMul, Nat.reduceSub, Nat.reduceLeDiff, Nat.reduceLT, reduceIte, reduceCtorEq]) (by simp only [go_sem, binI_lss, binI_leq, binI_gtr, binI_geq, binI_eql, binI_neq, Nat.reduceEqDiff, Nat.reduceAdd, Nat.reduceMul, Nat.reduceSub, Nat.reduceLeDiff, Nat.reduceLT, reduceIte, reduceCtorEq]) (by simp only [go_sem, binI_lss, binI_leq, binI_gtr, binI_geq, binI_eql, binI_neq, Nat.reduceEqDiff, Nat.reduceAdd, Nat.reduceMul, Nat.reduceSub, Nat.reduceLeDiff, Nat.reduceLT, reduceIte, reduceCtorEq]) (by simp only [go_sem, binI_lss, binI_leq, binI_gtr, binI_geq, binI_eql, binI_neq, Nat.reduceEqDiff, Nat.reduceAdd, Nat.reduceMul, Nat.reduceSub, Nat.reduceLeDiff, Nat.reduceLT, reduceIte, reduceCtorEq]) ha (fun x4 m4 t4 => ?_)
    have mm := (m1.trans m2).trans (m3.trans m4)
    obtain ⟨y2, y3, y8, y10, y11, y12⟩ := mm
    simp only [go_sem, binI_lss, binI_leq, binI_gtr, binI_geq, binI_eql, binI_neq, Nat.reduceEqDiff, Nat.reduceAdd, Nat.reduceMul, Nat.reduceSub, Nat.reduceLeDiff, Nat.reduceLT, reduceIte, reduceCtorEq] at y2 y3 y8 y10 y11 y12
    rw [e2] at y2
    rw [e3] at y3
    rw [e10] at y10
    rw [e11] at y11
    rw [e12] at y12
    simp only [go_sem, binI_lss, binI_leq, binI_gtr, binI_geq, binI_eql, binI_neq, Nat.reduceEqDiff, Nat.reduceAdd, Nat.reduceMul, Nat.reduceSub, Nat.reduceLeDiff, Nat.reduceLT, reduceIte, reduceCtorEq]
    obtain ⟨T, hT, t5⟩ : ∃ T, T = _ ∧ x4 60 = .bool T := ⟨_, rfl, t4⟩
    cases T with
    | true =>
      refine seq_cond (t := true) (by simp only [go_sem, binI_lss, binI_leq, binI_gtr, binI_geq, binI_eql, binI_neq, Nat.reduceEqDiff, Nat.reduceAdd, Nat.reduceMul, Nat.reduceSub, Nat.reduceLeDiff, Nat.reduceLT, reduceIte, reduceCtorEq, t5]) ?_
      simp only [go_sem, binI_lss, binI_leq, binI_gtr, binI_geq, binI_eql, binI_neq, Nat.reduceEqDiff, Nat.reduceAdd, Nat.reduceMul, Nat.reduceSub, Nat.reduceLeDiff, Nat.reduceLT, reduceIte, reduceCtorEq]
      refine seq_assoc (seq_reg ?_)
      simp only [go_sem, binI_lss, binI_leq, binI_gtr, binI_geq, binI_eql, binI_neq, Nat.reduceEqDiff, Nat.reduceAdd, Nat.reduceMul, Nat.reduceSub, Nat.reduceLeDiff, Nat.reduceLT, reduceIte, reduceCtorEq]
      refine seq_ret ?_
      simp only [go_sem, binI_lss, binI_leq, binI_gtr, binI_geq, binI_eql, binI_neq, Nat.reduceEqDiff, Nat.reduceAdd, Nat.reduceMul, Nat.reduceSub, Nat.reduceLeDiff, Nat.reduceLT, reduceIte, reduceCtorEq, out_r, thenX_r]
      refine hK2 _ _ (by simp only [go_sem, binI_lss, binI_leq, binI_gtr, binI_geq, binI_eql, binI_neq, Nat.reduceEqDiff, Nat.reduceAdd, Nat.reduceMul, Nat.reduceSub, Nat.reduceLeDiff, Nat.reduceLT, reduceIte, reduceCtorEq]) ?_
      rw [hall, step_bad hT.symm, Bool.false_and]
    | false =>
      refine seq_cond (t := false) (by simp only [go_sem, binI_lss, binI_leq, binI_gtr, binI_geq, binI_eql, binI_neq, Nat.reduceEqDiff, Nat.reduceAdd, Nat.reduceMul, Nat.reduceSub, Nat.reduceLeDiff, Nat.reduceLT, reduceIte, reduceCtorEq, t5]) ?_
      simp only [go_sem, binI_lss, binI_leq, binI_gtr, binI_geq, binI_eql, binI_neq, Nat.reduceEqDiff, Nat.reduceAdd, Nat.reduceMul, Nat.reduceSub, Nat.reduceLeDiff, Nat.reduceLT, reduceIte, reduceCtorEq]
      refine seq_skip ?_
      have hd1 : 1 ≤ d := by
        by_cases h1 : d < 1
        · rw [decide_eq_true h1] at hT; simp at hT
        · omega
      refine rest_ok (m := m) (p := (p0, p1)) (b := H.length) (c := H.length + (M.length + 1)) (d := d) (a0 := a0) (a1 := a1) (a2 := a2) (a3 := a3) (a4 := a4) (a5 := a5) (a6 := a6) (a7 := a7) g2 g4 g3 (hp _) ⟨_, rfl, _, _, rfl, ⟨rfl, b2⟩, _, _, rfl, ⟨rfl, b3⟩, ⟨rfl, b4⟩⟩ (r6c.mono (vw_app 0 H _)) (r7c.mono (vw_app 0 H _)) s6 s7 hd1 hd3 hd y2 y3 y8 (by simp only [go_sem, binI_lss, binI_leq, binI_gtr, binI_geq, binI_eql, binI_neq, Nat.reduceEqDiff, Nat.reduceAdd, Nat.reduceMul, Nat.reduceSub, Nat.reduceLeDiff, Nat.reduceLT, reduceIte, reduceCtorEq]) (by simp only [go_sem, binI_lss, binI_leq, binI_gtr, binI_geq, binI_eql, binI_neq, Nat.reduceEqDiff, Nat.reduceAdd, Nat.reduceMul, Nat.reduceSub, Nat.reduceLeDiff, Nat.reduceLT, reduceIte, reduceCtorEq]) (by simp only [go_sem, binI_lss, binI_leq, binI_gtr, binI_geq, binI_eql, binI_neq, Nat.reduceEqDiff, Nat.reduceAdd, Nat.reduceMul, Nat.reduceSub, Nat.reduceLeDiff, Nat.reduceLT, reduceIte, reduceCtorEq]) (by simp only [go_sem, binI_lss, binI_leq, binI_gtr, binI_geq, binI_eql, binI_neq, Nat.reduceEqDiff, Nat.reduceAdd, Nat.reduceMul, Nat.reduceSub, Nat.reduceLeDiff, Nat.reduceLT, reduceIte, reduceCtorEq]) (by simp only [go_sem, binI_lss, binI_leq, binI_gtr, binI_geq, binI_eql, binI_neq, Nat.reduceEqDiff, Nat.reduceAdd, Nat.reduceMul, Nat.reduceSub, Nat.reduceLeDiff, Nat.reduceLT, reduceIte, reduceCtorEq]) (by simp only [go_sem, binI_lss, binI_leq, binI_gtr, binI_geq, binI_eql, binI_neq, Nat.reduceEqDiff, Nat.reduceAdd, Nat.reduceMul, Nat.reduceSub, Nat.reduceLeDiff, Nat.reduceLT, reduceIte, reduceCtorEq]) ?_ ?_
      · intro e5 m5 hg
        obtain ⟨z2, z3, z8, z10, z11, z12⟩ := m5
        simp only [go_sem, binI_lss, binI_leq, binI_gtr, binI_geq, binI_eql, binI_neq, Nat.reduceEqDiff, Nat.reduceAdd, Nat.reduceMul, Nat.reduceSub, Nat.reduceLeDiff, Nat.reduceLT, reduceIte, reduceCtorEq, out_n, thenX_n]
        refine wpc_reg ?_
        simp only [go_sem, binI_lss, binI_leq, binI_gtr, binI_geq, binI_eql, binI_neq, Nat.reduceEqDiff, Nat.reduceAdd, Nat.reduceMul, Nat.reduceSub, Nat.reduceLeDiff, Nat.reduceLT, reduceIte, reduceCtorEq, z12, y12, hw1, thenX_n]
        refine ih (i + 1) _ _ (by omega) ?_ ?_ ?_ ?_ ?_ ?_
        · simp only [go_sem, binI_lss, binI_leq, binI_gtr, binI_geq, binI_eql, binI_neq, Nat.reduceEqDiff, Nat.reduceAdd, Nat.reduceMul, Nat.reduceSub, Nat.reduceLeDiff, Nat.reduceLT, reduceIte, reduceCtorEq, z2, y2]
        · simp only [go_sem, binI_lss, binI_leq, binI_gtr, binI_geq, binI_eql, binI_neq, Nat.reduceEqDiff, Nat.reduceAdd, Nat.reduceMul, Nat.reduceSub, Nat.reduceLeDiff, Nat.reduceLT, reduceIte, reduceCtorEq, z3, y3]
        · simp only [go_sem, binI_lss, binI_leq, binI_gtr, binI_geq, binI_eql, binI_neq, Nat.reduceEqDiff, Nat.reduceAdd, Nat.reduceMul, Nat.reduceSub, Nat.reduceLeDiff, Nat.reduceLT, reduceIte, reduceCtorEq, z10, y10]
        · simp only [go_sem, binI_lss, binI_leq, binI_gtr, binI_geq, binI_eql, binI_neq, Nat.reduceEqDiff, Nat.reduceAdd, Nat.reduceMul, Nat.reduceSub, Nat.reduceLeDiff, Nat.reduceLT, reduceIte, reduceCtorEq, z11, y11]
        · simp only [go_sem, binI_lss, binI_leq, binI_gtr, binI_geq, binI_eql, binI_neq, Nat.reduceEqDiff, Nat.reduceAdd, Nat.reduceMul, Nat.reduceSub, Nat.reduceLeDiff, Nat.reduceLT, reduceIte, reduceCtorEq]
        · rw [hall, step_good hT.symm hg, Bool.true_and]
      · intro e5 h6 hg
        simp only [go_sem, binI_lss, binI_leq, binI_gtr, binI_geq, binI_eql, binI_neq, Nat.reduceEqDiff, Nat.reduceAdd, Nat.reduceMul, Nat.reduceSub, Nat.reduceLeDiff, Nat.reduceLT, reduceIte, reduceCtorEq, out_r, thenX_r]
        refine hK2 _ _ h6 ?_
        rw [hall, step_bad2 hg, Bool.false_and]
end Go.Proofs.YtkdhdklggdbgdaaI
