/- Texts of this proof, merged: M9, E0m, E1, E2, E3, E4, E5, H0. -/
import Derived.Test.YtmakdcbpohlacaaXk5
import Derived.Test.YtmakdcbpohlacaaXk6
import Derived.Test.YtmakdcbpohlacaaXk8
section
/- Texts of this proof, merged: Q5, Q5b, I19, Q4. -/
section
/- The program's test of steps: the loop. -/
set_option linter.unusedVariables false
set_option linter.unusedSimpArgs false
namespace Go.Proofs.YtmakdcbpohlacaaI
open Go Go.RowKit
attribute [local irreducible] optP wpo wpp wpc binI Kc Kp wpOp thenX eqsV
theorem step_bad {k n : Nat} {d a0 a1 a2 a3 a4 a5 : Int} {a6 a7 : List (TStep n)} (h : (decide (d < 1) || !varB k a1 || (!decide (a0 = 1) && !decide ((a2, a3, a4) = (0, 0, 0))) || (!decide (a0 = 3) && !decide (a5 = 0)) || (!decide (a0 = 2) && decide (0 < (a6.length : Int) + a7.length))) = true) : stepB k (n + 1) d (a0, a1, (a2, a3, a4), a5, a6, a7) = false := by
  simp only [stepB]
  generalize (a6.length : Int) + (a7.length : Int) = X at *
  generalize List.all a6 (stepB k n (d - 1)) = A6 at *
  generalize List.all a7 (stepB k n (d - 1)) = A7 at *
  by_cases h1 : d < 1
  · rw [decide_eq_false (show ¬ 1 ≤ d by omega)]; rfl
  cases hv : varB k a1 with
  | false => simp
  | true =>
    by_cases hX : 0 < X
    · have hX0 : ¬ X = 0 := by omega
      by_cases k1 : a0 = 1 <;> by_cases k3 : a0 = 3 <;> by_cases k2 : a0 = 2 <;> simp_all <;> (intros; simp_all) <;> (try omega)
    · by_cases k1 : a0 = 1 <;> by_cases k3 : a0 = 3 <;> by_cases k2 : a0 = 2 <;> simp_all <;> (intros; simp_all) <;> (try omega)
theorem step_bad2 {k n : Nat} {d a0 a1 a2 a3 a4 a5 : Int} {a6 a7 : List (TStep n)} (h : (if a0 = 1 then valB k (a2, a3, a4) else if a0 = 2 then a6.all (stepB k n (d - 1)) && a7.all (stepB k n (d - 1)) else if a0 = 3 then inB a5 0 2 else false) = false) : stepB k (n + 1) d (a0, a1, (a2, a3, a4), a5, a6, a7) = false := by
  simp only [stepB]
  generalize List.all a6 (stepB k n (d - 1)) = A6 at *
  generalize List.all a7 (stepB k n (d - 1)) = A7 at *
  by_cases k1 : a0 = 1 <;> by_cases k3 : a0 = 3 <;> by_cases k2 : a0 = 2 <;> simp_all <;> (intros; simp_all)
theorem step_good {k n : Nat} {d a0 a1 a2 a3 a4 a5 : Int} {a6 a7 : List (TStep n)} (ht : (decide (d < 1) || !varB k a1 || (!decide (a0 = 1) && !decide ((a2, a3, a4) = (0, 0, 0))) || (!decide (a0 = 3) && !decide (a5 = 0)) || (!decide (a0 = 2) && decide (0 < (a6.length : Int) + a7.length))) = false) (h : (if a0 = 1 then valB k (a2, a3, a4) else if a0 = 2 then a6.all (stepB k n (d - 1)) && a7.all (stepB k n (d - 1)) else if a0 = 3 then inB a5 0 2 else false) = true) : stepB k (n + 1) d (a0, a1, (a2, a3, a4), a5, a6, a7) = true := by
  have hX : (0 : Int) ≤ (a6.length : Int) + (a7.length : Int) := by omega
  simp only [stepB]
  generalize (a6.length : Int) + (a7.length : Int) = X at *
  generalize List.all a6 (stepB k n (d - 1)) = A6 at *
  generalize List.all a7 (stepB k n (d - 1)) = A7 at *
  by_cases k1 : a0 = 1 <;> by_cases k3 : a0 = 3 <;> by_cases k2 : a0 = 2 <;> simp_all <;> omega
set_option maxHeartbeats 4000000 in
theorem iSteps_lp {F : Nat → Option IFn} {n m : Nat} (g1 : VarOk F 98) (g2 : ValOk F 99) (g4 : ∀ (H : Heap) (a : Int), QC F 100 [.int .i64 a] H (.bool (inB a 0 2))) (g3 : StepsOk F 73 n) {H : Heap} {v0 v1 : Value} {p0 : List (Int × Int)} {p1 : List (TStep m)} {d : Int}
    (hp : ∀ L, Rd (Co.prog m) true (vw 0 (H ++ L)) (.agg #[v0, v1]) (p0, p1)) {l : List (TStep (n + 1))} {a : Option Addr} (hu : SlR (Co.step (n + 1)) (vw 0 H) (.slice a l.length l.length) l) (hs : (Co.sl (Co.step (n + 1))).sm l) (hd0 : 0 ≤ d) (hd3 : d ≤ 3)
    {K : X → Env → Heap → Prop} (hK1 : ∀ e1 M, l.all (stepB p0.length (n + 1) d) = true → K (.e 0) e1 (H ++ ⟨[v0, v1], 0, 0, false, true⟩ :: M)) (hK2 : ∀ e1 M, e1 6 = .bool false → l.all (stepB p0.length (n + 1) d) = false → K .r e1 (H ++ ⟨[v0, v1], 0, 0, false, true⟩ :: M)) :
    ∀ (k i : Nat) (e : Env) (M : Heap), i + k = l.length → e 2 = .int .i64 d → e 3 = ptr H.length 0 → e 10 = .slice a l.length l.length → e 11 = .int .i64 l.length → e 12 = .int .i64 i → l.all (stepB p0.length (n + 1) d) = (l.drop i).all (stepB p0.length (n + 1) d) →
      W F H.length (.lp c_iStepsB) e (H ++ ⟨[v0, v1], 0, 0, false, true⟩ :: M) K := by
  obtain ⟨h0, a', ha', h2⟩ := hu
  cases ha'
  have hd : IntKind.i64.wrap (d - 1) = d - 1 := wrap_id (by omega) (by omega)
  intro k
  induction k with
  | zero =>
    intro i e M hi e2 e3 e10 e11 e12 hall
    refine lp_step ?_
    refine seq_reg ?_
    simp only [go_sem, binC, e11, e12]
    refine seq_cond (t := false) (by simp only [go_sem, binC]; rw [decide_eq_false (by omega)]) ?_
    simp only [go_sem, binC]
    refine seq_exit ?_
    simp only [go_sem, binC, thenX_e]
    refine hK1 _ _ ?_
    rw [hall, List.drop_of_length_le (by omega)]
    rfl
  | succ k ih =>
    intro i e M hi e2 e3 e10 e11 e12 hall
    have hil : i < l.length := by omega
    rcases h2 with h2 | ⟨b, o, hab, h2⟩
    · rw [h2] at hil; simp at hil
    subst hab
    obtain ⟨cs, h3, h4⟩ := h2 i hil
    have hsm := hs.2 _ (List.getElem_mem hil)
    rw [List.drop_eq_getElem_cons hil, List.all_cons] at hall
    generalize l[i] = x at h4 hsm hall
    obtain ⟨a0, a1, ⟨a2, a3, a4⟩, a5, a6, a7⟩ := x
    obtain ⟨_, _, rfl, ⟨rfl, b0⟩, _, _, rfl, ⟨rfl, b1⟩, _, _, rfl, ⟨_, _, rfl, ⟨rfl, b2⟩, _, _, rfl, ⟨rfl, b3⟩, ⟨rfl, b4⟩⟩, _, _, rfl, ⟨rfl, b5⟩, _, _, rfl, ⟨v6, rfl, r6⟩, ⟨v7, rfl, r7⟩⟩ := h4
    obtain ⟨s0, s1, s2, s3, s6, s7⟩ := hsm
    have r6c := r6
    have r7c := r7
    obtain ⟨u6, x6⟩ := r6.shape
    subst x6
    obtain ⟨u7, x7⟩ := r7.shape
    subst x7
    have ha : IntKind.i64.wrap ((a6.length : Int) + (a7.length : Int)) = (a6.length : Int) + (a7.length : Int) := by
      have h6 : a6.length ≤ 1048576 := s6.1
      have h7 : a7.length ≤ 1048576 := s7.1
      exact wrap_id (by omega) (by omega)
    have g3c := fun L => rng_gc (rng_sub (vw_app 0 H L) h3)
    rw [step_w] at g3c
    simp only [go_sem, binC] at g3c
    have hw1 : IntKind.i64.wrap ((i : Int) + 1) = ((i + 1 : Nat) : Int) := by rw [wrap_id (by omega) (by omega)]; omega
    refine lp_step ?_
    refine seq_reg ?_
    simp only [go_sem, binC, e11, e12]
    refine seq_cond (t := true) (by simp only [go_sem, binC]; rw [decide_eq_true (by omega)]) ?_
    simp only [go_sem, binC]
    refine seq_skip (seq_block (seq_reg ?_))
    simp only [go_sem, binC, e10, e12, g3c]
    refine ⟨⟨by omega, by omega⟩, ?_⟩
    have hE : ∀ L, getCells (H ++ L) H.length 0 2 = inBlk L[0]? 0 2 := fun L => gc_new0 H L 0 2
    refine seq_assoc (seq_reg ?_)
    unfold c_tests
    refine seg1 (c := H.length + (M.length + 1)) (b := H.length) (m := m) (d := d) (a1 := a1) g1 (hp _) (by simp only [go_sem, binC, e2]) (by simp only [go_sem, binC, e3]) (by simp only [go_sem, binC]) (by simp only [go_sem, binC]) (by simp only [go_sem, binC]) (fun x1 m1 t1 => ?_)
    refine seg2 (c := H.length + (M.length + 1)) (a0 := a0) (a2 := a2) (a3 := a3) (a4 := a4) t1 (by rw [m1.2.2.1]; simp only [go_sem, binC]) (by simp only [go_sem, binC]) (by simp only [go_sem, binC]) (fun x2 m2 t2 => ?_)
    refine seg3 (c := H.length + (M.length + 1)) (a0 := a0) (a5 := a5) t2 (by rw [m2.2.2.1, m1.2.2.1]; simp only [go_sem, binC]) (by simp only [go_sem, binC]) (by simp only [go_sem, binC]) (fun x3 m3 t3 => ?_)
    refine seg4 (c := H.length + (M.length + 1)) (a0 := a0) (n6 := a6.length) (n7 := a7.length) (u6 := u6) (u7 := u7) t3 (by rw [m3.2.2.1, m2.2.2.1, m1.2.2.1]; simp only [go_sem, binC]) (by simp only [go_sem, binC]) (by simp only [go_sem, binC]) (by simp only [go_sem, binC]) ha (fun x4 m4 t4 => ?_)
    have mm := (m1.trans m2).trans (m3.trans m4)
    obtain ⟨y2, y3, y8, y10, y11, y12⟩ := mm
    simp only [go_sem, binC] at y2 y3 y8 y10 y11 y12
    rw [e2] at y2
    rw [e3] at y3
    rw [e10] at y10
    rw [e11] at y11
    rw [e12] at y12
    simp only [go_sem, binC]
    obtain ⟨T, hT, t5⟩ : ∃ T, T = _ ∧ x4 60 = .bool T := ⟨_, rfl, t4⟩
    cases T with
    | true =>
      refine seq_cond (t := true) (by simp only [go_sem, binC, t5]) ?_
      simp only [go_sem, binC]
      refine seq_assoc (seq_reg ?_)
      simp only [go_sem, binC]
      refine seq_ret ?_
      simp only [go_sem, binC, out_r, thenX_r]
      refine hK2 _ _ (by simp only [go_sem, binC]) ?_
      rw [hall, step_bad hT.symm, Bool.false_and]
    | false =>
      refine seq_cond (t := false) (by simp only [go_sem, binC, t5]) ?_
      simp only [go_sem, binC]
      refine seq_skip ?_
      have hd1 : 1 ≤ d := by
        by_cases h1 : d < 1
        · rw [decide_eq_true h1] at hT; simp at hT
        · omega
      refine rest_ok (m := m) (p := (p0, p1)) (b := H.length) (c := H.length + (M.length + 1)) (d := d) (a0 := a0) (a1 := a1) (a2 := a2) (a3 := a3) (a4 := a4) (a5 := a5) (a6 := a6) (a7 := a7) g2 g4 g3 (hp _) ⟨_, rfl, _, _, rfl, ⟨rfl, b2⟩, _, _, rfl, ⟨rfl, b3⟩, ⟨rfl, b4⟩⟩ (r6c.mono (vw_app 0 H _)) (r7c.mono (vw_app 0 H _)) s6 s7 hd1 hd3 hd y2 y3 y8 (by simp only [go_sem, binC]) (by simp only [go_sem, binC]) (by simp only [go_sem, binC]) (by simp only [go_sem, binC]) (by simp only [go_sem, binC]) (by simp only [go_sem, binC]) ?_ ?_
      · intro e5 m5 hg
        obtain ⟨z2, z3, z8, z10, z11, z12⟩ := m5
        simp only [go_sem, binC, out_n, thenX_n]
        refine wpc_reg ?_
        simp only [go_sem, binC, z12, y12, hw1, thenX_n]
        refine ih (i + 1) _ _ (by omega) ?_ ?_ ?_ ?_ ?_ ?_
        · simp only [go_sem, binC, z2, y2]
        · simp only [go_sem, binC, z3, y3]
        · simp only [go_sem, binC, z10, y10]
        · simp only [go_sem, binC, z11, y11]
        · simp only [go_sem, binC]
        · rw [hall, step_good hT.symm hg, Bool.true_and]
      · intro e5 h6 hg
        simp only [go_sem, binC, out_r, thenX_r]
        refine hK2 _ _ h6 ?_
        rw [hall, step_bad2 hg, Bool.false_and]
end Go.Proofs.YtmakdcbpohlacaaI
end
section
/- The program's test of steps, for steps of any depth. -/
set_option linter.unusedVariables false
set_option linter.unusedSimpArgs false
namespace Go.Proofs.YtmakdcbpohlacaaI
open Go Go.RowKit
theorem iSteps_succ {F : Nat → Option IFn} {f n : Nat} (hf : F f = some c_iSteps) (g1 : VarOk F 98) (g2 : ValOk F 99) (g4 : ∀ (H : Heap) (a : Int), QC F 100 [.int .i64 a] H (.bool (inB a 0 2))) (g3 : StepsOk F 73 n) : StepsOk F f (n + 1) := by
  rintro H m v u ⟨p0, p1⟩ l d hp0 hu hs hd0 hd3
  obtain ⟨pc, hpc, _, _, rfl, ⟨v0, rfl, r0⟩, ⟨v1, rfl, r1⟩⟩ := hp0
  have hp : ∀ L, Rd (Co.prog m) true (vw 0 (H ++ L)) (.agg #[v0, v1]) (p0, p1) := fun L => ⟨_, rfl, _, _, rfl, ⟨_, rfl, r0.mono (vw_app 0 H L)⟩, ⟨_, rfl, r1.mono (vw_app 0 H L)⟩⟩
  simp only [go_sem, binC, Option.some.injEq] at hpc
  subst hpc
  have r0c := r0
  have r1c := r1
  obtain ⟨_, x0⟩ := r0.shape
  subst x0
  obtain ⟨_, x1⟩ := r1.shape
  subst x1
  obtain ⟨a, xa⟩ := hu.shape
  subst xa
  refine QC.mk hf rfl ?_
  refine seq_reg ?_
  simp only [go_sem, binC]
  refine seq_assoc (seq_reg ?_)
  simp only [go_sem, binC]
  refine seq_block (wpc_loop ?_)
  refine iSteps_lp g1 g2 g4 g3 hp hu hs hd0 hd3 ?_ ?_ l.length 0 _ [] (by omega) (by simp only [go_sem, binC]) (by simp only [go_sem, binC]) (by simp only [go_sem, binC]) (by simp only [go_sem, binC]) (by simp only [go_sem, binC]; rfl) rfl
  · intro e1 M hall
    simp only [go_sem, binC, out_e, thenX_n]
    refine seq_reg ?_
    simp only [go_sem, binC]
    exact wpc_ret ⟨Or.inr rfl, .bool true, by simp only [go_sem, binC], by rw [hall], rfl⟩
  · intro e1 M h6 hall
    simp only [go_sem, binC, out_r, thenX_r]
    exact ⟨Or.inr rfl, .bool false, by simp only [go_sem, binC, h6], by rw [hall], rfl⟩
theorem iSteps_z {F : Nat → Option IFn} {f : Nat} (hf : F f = some c_iSteps) : StepsOk F f 0 := by
  rintro H m v u ⟨p0, p1⟩ l d hp0 hu hs hd0 hd3
  obtain ⟨pc, hpc, _, _, rfl, ⟨v0, rfl, r0⟩, ⟨v1, rfl, r1⟩⟩ := hp0
  have hp : ∀ L, Rd (Co.prog m) true (vw 0 (H ++ L)) (.agg #[v0, v1]) (p0, p1) := fun L => ⟨_, rfl, _, _, rfl, ⟨_, rfl, r0.mono (vw_app 0 H L)⟩, ⟨_, rfl, r1.mono (vw_app 0 H L)⟩⟩
  simp only [go_sem, binC, Option.some.injEq] at hpc
  subst hpc
  have r0c := r0
  have r1c := r1
  obtain ⟨_, x0⟩ := r0.shape
  subst x0
  obtain ⟨_, x1⟩ := r1.shape
  subst x1
  obtain ⟨a, xa⟩ := hu.shape
  subst xa
  have hl : l = [] := by
    cases l with
    | nil => rfl
    | cons x r => exact x.elim
  subst hl
  refine QC.mk hf rfl ?_
  refine seq_reg ?_
  simp only [go_sem, binC]
  refine seq_assoc (seq_reg ?_)
  simp only [go_sem, binC]
  refine seq_block (wpc_loop (lp_step ?_))
  refine seq_reg ?_
  simp only [go_sem, binC]
  refine seq_cond (t := false) (by simp only [go_sem, binC]; rw [decide_eq_false (by simp)]) ?_
  simp only [go_sem, binC]
  refine seq_exit ?_
  simp only [go_sem, binC, thenX_e, out_e, thenX_n]
  refine seq_reg ?_
  simp only [go_sem, binC]
  exact wpc_ret ⟨Or.inr rfl, .bool true, by simp only [go_sem, binC], rfl, rfl⟩
theorem iSteps_all {F : Nat → Option IFn} (hf : F 73 = some c_iSteps) (g1 : VarOk F 98) (g2 : ValOk F 99) (g4 : ∀ (H : Heap) (a : Int), QC F 100 [.int .i64 a] H (.bool (inB a 0 2))) : ∀ n, StepsOk F 73 n := by
  intro n
  induction n with
  | zero => exact iSteps_z hf
  | succ n ih => exact iSteps_succ hf g1 g2 g4 ih
end Go.Proofs.YtmakdcbpohlacaaI
end
section
/- Slices of what is opened with one fuel less. -/
set_option linter.unusedVariables false
set_option linter.unusedSimpArgs false
namespace Go.Proofs.YtmakdcbpohlacaaI
open Go Go.RowKit Go.ChangeShapes
section
variable {T : Type} {enc : TypeId × Value → T} {P : Program} {w : World} {spare : Nat → Bool} {held : Bool}
end
end Go.Proofs.YtmakdcbpohlacaaI
end
section
/- Lists of steps in form: the loops. -/
set_option linter.unusedVariables false
set_option linter.unusedSimpArgs false
namespace Go.Proofs.YtmakdcbpohlacaaI
open Go Go.RowKit
theorem sSteps_ok {F : Nat → Option IFn} {f n : Nat} (hf : F f = some c_sSteps) (g0 : StepOk F 94 n) : StepsOk F f n := by
  rintro H m v u ⟨p0, p1⟩ l d hp0 hu hs hd0 hd3
  obtain ⟨pc, hpc, _, _, rfl, ⟨v0, rfl, r0⟩, ⟨v1, rfl, r1⟩⟩ := hp0
  have hp : ∀ L, Rd (Co.prog m) true (vw 0 (H ++ L)) (.agg #[v0, v1]) (p0, p1) := fun L => ⟨_, rfl, _, _, rfl, ⟨_, rfl, r0.mono (vw_app 0 H L)⟩, ⟨_, rfl, r1.mono (vw_app 0 H L)⟩⟩
  simp only [go_sem, binC, Option.some.injEq] at hpc
  subst hpc
  obtain ⟨_, x0⟩ := r0.shape
  subst x0
  obtain ⟨_, x1⟩ := r1.shape
  subst x1
  have hu' := hu
  obtain ⟨h0, a, rfl, h2⟩ := hu
  refine QC.mk hf rfl ?_
  refine seq_reg ?_
  simp only [go_sem, binC]
  refine seq_assoc (seq_reg ?_)
  simp only [go_sem, binC]
  refine seq_block (wpc_loop ?_)
  suffices h : ∀ (k i : Nat) (e : Env), i + k = l.length → e 1 = .slice a l.length l.length → e 2 = .int .i64 d → e 3 = ptr H.length 0 → e 7 = .int .i64 i → l.all (stepB p0.length n d) = (l.drop i).all (stepB p0.length n d) → W F H.length _ e _ _ from
    h l.length 0 _ (by omega) (by simp only [go_sem, binC]) (by simp only [go_sem, binC]) (by simp only [go_sem, binC]) (by simp only [go_sem, binC]; rfl) rfl
  intro k
  induction k with
  | zero =>
    intro i e hi e1 e2 e3 e7 hall
    refine lp_step ?_
    refine seq_assoc (seq_reg ?_)
    simp only [go_sem, binC, e1, e7]
    refine seq_cond (t := false) (by simp only [go_sem, binC]; rw [decide_eq_false (by omega)]) ?_
    simp only [go_sem, binC]
    refine seq_exit ?_
    simp only [go_sem, binC, thenX_e, out_e, thenX_n]
    refine seq_reg ?_
    simp only [go_sem, binC]
    refine wpc_ret ⟨Or.inr rfl, .bool true, by simp only [go_sem, binC], ?_, rfl⟩
    rw [hall, List.drop_of_length_le (by omega)]
    rfl
  | succ k ih =>
    intro i e hi e1 e2 e3 e7 hall
    have hil : i < l.length := by omega
    rcases h2 with h2 | ⟨b, o, rfl, h2⟩
    · rw [h2] at hil; simp at hil
    obtain ⟨cs, h3, h4⟩ := h2 i hil
    have g3 := fun L => rng_gc (rng_sub (vw_app 0 H L) h3)
    rw [step_w] at g3
    refine lp_step ?_
    refine seq_assoc (seq_reg ?_)
    simp only [go_sem, binC, e1, e7]
    refine seq_cond (t := true) (by simp only [go_sem, binC]; rw [decide_eq_true (by omega)]) ?_
    simp only [go_sem, binC]
    refine seq_skip (seq_block (seq_regD ?_))
    simp only [go_sem, binC, e1, e2, e3, e7, g3]
    refine ⟨⟨by omega, by omega⟩, ?_⟩
    refine op_callB (by simp only [go_sem, binC, e2]; exact g0 _ m _ _ (p0, p1) l[i] d (hp _) ⟨cs, rfl, (Co.step n).mono (vw_app 0 H _) h4⟩ (hs.2 _ (List.getElem_mem _)) hd0 hd3) (fun hb => ?_) (fun hb => ?_)
    · simp only [go_sem, binC]
      refine wpc_cond (t := false) (by simp only [go_sem, binC]) ?_
      simp only [go_sem, binC]
      refine wpc_skip ?_
      simp only [go_sem, binC, out_n, thenX_n]
      refine wpc_reg ?_
      simp only [go_sem, binC, e7]
      have hw1 : IntKind.i64.wrap ((i : Int) + 1) = ((i + 1 : Nat) : Int) := by rw [wrap_id (by omega) (by omega)]; omega
      rw [hw1]
      refine ih (i + 1) _ (by omega) (by simp only [go_sem, binC, e1]) (by simp only [go_sem, binC, e2]) (by simp only [go_sem, binC, e3]) (by simp only [go_sem, binC]) ?_
      rw [hall, List.drop_eq_getElem_cons hil, List.all_cons, hb, Bool.true_and]
    · simp only [go_sem, binC]
      refine wpc_cond (t := true) (by simp only [go_sem, binC]) ?_
      simp only [go_sem, binC]
      refine seq_reg ?_
      simp only [go_sem, binC]
      refine wpc_ret ?_
      simp only [go_sem, binC, out_r, thenX_r]
      refine ⟨Or.inr rfl, .bool false, by simp only [go_sem, binC], ?_, rfl⟩
      rw [hall, List.drop_eq_getElem_cons hil, List.all_cons, hb, Bool.false_and]
theorem sSteps_all {F : Nat → Option IFn} (hf : F 94 = some c_sStep) (hfs : F 66 = some c_sSteps) (g0 : InOk F 86) (g1 : VarOk F 108) (g2 : ValOk F 109) : ∀ n, StepsOk F 66 n ∧ StepOk F 94 n := by
  intro n
  induction n with
  | zero =>
    have z : StepOk F 94 0 := by
      rintro H m v u p a d _ ⟨_, _, h⟩
      exact h.elim
    exact ⟨sSteps_ok hfs z, z⟩
  | succ n ih =>
    have z := sStep_ok hf g0 g1 g2 ih.1
    exact ⟨sSteps_ok hfs z, z⟩
end Go.Proofs.YtmakdcbpohlacaaI
end
end
section
/- What a seat with drawn programs rests on. -/
end
section
/- Numbers of a program's variables: as many, each a number. -/
set_option linter.unusedVariables false
set_option linter.unusedSimpArgs false
namespace Go.Proofs.YtmakdcbpohlacaaI
open Go Go.RowKit
def c_iNums : IFn := ⟨2, 27, [.t 4],
 .seq (.reg none [
    ⟨(some 2), none, .box (.t 0)⟩,
    ⟨(some 4), none, .mov (.c (.bool false))⟩])
 (.seq (.seq (.reg none [
     ⟨(some 7), none, .mov (.t 1)⟩,
     ⟨(some 8), none, .len (.t 7)⟩,
     ⟨(some 9), none, .mov (.c (.int .i64 0))⟩])
  (.block 0 (.loop (.seq (.reg none [
       ⟨(some 10), none, .bin .lss (.t 9) (.t 8)⟩])
    (.seq (.cond (.t 10) (.skip) (.exit 0))
    (.seq (.block 1 (.seq (.reg none [
         ⟨(some 11), none, .iad 1 (.t 7) (.t 9)⟩,
         ⟨(some 12), none, .load false 1 (.t 11)⟩,
         ⟨(some 6), none, .mov (.t 12)⟩])
      (.seq (.reg none [
         ⟨(some 13), none, .mov (.t 6)⟩,
         ⟨(some 14), none, .call .q (.f 88) [(.t 13)]⟩,
         ⟨(some 15), none, .un .not (.t 14)⟩])
      (.cond (.t 15) (.seq (.reg none [
          ⟨(some 4), none, .mov (.c (.bool false))⟩])
       (.ret)) (.skip)))))
    (.reg none [
      ⟨(some 16), none, .bin .add (.t 9) (.c (.int .i64 1))⟩,
      ⟨(some 9), none, .mov (.t 16)⟩])))))))
 (.seq (.reg none [
    ⟨(some 17), none, .load true 2 (.t 2)⟩,
    ⟨(some 18), none, .call .q (.f 33) [(.t 17)]⟩,
    ⟨(some 19), none, .mov (.t 18)⟩,
    ⟨(some 20), (some (19, true)), .mov (.t 1)⟩,
    ⟨(some 21), (some (19, true)), .len (.t 20)⟩,
    ⟨(some 22), (some (19, true)), .fad 0 (.t 2)⟩,
    ⟨(some 23), (some (19, true)), .load false 1 (.t 22)⟩,
    ⟨(some 24), (some (19, true)), .len (.t 23)⟩,
    ⟨(some 25), (some (19, true)), .bin .eql (.t 21) (.t 24)⟩,
    ⟨(some 26), none, .pick (.t 19) (.t 25) (.c (.bool false))⟩,
    ⟨(some 4), none, .mov (.t 26)⟩])
 (.ret)))⟩
def c_sNums : IFn := ⟨2, 29, [.t 4],
 .seq (.reg none [
    ⟨(some 2), none, .box (.t 0)⟩,
    ⟨(some 4), none, .mov (.c (.bool false))⟩])
 (.seq (.seq (.reg none [
     ⟨(some 6), none, .load true 2 (.t 2)⟩,
     ⟨(some 7), none, .call .q (.f 28) [(.t 6)]⟩,
     ⟨(some 8), none, .un .not (.t 7)⟩,
     ⟨(some 9), none, .mov (.t 8)⟩,
     ⟨(some 10), (some (9, false)), .mov (.t 1)⟩,
     ⟨(some 11), (some (9, false)), .len (.t 10)⟩,
     ⟨(some 12), (some (9, false)), .fad 0 (.t 2)⟩,
     ⟨(some 13), (some (9, false)), .load false 1 (.t 12)⟩,
     ⟨(some 14), (some (9, false)), .len (.t 13)⟩,
     ⟨(some 15), (some (9, false)), .bin .neq (.t 11) (.t 14)⟩,
     ⟨(some 16), none, .pick (.t 9) (.c (.bool true)) (.t 15)⟩])
  (.cond (.t 16) (.seq (.reg none [
      ⟨(some 4), none, .mov (.c (.bool false))⟩])
   (.ret)) (.skip)))
 (.seq (.seq (.reg none [
     ⟨(some 5), none, .mov (.c (.int .i64 0))⟩])
  (.block 0 (.loop (.seq (.seq (.reg none [
        ⟨(some 17), none, .mov (.t 5)⟩,
        ⟨(some 18), none, .mov (.t 1)⟩,
        ⟨(some 19), none, .len (.t 18)⟩,
        ⟨(some 20), none, .bin .lss (.t 17) (.t 19)⟩])
     (.cond (.t 20) (.skip) (.exit 0)))
    (.seq (.block 1 (.seq (.reg none [
         ⟨(some 23), none, .mov (.t 1)⟩,
         ⟨(some 24), none, .mov (.t 5)⟩,
         ⟨(some 25), none, .iad 1 (.t 23) (.t 24)⟩,
         ⟨(some 26), none, .load false 1 (.t 25)⟩,
         ⟨(some 27), none, .call .q (.f 86) [(.t 26), (.c (.int .i64 0)), (.c (.int .i64 9))]⟩,
         ⟨(some 28), none, .un .not (.t 27)⟩])
      (.cond (.t 28) (.seq (.reg none [
          ⟨(some 4), none, .mov (.c (.bool false))⟩])
       (.ret)) (.skip))))
    (.reg none [
      ⟨(some 21), none, .mov (.t 5)⟩,
      ⟨(some 22), none, .bin .add (.t 21) (.c (.int .i64 1))⟩,
      ⟨(some 5), none, .mov (.t 22)⟩]))))))
 (.seq (.reg none [
    ⟨(some 4), none, .mov (.c (.bool true))⟩])
 (.ret))))⟩
def numsB (n : Nat) (p : TProg n) (nums : List Int) : Bool := progB n p && decide (nums.length = p.1.length) && nums.all (inB · 0 9)
def NumsOk (F : Nat → Option IFn) (f : Nat) : Prop := ∀ (H : Heap) (n : Nat) (lv sv w : Value) (ls : List (Int × Int)) (l : List (TStep n)) (nums : List Int), SlR Co.p2 (vw 0 H) lv ls → SlR (Co.step n) (vw 0 H) sv l → (Co.prog n).sm (ls, l) → SlR Co.int (vw 0 H) w nums → QC F f [.agg #[lv, sv], w] H (.bool (numsB n (ls, l) nums))
theorem gcI {H : Heap} {v : Value} {l : List Int} (h : SlR Co.int (vw 0 H) v l) {i : Nat} (hi : i < l.length) : ∃ b o, v = .slice (some ⟨b, o, none⟩) l.length l.length ∧ getCells H b (o + i) 1 = some [.int .i64 l[i]] := by
  obtain ⟨_, a, rfl, h2⟩ := h
  rcases h2 with h2 | ⟨b, o, rfl, h2⟩
  · rw [h2] at hi; simp at hi
  · obtain ⟨cs, h3, h4, _⟩ := h2 i hi
    have h5 := rng_gc h3
    rw [show Co.int.w = 1 from rfl, Nat.mul_one, h4] at h5
    exact ⟨b, o, rfl, h5⟩
theorem iNums_ok {F : Nat → Option IFn} {f : Nat} (hf : F f = some c_iNums) (g0 : ∀ (H : Heap) (a : Int), QC F 88 [.int .i64 a] H (.bool (inB a 0 9))) (g1 : ProgOk F 33) : NumsOk F f := by
  intro H n lv sv w ls l nums r1 r2 hsm r3
  obtain ⟨_, a0, rfl, _⟩ := id r1
  obtain ⟨_, a1, rfl, _⟩ := id r2
  obtain ⟨hl, a2, rfl, _⟩ := id r3
  refine QC.mk hf rfl ?_
  refine seq_reg ?_
  simp only [go_sem, binC]
  refine wpc_gen fun H1 hH1 => ?_
  have hb : H1[H.length]? = some ⟨[.slice a0 ls.length ls.length, .slice a1 l.length l.length], 0, 0, false, true⟩ := hH1 ▸ get_new0 _ _
  have hS : Sub (vw 0 H) (vw 0 H1) := hH1 ▸ vw_app 0 H _
  replace r1 := r1.mono hS
  replace r2 := r2.mono hS
  replace r3 := r3.mono hS
  clear hH1 hS
  refine seq_assoc (seq_reg ?_)
  simp only [go_sem, binC]
  refine seq_block (wpc_loop ?_)
  suffices h : ∀ (k i : Nat) (e : Env), i + k = nums.length → e 1 = .slice a2 nums.length nums.length → e 2 = ptr H.length 0 → e 7 = .slice a2 nums.length nums.length → e 8 = .int .i64 nums.length → e 9 = .int .i64 i → nums.all (inB · 0 9) = (nums.drop i).all (inB · 0 9) → W F H.length _ e _ _ from
    h nums.length 0 _ (by omega) (by simp only [go_sem, binC]) (by simp only [go_sem, binC]) (by simp only [go_sem, binC]) (by simp only [go_sem, binC]) (by (simp only [go_sem, binC]) <;> rfl) rfl
  intro k
  induction k with
  | zero =>
    intro i e hi e1 e2 e7 e8 e9 hall
    refine lp_step ?_
    refine seq_reg ?_
    simp only [go_sem, binC, e8, e9]
    refine seq_cond (t := false) (by simp only [go_sem, binC]; rw [decide_eq_false (by omega)]) ?_
    simp only [go_sem, binC]
    refine seq_exit ?_
    simp only [go_sem, binC, thenX_e, out_e, thenX_n]
    have hall' : nums.all (inB · 0 9) = true := by rw [hall, List.drop_of_length_le (by omega)]; rfl
    refine seq_reg ?_
    simp only [go_sem, binC, e2, gc_of hb, inBlk_some]
    refine op_callB (by simp only [go_sem, binC]; exact g1 _ n _ (ls, l) (prog_rd r1 r2) hsm) (fun hP => ?_) (fun hP => ?_)
    · simp only [go_sem, binC, e1, e2, gc_of hb, inBlk_some]
      refine wpc_ret ⟨Or.inr rfl, _, (by (simp only [go_sem, binC]) <;> rfl), ?_, rfl⟩
      refine congrArg _ ?_
      simp only [numsB, hP, hall', Bool.true_and, Bool.and_true]
      rw [Bool.eq_iff_iff, beq_iff_eq, decide_eq_true_iff]
      omega
    · simp only [go_sem, binC]
      refine wpc_ret ⟨Or.inr rfl, _, (by (simp only [go_sem, binC]) <;> rfl), ?_, rfl⟩
      simp [numsB, hP]
  | succ k ih =>
    intro i e hi e1 e2 e7 e8 e9 hall
    have hil : i < nums.length := by omega
    obtain ⟨b, o, hv, hg⟩ := gcI r3 hil
    simp only [Value.slice.injEq, and_true] at hv
    subst hv
    have hw1 : IntKind.i64.wrap ((i : Int) + 1) = ((i + 1 : Nat) : Int) := by rw [wrap_id (by omega) (by omega)]; omega
    rw [List.drop_eq_getElem_cons hil, List.all_cons] at hall
    refine lp_step ?_
    refine seq_reg ?_
    simp only [go_sem, binC, e8, e9]
    refine seq_cond (t := true) (by simp only [go_sem, binC]; rw [decide_eq_true (by omega)]) ?_
    simp only [go_sem, binC]
    refine seq_skip (seq_block (seq_reg ?_))
    simp only [go_sem, binC, e7, e9]
    refine ⟨⟨by omega, by omega⟩, ?_⟩
    simp only [go_sem, binC, Int.toNat_natCast, Nat.mul_one, hg]
    refine seq_reg ?_
    simp only [go_sem, binC]
    refine op_callB (by simp only [go_sem, binC]; exact g0 _ _) (fun hb1 => ?_) (fun hb1 => ?_)
    · simp only [go_sem, binC]
      refine wpc_cond (t := false) rfl ?_
      simp only [go_sem, binC]
      refine wpc_skip ?_
      simp only [go_sem, binC, out_n, thenX_n]
      refine wpc_reg ?_
      simp only [go_sem, binC, e9, hw1]
      simp only [go_sem, binC, thenX_n]
      rw [hb1, Bool.true_and] at hall
      exact ih (i + 1) _ (by omega) (by simp only [go_sem, binC, e1]) (by simp only [go_sem, binC, e2]) (by simp only [go_sem, binC, e7]) (by simp only [go_sem, binC, e8]) (by simp only [go_sem, binC]) hall
    · simp only [go_sem, binC]
      refine wpc_cond (t := true) rfl ?_
      simp only [go_sem, binC]
      refine seq_reg ?_
      simp only [go_sem, binC]
      refine wpc_ret ?_
      simp only [go_sem, binC, out_r, thenX_r]
      rw [hb1, Bool.false_and] at hall
      refine ⟨Or.inr rfl, _, (by (simp only [go_sem, binC]) <;> rfl), ?_, rfl⟩
      simp [numsB, hall]
theorem sNums_ok {F : Nat → Option IFn} {f : Nat} (hf : F f = some c_sNums) (g0 : ∀ (H : Heap) (a b c : Int), QC F 86 [.int .i64 a, .int .i64 b, .int .i64 c] H (.bool (inB a b c))) (g1 : ProgOk F 28) : NumsOk F f := by
  intro H n lv sv w ls l nums r1 r2 hsm r3
  obtain ⟨_, a0, rfl, _⟩ := id r1
  obtain ⟨_, a1, rfl, _⟩ := id r2
  obtain ⟨hl, a2, rfl, _⟩ := id r3
  refine QC.mk hf rfl ?_
  refine seq_reg ?_
  simp only [go_sem, binC]
  refine wpc_gen fun H1 hH1 => ?_
  have hb : H1[H.length]? = some ⟨[.slice a0 ls.length ls.length, .slice a1 l.length l.length], 0, 0, false, true⟩ := hH1 ▸ get_new0 _ _
  have hS : Sub (vw 0 H) (vw 0 H1) := hH1 ▸ vw_app 0 H _
  replace r1 := r1.mono hS
  replace r2 := r2.mono hS
  replace r3 := r3.mono hS
  clear hH1 hS
  refine seq_assoc (seq_reg ?_)
  simp only [go_sem, binC, gc_of hb, inBlk_some]
  refine op_callB (by simp only [go_sem, binC]; exact g1 _ n _ (ls, l) (prog_rd r1 r2) hsm) (fun hP => ?_) (fun hP => ?_)
  rotate_left
  · simp only [go_sem, binC]
    refine seq_cond (t := true) rfl ?_
    simp only [go_sem, binC]
    refine seq_assoc (seq_reg ?_)
    simp only [go_sem, binC]
    refine seq_ret ⟨Or.inr rfl, _, (by (simp only [go_sem, binC]) <;> rfl), ?_, rfl⟩
    simp [numsB, hP]
  simp only [go_sem, binC, gc_of hb, inBlk_some]
  by_cases hln : nums.length = ls.length
  rotate_left
  · have hne : ((nums.length : Int) != (ls.length : Int)) = true := by simp; omega
    simp only [go_sem, binC, hne]
    refine seq_cond (t := true) rfl ?_
    simp only [go_sem, binC]
    refine seq_assoc (seq_reg ?_)
    simp only [go_sem, binC]
    refine seq_ret ⟨Or.inr rfl, _, (by (simp only [go_sem, binC]) <;> rfl), ?_, rfl⟩
    simp [numsB, hP, hln]
  have hne : ((nums.length : Int) != (ls.length : Int)) = false := by simp; omega
  simp only [go_sem, binC, hne]
  refine seq_cond (t := false) rfl ?_
  simp only [go_sem, binC]
  refine seq_skip (seq_assoc (seq_reg ?_))
  simp only [go_sem, binC]
  refine seq_block (wpc_loop ?_)
  suffices h : ∀ (k i : Nat) (e : Env), i + k = nums.length → e 1 = .slice a2 nums.length nums.length → e 5 = .int .i64 i → nums.all (inB · 0 9) = (nums.drop i).all (inB · 0 9) → W F H.length _ e _ _ from
    h nums.length 0 _ (by omega) (by simp only [go_sem, binC]) (by (simp only [go_sem, binC]) <;> rfl) rfl
  intro k
  induction k with
  | zero =>
    intro i e hi e1 e5 hall
    refine lp_step ?_
    refine seq_assoc (seq_reg ?_)
    simp only [go_sem, binC, e1, e5]
    refine seq_cond (t := false) (by simp only [go_sem, binC]; rw [decide_eq_false (by omega)]) ?_
    simp only [go_sem, binC]
    refine seq_exit ?_
    simp only [go_sem, binC, thenX_e, out_e, thenX_n]
    have hall' : nums.all (inB · 0 9) = true := by rw [hall, List.drop_of_length_le (by omega)]; rfl
    refine seq_reg ?_
    simp only [go_sem, binC]
    refine wpc_ret ⟨Or.inr rfl, .bool true, (by (simp only [go_sem, binC]) <;> rfl), ?_, rfl⟩
    simp only [numsB, hP, hall', hln, decide_true, Bool.true_and]
  | succ k ih =>
    intro i e hi e1 e5 hall
    have hil : i < nums.length := by omega
    obtain ⟨b, o, hv, hg⟩ := gcI r3 hil
    simp only [Value.slice.injEq, and_true] at hv
    subst hv
    have hw1 : IntKind.i64.wrap ((i : Int) + 1) = ((i + 1 : Nat) : Int) := by rw [wrap_id (by omega) (by omega)]; omega
    rw [List.drop_eq_getElem_cons hil, List.all_cons] at hall
    refine lp_step ?_
    refine seq_assoc (seq_reg ?_)
    simp only [go_sem, binC, e1, e5]
    refine seq_cond (t := true) (by simp only [go_sem, binC]; rw [decide_eq_true (by omega)]) ?_
    simp only [go_sem, binC]
    refine seq_skip (seq_block (seq_reg ?_))
    simp only [go_sem, binC, e1, e5]
    refine ⟨⟨by omega, by omega⟩, ?_⟩
    simp only [go_sem, binC, Int.toNat_natCast, Nat.mul_one, hg]
    refine op_callB (by simp only [go_sem, binC]; exact g0 _ _ _ _) (fun hb1 => ?_) (fun hb1 => ?_)
    · simp only [go_sem, binC]
      refine wpc_cond (t := false) rfl ?_
      simp only [go_sem, binC]
      refine wpc_skip ?_
      simp only [go_sem, binC, out_n, thenX_n]
      refine wpc_reg ?_
      simp only [go_sem, binC, e5, hw1]
      simp only [go_sem, binC, thenX_n]
      rw [hb1, Bool.true_and] at hall
      exact ih (i + 1) _ (by omega) (by simp only [go_sem, binC, e1]) (by simp only [go_sem, binC]) hall
    · simp only [go_sem, binC]
      refine wpc_cond (t := true) rfl ?_
      simp only [go_sem, binC]
      refine seq_reg ?_
      simp only [go_sem, binC]
      refine wpc_ret ?_
      simp only [go_sem, binC, out_r, thenX_r]
      rw [hb1, Bool.false_and] at hall
      refine ⟨Or.inr rfl, .bool false, (by (simp only [go_sem, binC]) <;> rfl), ?_, rfl⟩
      simp [numsB, hall]
end Go.Proofs.YtmakdcbpohlacaaI
end
section
/- Values of numbers; what comes of a program, as memory. -/
set_option linter.unusedVariables false
set_option linter.unusedSimpArgs false
namespace Go.Proofs.YtmakdcbpohlacaaI
open Go Go.RowKit
def c_vars : IFn := ⟨1, 18, [.t 2],
 .seq (.reg none [
    ⟨(some 1), none, .box (.t 0)⟩,
    ⟨(some 2), none, .mov (.c (.slice none 0 0))⟩])
 (.seq (.seq (.reg none [
     ⟨(some 3), none, .fad 0 (.t 1)⟩,
     ⟨(some 4), none, .load false 1 (.t 3)⟩])
  (.block 0 (.seq (.reg none [
      ⟨(some 6), none, .bin .eql (.t 4) (.c (.int .i64 2))⟩,
      ⟨(some 5), none, .mov (.t 6)⟩])
   (.cond (.t 5) (.seq (.reg none [
       ⟨(some 7), none, .fad 1 (.t 1)⟩,
       ⟨(some 8), none, .load false 1 (.t 7)⟩,
       ⟨(some 9), none, .lit 1 3 1 [(.int .i64 0)] [(0, 1, (.t 8))]⟩,
       ⟨(some 2), none, .mov (.t 9)⟩])
    (.ret)) (.seq (.seq (.reg none [
        ⟨(some 11), none, .bin .eql (.t 4) (.c (.int .i64 3))⟩,
        ⟨(some 10), none, .mov (.t 11)⟩])
     (.cond (.t 10) (.skip) (.reg none [
        ⟨(some 12), none, .bin .eql (.t 4) (.c (.int .i64 4))⟩,
        ⟨(some 10), none, .mov (.t 12)⟩])))
    (.cond (.t 10) (.seq (.reg none [
        ⟨(some 13), none, .fad 1 (.t 1)⟩,
        ⟨(some 14), none, .load false 1 (.t 13)⟩,
        ⟨(some 15), none, .fad 2 (.t 1)⟩,
        ⟨(some 16), none, .load false 1 (.t 15)⟩,
        ⟨(some 17), none, .lit 1 3 2 [(.int .i64 0), (.int .i64 0)] [(0, 1, (.t 14)), (1, 1, (.t 16))]⟩,
        ⟨(some 2), none, .mov (.t 17)⟩])
     (.ret)) (.skip)))))))
 (.seq (.reg none [
    ⟨(some 2), none, .mov (.c (.slice none 0 0))⟩])
 (.ret)))⟩
def c_of : IFn := ⟨2, 33, [.t 4],
 .seq (.reg none [
    ⟨(some 2), none, .box (.t 0)⟩,
    ⟨(some 4), none, .mov (.c (.int .i64 0))⟩])
 (.seq (.seq (.reg none [
     ⟨(some 5), none, .fad 0 (.t 2)⟩,
     ⟨(some 6), none, .load false 1 (.t 5)⟩])
  (.block 0 (.seq (.reg none [
      ⟨(some 8), none, .bin .eql (.t 6) (.c (.int .i64 1))⟩,
      ⟨(some 7), none, .mov (.t 8)⟩])
   (.cond (.t 7) (.seq (.reg none [
       ⟨(some 9), none, .fad 1 (.t 2)⟩,
       ⟨(some 10), none, .load false 1 (.t 9)⟩,
       ⟨(some 4), none, .mov (.t 10)⟩])
    (.ret)) (.seq (.reg none [
       ⟨(some 12), none, .bin .eql (.t 6) (.c (.int .i64 2))⟩,
       ⟨(some 11), none, .mov (.t 12)⟩])
    (.cond (.t 11) (.seq (.reg none [
        ⟨(some 13), none, .mov (.t 1)⟩,
        ⟨(some 14), none, .iad 1 (.t 13) (.c (.int .i64 0))⟩,
        ⟨(some 15), none, .load false 1 (.t 14)⟩,
        ⟨(some 4), none, .mov (.t 15)⟩])
     (.ret)) (.seq (.reg none [
        ⟨(some 17), none, .bin .eql (.t 6) (.c (.int .i64 3))⟩,
        ⟨(some 16), none, .mov (.t 17)⟩])
     (.cond (.t 16) (.seq (.reg (some 6) [
         ⟨(some 18), none, .mov (.t 1)⟩,
         ⟨(some 19), none, .iad 1 (.t 18) (.c (.int .i64 0))⟩,
         ⟨(some 20), none, .load false 1 (.t 19)⟩,
         ⟨(some 21), none, .mov (.t 1)⟩,
         ⟨(some 22), none, .iad 1 (.t 21) (.c (.int .i64 1))⟩,
         ⟨(some 23), none, .load false 1 (.t 22)⟩,
         ⟨(some 24), none, .bin .add (.t 20) (.t 23)⟩,
         ⟨(some 25), none, .bin .rem (.t 24) (.c (.int .i64 10))⟩,
         ⟨(some 4), none, .mov (.t 25)⟩])
      (.ret)) (.skip)))))))))
 (.seq (.seq (.reg (some 6) [
     ⟨(some 26), none, .mov (.t 1)⟩,
     ⟨(some 27), none, .iad 1 (.t 26) (.c (.int .i64 0))⟩,
     ⟨(some 28), none, .load false 1 (.t 27)⟩,
     ⟨(some 29), none, .mov (.t 1)⟩,
     ⟨(some 30), none, .iad 1 (.t 29) (.c (.int .i64 1))⟩,
     ⟨(some 31), none, .load false 1 (.t 30)⟩,
     ⟨(some 32), none, .bin .eql (.t 28) (.t 31)⟩])
  (.cond (.t 32) (.seq (.reg none [
      ⟨(some 4), none, .mov (.c (.int .i64 1))⟩])
   (.ret)) (.skip)))
 (.seq (.reg none [
    ⟨(some 4), none, .mov (.c (.int .i64 0))⟩])
 (.ret))))⟩
def c_cloneInts : IFn := ⟨1, 5, [.t 2],
 .seq (.reg none [
    ⟨(some 2), none, .mov (.c (.slice none 0 0))⟩])
 (.seq (.reg none [
    ⟨(some 3), none, .mov (.t 0)⟩,
    ⟨(some 4), none, .app 1 3 8 false (.c (.slice none 0 0)) (.t 3)⟩,
    ⟨(some 2), none, .mov (.t 4)⟩])
 (.ret))⟩
def c_clone : IFn := ⟨1, 13, [.cell true 3 2],
 .seq (.reg none [
    ⟨(some 1), none, .box (.t 0)⟩,
    ⟨(some 2), none, .new [(.slice none 0 0), (.slice none 0 0), (.slice none 0 0)]⟩])
 (.seq (.reg (some 8) [
    ⟨(some 3), none, .fad 0 (.t 1)⟩,
    ⟨(some 4), none, .load false 1 (.t 3)⟩,
    ⟨(some 5), none, .call .k (.f 52) [(.t 4)]⟩,
    ⟨(some 6), none, .fad 1 (.t 1)⟩,
    ⟨(some 7), none, .load false 1 (.t 6)⟩,
    ⟨(some 8), none, .app 2 109 16 false (.c (.slice none 0 0)) (.t 7)⟩,
    ⟨(some 9), none, .fad 2 (.t 1)⟩,
    ⟨(some 10), none, .load false 1 (.t 9)⟩,
    ⟨(some 11), none, .app 2 81 16 false (.c (.slice none 0 0)) (.t 10)⟩,
    ⟨(some 12), none, .build [(.slice none 0 0), (.slice none 0 0), (.slice none 0 0)] [(0, 1, (.t 5)), (1, 1, (.t 8)), (2, 1, (.t 11))]⟩,
    ⟨none, none, .store 3 (.t 2) (.t 12)⟩])
 (.ret))⟩
def varsL (v : Int × Int × Int) : List Int := if v.1 = 2 then [v.2.1] else if v.1 = 3 ∨ v.1 = 4 then [v.2.1, v.2.2] else []
def ofV (v : Int × Int × Int) (xs : List Int) : Int := if v.1 = 1 then v.2.1 else if v.1 = 2 then xs.getD 0 0 else if v.1 = 3 then (xs.getD 0 0 + xs.getD 1 0) % 10 else if xs.getD 0 0 = xs.getD 1 0 then 1 else 0
def ints (l : List Int) : List Value := l.map (fun n => .int .i64 n)
theorem ints_sl {H : Heap} {b o es et lo : Nat} {ap so : Bool} {xs : List Nat} {l : List Int} (h : H[b]? = some ⟨ints l, es, et, ap, so⟩) (hlo : lo ≤ b) (hb : b ∉ xs) (hr : ∀ x ∈ l, RgI x) (ho : o ≤ l.length) (hl : l.length ≤ 9223372036854775807) : SlR Co.int (vwl lo xs H) (.slice (some ⟨b, o, none⟩) (l.drop o).length (l.drop o).length) (l.drop o) := by
  refine ⟨by rw [List.length_drop]; omega, _, rfl, .inr ⟨b, o, rfl, fun i hi => ⟨[.int .i64 (l.drop o)[i]], ?_, rfl, hr _ (List.mem_of_mem_drop (List.getElem_mem hi))⟩⟩⟩
  rw [List.length_drop] at hi
  unfold rng vwl
  rw [if_pos ⟨hlo, hb⟩, h]
  simp only [Option.map_some, Co.int, ints, List.length_map]
  rw [if_pos (by omega)]
  have h1 : ((l.map (fun n => Value.int .i64 n)).drop (o + i * 1)).head? = some (.int .i64 (l.drop o)[i]) := by
    rw [List.head?_drop, List.getElem?_map, List.getElem?_eq_getElem (by omega), List.getElem_drop]
    simp
  cases hd : (l.map (fun n => Value.int .i64 n)).drop (o + i * 1) with
  | nil => rw [hd] at h1; cases h1
  | cons c r => rw [hd] at h1; simp only [List.head?_cons, Option.some.injEq] at h1; subst h1; rfl
theorem ints_sl0 {H : Heap} {b es et : Nat} {ap so : Bool} {l : List Int} (h : H[b]? = some ⟨ints l, es, et, ap, so⟩) (hr : ∀ x ∈ l, RgI x) (hl : l.length ≤ 9223372036854775807) : SlR Co.int (vw 0 H) (sli b 0 l.length) l :=
  (ints_sl (lo := 0) (xs := []) (o := 0) h (Nat.zero_le _) (by simp) hr (Nat.zero_le _) hl).mono (vwl0 _ _ _)
theorem vars_okV {F : Nat → Option IFn} {f : Nat} (hf : F f = some c_vars) : ∀ (H : Heap) (k a b : Int), RgI a → RgI b → ∃ w L, KC F f [.agg #[.int .i64 k, .int .i64 a, .int .i64 b]] H w (H ++ L) ∧ SlR Co.int (vwl H.length [] (H ++ L)) w (varsL (k, a, b)) := by
  intro H k a b ha hb
  suffices h : ∃ w H', KC F f [.agg #[.int .i64 k, .int .i64 a, .int .i64 b]] H w H' ∧ (∃ L, H' = H ++ L ∧ SlR Co.int (vwl H.length [] H') w (varsL (k, a, b))) by
    obtain ⟨w, _, h1, L, rfl, h2⟩ := h
    exact ⟨w, L, h1, h2⟩
  refine KC.mk hf rfl ?_
  refine seq_reg ?_
  simp only [go_sem, binC]
  refine seq_assoc (seq_reg ?_)
  simp only [go_sem, binC]
  refine seq_block (seq_reg ?_)
  simp only [go_sem, binC]
  by_cases h2 : k = 2
  · simp only [go_sem, binC, beq_t h2]
    refine wpc_cond (t := true) rfl ?_
    simp only [go_sem, binC]
    refine seq_reg ?_
    simp only [go_sem, binC]
    refine wpc_ret ?_
    simp only [go_sem, binC, out_r, thenX_r]
    refine ⟨Or.inr rfl, _, (by (simp only [go_sem, binC]) <;> rfl), _, rfl, ?_⟩
    have h1 : varsL (k, a, b) = [a] := by simp [varsL, h2]
    rw [h1]
    exact ints_sl (o := 0) (lo := H.length) (xs := []) (l := [a]) (get_new _ _ 1) (by omega) (by simp) (by intro x hx; simp at hx; subst hx; exact ha) (Nat.zero_le _) (by simp)
  simp only [go_sem, binC, beq_f h2]
  refine wpc_cond (t := false) rfl ?_
  simp only [go_sem, binC]
  refine seq_assoc (seq_reg ?_)
  simp only [go_sem, binC]
  have two : ∀ (e : Env) (K : X → Env → Heap → Prop), True := fun _ _ => trivial
  by_cases h3 : k = 3
  · simp only [go_sem, binC, beq_t h3]
    refine seq_cond (t := true) rfl ?_
    simp only [go_sem, binC]
    refine seq_skip (wpc_cond (t := true) rfl ?_)
    simp only [go_sem, binC]
    refine seq_reg ?_
    simp only [go_sem, binC]
    refine wpc_ret ?_
    simp only [go_sem, binC, out_r, thenX_r]
    refine ⟨Or.inr rfl, _, (by (simp only [go_sem, binC]) <;> rfl), _, rfl, ?_⟩
    have h1 : varsL (k, a, b) = [a, b] := by simp [varsL, h3]
    rw [h1]
    exact ints_sl (o := 0) (lo := H.length) (xs := []) (l := [a, b]) (get_new _ _ 1) (by omega) (by simp) (by intro x hx; simp at hx; rcases hx with rfl | rfl; exact ha; exact hb) (Nat.zero_le _) (by simp)
  simp only [go_sem, binC, beq_f h3]
  refine seq_cond (t := false) rfl ?_
  simp only [go_sem, binC]
  by_cases h4 : k = 4
  · refine seq_reg ?_
    simp only [go_sem, binC, beq_t h4]
    refine wpc_cond (t := true) rfl ?_
    simp only [go_sem, binC]
    refine seq_reg ?_
    simp only [go_sem, binC]
    refine wpc_ret ?_
    simp only [go_sem, binC, out_r, thenX_r]
    refine ⟨Or.inr rfl, _, (by (simp only [go_sem, binC]) <;> rfl), _, rfl, ?_⟩
    have h1 : varsL (k, a, b) = [a, b] := by simp [varsL, h4]
    rw [h1]
    exact ints_sl (o := 0) (lo := H.length) (xs := []) (l := [a, b]) (get_new _ _ 1) (by omega) (by simp) (by intro x hx; simp at hx; rcases hx with rfl | rfl; exact ha; exact hb) (Nat.zero_le _) (by simp)
  refine seq_reg ?_
  simp only [go_sem, binC, beq_f h4]
  refine wpc_cond (t := false) rfl ?_
  simp only [go_sem, binC]
  refine wpc_skip ?_
  simp only [go_sem, binC, out_n, thenX_n]
  refine seq_reg ?_
  simp only [go_sem, binC]
  refine wpc_ret ⟨Or.inr rfl, _, (by (simp only [go_sem, binC]) <;> rfl), _, rfl, ?_⟩
  have h1 : varsL (k, a, b) = [] := by simp [varsL, h2, h3, h4]
  rw [h1]
  exact ⟨by simp, none, rfl, .inl rfl⟩
theorem vars_ok {F : Nat → Option IFn} {f : Nat} (hf : F f = some c_vars) : ∀ (H : Heap) (k a b : Int), RgI a → RgI b → ∃ w L, KC F f [.agg #[.int .i64 k, .int .i64 a, .int .i64 b]] H w (H ++ L) ∧ SlR Co.int (vw 0 (H ++ L)) w (varsL (k, a, b)) := fun H k a b ha hb => let ⟨w, L, h1, h2⟩ := vars_okV hf H k a b ha hb; ⟨w, L, h1, h2.mono (vwl0 _ _ _)⟩
theorem gcI0 {H : Heap} {v : Value} {l : List Int} (h : SlR Co.int (vw 0 H) v l) {i : Nat} (hi : i < l.length) : ∃ b o, v = .slice (some ⟨b, o, none⟩) l.length l.length ∧ getCells H b (o + i) 1 = some [.int .i64 l[i]] := by
  obtain ⟨_, a, rfl, h2⟩ := h
  rcases h2 with h2 | ⟨b, o, rfl, h2⟩
  · rw [h2] at hi; simp at hi
  · obtain ⟨cs, h3, h4, _⟩ := h2 i hi
    have h5 := rng_gc h3
    rw [show Co.int.w = 1 from rfl, Nat.mul_one, h4] at h5
    exact ⟨b, o, rfl, h5⟩
theorem gcI2 {H : Heap} {b o n : Nat} {l : List Int} (h : SlR Co.int (vw 0 H) (.slice (some ⟨b, o, none⟩) n n) l) {i : Nat} (hi : i < l.length) : getCells H b (o + i) 1 = some [.int .i64 l[i]] := by
  obtain ⟨b', o', h1, h2⟩ := gcI0 h hi
  simp only [Value.slice.injEq, Option.some.injEq, Addr.mk.injEq, and_true] at h1
  obtain ⟨⟨rfl, rfl⟩, _⟩ := h1
  exact h2
theorem rem10_rule {k : IntKind} {x : Int} {K : Value → Prop} (h : K (.int k (x.tmod 10))) : optP (binI .rem k x 10) K := by
  unfold optP binI
  simpa using h
theorem of_ok {F : Nat → Option IFn} {f : Nat} (hf : F f = some c_of) : ∀ (H : Heap) (k a b : Int) (w : Value) (xs : List Int), SlR Co.int (vw 0 H) w xs → (∀ x ∈ xs, 0 ≤ x ∧ x ≤ 9) → (k = 2 → xs.length = 1) → (k ≠ 1 → k ≠ 2 → xs.length = 2) → QC F f [.agg #[.int .i64 k, .int .i64 a, .int .i64 b], w] H (.int .i64 (ofV (k, a, b) xs)) := by
  intro H k a b w xs hw hx hk2 hk3
  obtain ⟨_, wa, rfl, _⟩ := id hw
  refine QC.mk hf rfl ?_
  refine seq_reg ?_
  simp only [go_sem, binC]
  refine seq_assoc (seq_reg ?_)
  simp only [go_sem, binC]
  refine seq_block (seq_reg ?_)
  simp only [go_sem, binC]
  by_cases h1 : k = 1
  · simp only [go_sem, binC, beq_t h1]
    refine wpc_cond (t := true) rfl ?_
    simp only [go_sem, binC]
    refine seq_reg ?_
    simp only [go_sem, binC]
    refine wpc_ret ?_
    simp only [go_sem, binC, out_r, thenX_r]
    refine ⟨Or.inr rfl, _, (by (simp only [go_sem, binC]) <;> rfl), ?_, rfl⟩
    simp [ofV, h1]
  simp only [go_sem, binC, beq_f h1]
  refine wpc_cond (t := false) rfl ?_
  simp only [go_sem, binC]
  refine seq_reg ?_
  simp only [go_sem, binC]
  have hS : ∀ L, Sub (vw 0 H) (vw 0 (H ++ L)) := fun L => vw_app 0 H L
  by_cases h2 : k = 2
  · have hl := hk2 h2
    obtain ⟨wb, wo, hwv, _⟩ := gcI0 hw (i := 0) (by omega)
    simp only [Value.slice.injEq, and_true] at hwv
    subst hwv
    have g0 := fun L => (gcI2 (hw.mono (hS L)) (i := 0) (by omega))
    simp only [Nat.add_zero] at g0
    simp only [go_sem, binC, beq_t h2]
    refine wpc_cond (t := true) rfl ?_
    simp only [go_sem, binC]
    refine seq_reg ?_
    simp only [go_sem, binC]
    refine ⟨⟨by omega, by omega⟩, ?_⟩
    simp only [go_sem, binC, show (0 : Int).toNat * 1 = 0 from rfl, Nat.add_zero, g0]
    refine wpc_ret ?_
    simp only [go_sem, binC, out_r, thenX_r]
    refine ⟨Or.inr rfl, _, (by (simp only [go_sem, binC]) <;> rfl), ?_, rfl⟩
    simp [ofV, h2, List.getD, List.getElem?_eq_getElem (show 0 < xs.length by omega)]
  have hl := hk3 h1 h2
  obtain ⟨wb, wo, hwv, _⟩ := gcI0 hw (i := 0) (by omega)
  simp only [Value.slice.injEq, and_true] at hwv
  subst hwv
  have g0 := fun L => (gcI2 (hw.mono (hS L)) (i := 0) (by omega))
  have g1 := fun L => (gcI2 (hw.mono (hS L)) (i := 1) (by omega))
  have x0 := hx xs[0] (List.getElem_mem _)
  have x1 := hx xs[1] (List.getElem_mem _)
  have e0 : xs.getD 0 0 = xs[0] := by simp [List.getD, List.getElem?_eq_getElem (show 0 < xs.length by omega)]
  have e1 : xs.getD 1 0 = xs[1] := by simp [List.getD, List.getElem?_eq_getElem (show 1 < xs.length by omega)]
  simp only [Nat.add_zero] at g0
  simp only [go_sem, binC, beq_f h2]
  refine wpc_cond (t := false) rfl ?_
  simp only [go_sem, binC]
  refine seq_reg ?_
  simp only [go_sem, binC]
  by_cases h3 : k = 3
  · simp only [go_sem, binC, beq_t h3]
    refine wpc_cond (t := true) rfl ?_
    simp only [go_sem, binC]
    refine seq_regD ?_
    simp only [go_sem, binC]
    refine ⟨⟨by omega, by omega⟩, ?_⟩
    simp only [go_sem, binC, show (0 : Int).toNat * 1 = 0 from rfl, Nat.add_zero, g0]
    refine ⟨⟨by omega, by omega⟩, ?_⟩
    simp only [go_sem, binC, show (1 : Int).toNat * 1 = 1 from rfl, Nat.add_zero, g1]
    rw [wrap_id (x := xs[0] + xs[1]) (by omega) (by omega)]
    refine rem10_rule ?_
    refine wpc_ret ?_
    simp only [go_sem, binC, out_r, thenX_r]
    refine ⟨Or.inr rfl, _, (by (simp only [go_sem, binC]) <;> rfl), ?_, rfl⟩
    rw [Int.tmod_eq_emod_of_nonneg (by omega)]
    simp only [ofV, h3, e0, e1, if_true]
    rfl
  simp only [go_sem, binC, beq_f h3]
  refine wpc_cond (t := false) rfl ?_
  simp only [go_sem, binC]
  refine wpc_skip ?_
  simp only [go_sem, binC, out_n, thenX_n]
  refine seq_assoc (seq_regD ?_)
  simp only [go_sem, binC]
  refine ⟨⟨by omega, by omega⟩, ?_⟩
  simp only [go_sem, binC, show (0 : Int).toNat * 1 = 0 from rfl, Nat.add_zero, g0]
  refine ⟨⟨by omega, by omega⟩, ?_⟩
  simp only [go_sem, binC, show (1 : Int).toNat * 1 = 1 from rfl, Nat.add_zero, g1]
  by_cases hq : xs[0] = xs[1]
  · simp only [go_sem, binC, beq_t hq]
    refine seq_cond (t := true) rfl ?_
    simp only [go_sem, binC]
    refine seq_assoc (seq_reg ?_)
    simp only [go_sem, binC]
    refine seq_ret ⟨Or.inr rfl, _, (by (simp only [go_sem, binC]) <;> rfl), ?_, rfl⟩
    simp only [ofV, h1, h2, h3, e0, e1, hq, if_true, if_false]
  · simp only [go_sem, binC, beq_f hq]
    refine seq_cond (t := false) rfl ?_
    simp only [go_sem, binC]
    refine seq_skip (seq_reg ?_)
    simp only [go_sem, binC]
    refine wpc_ret ⟨Or.inr rfl, _, (by (simp only [go_sem, binC]) <;> rfl), ?_, rfl⟩
    simp only [ofV, h1, h2, h3, e0, e1, hq, if_true, if_false]
end Go.Proofs.YtmakdcbpohlacaaI
end
section
/- What comes of a program, kept in memory, and one variable set. -/
set_option linter.unusedVariables false
set_option linter.unusedSimpArgs false
namespace Go.Proofs.YtmakdcbpohlacaaI
open Go Go.RowKit
def c_set : IFn := ⟨3, 25, [],
 .seq (.reg none [
    ⟨(some 6), none, .mov (.t 0)⟩,
    ⟨(some 7), none, .nilck (.t 6)⟩,
    ⟨(some 8), none, .fad 0 (.t 7)⟩,
    ⟨(some 9), none, .load false 1 (.t 8)⟩,
    ⟨(some 10), none, .mov (.t 1)⟩,
    ⟨(some 11), none, .mov (.t 2)⟩,
    ⟨(some 12), none, .iad 1 (.t 9) (.t 10)⟩,
    ⟨none, none, .store 1 (.t 12) (.t 11)⟩])
 (.reg none [
   ⟨(some 13), none, .mov (.t 0)⟩,
   ⟨(some 14), none, .mov (.t 0)⟩,
   ⟨(some 15), none, .nilck (.t 14)⟩,
   ⟨(some 16), none, .fad 1 (.t 15)⟩,
   ⟨(some 17), none, .load false 1 (.t 16)⟩,
   ⟨(some 18), none, .mov (.t 1)⟩,
   ⟨(some 19), none, .mov (.t 2)⟩,
   ⟨(some 20), none, .build [(.int .i64 0), (.int .i64 0)] [(0, 1, (.t 18)), (1, 1, (.t 19))]⟩,
   ⟨(some 21), none, .lit 2 109 1 [(.int .i64 0), (.int .i64 0)] [(0, 2, (.t 20))]⟩,
   ⟨(some 22), none, .app 2 109 16 false (.t 17) (.t 21)⟩,
   ⟨(some 23), none, .nilck (.t 13)⟩,
   ⟨(some 24), none, .fad 1 (.t 23)⟩,
   ⟨none, none, .store 1 (.t 24) (.t 22)⟩])⟩
def fi (n : Int) : List Value := [.int .i64 n]
def fp (p : Int × Int) : List Value := [.int .i64 p.1, .int .i64 p.2]
theorem fi_ints (l : List Int) : l.flatMap fi = ints l := by
  induction l with
  | nil => rfl
  | cons a l ih => rw [List.flatMap_cons, ih]; rfl
theorem flat_len {α : Type} {fl : α → List Value} {w : Nat} (hw : ∀ a, (fl a).length = w) (l : List α) : (l.flatMap fl).length = l.length * w := by
  induction l with
  | nil => simp
  | cons a l ih => rw [List.flatMap_cons, List.length_append, ih, hw, List.length_cons, Nat.succ_mul, Nat.add_comm]
/-- A list of flat elements that only grows. -/
def GLi {α : Type} (fl : α → List Value) (es et lo : Nat) (H : Heap) (v : Value) (l : List α) : Prop := (v = nilS ∧ l = []) ∨ ∃ b so, lo ≤ b ∧ v = sli b 0 l.length ∧ l ≠ [] ∧ H[b]? = some ⟨l.flatMap fl, es, et, true, so⟩
def blkOf : Value → List Nat
  | .slice (some a) _ _ => [a.block]
  | _ => []
theorem GLi.one {α : Type} {fl : α → List Value} {es et lo : Nat} {H : Heap} {v : Value} {l : List α} (h : GLi fl es et lo H v l) : one v = true := by
  rcases h with ⟨rfl, _⟩ | ⟨b, so, _, rfl, _⟩ <;> rfl
theorem GLi.keep {α : Type} {fl : α → List Value} {es et lo : Nat} {H H' : Heap} {v : Value} {l : List α} {xs : List Nat} (h : GLi fl es et lo H v l) (hx : AgX xs H H') (hn : ∀ b so, v = sli b 0 l.length → l ≠ [] → H[b]? = some ⟨l.flatMap fl, es, et, true, so⟩ → b ∉ xs) : GLi fl es et lo H' v l := by
  rcases h with h | ⟨b, so, h1, h2, h3, h4⟩
  · exact .inl h
  · exact .inr ⟨b, so, h1, h2, h3, hx.get h4 (hn b so h2 h3 h4)⟩
theorem op_app_fl {F : Nat → Option IFn} {α : Type} {fl : α → List Value} {es et bytes lo lo0 : Nat} {x y : Opd} {e : Env} {H : Heap} {w : Value} {l : List α} {a : α} {K : Value → Heap → Prop} (hw : ∀ a, (fl a).length = es) (hv : GLi fl es et lo H w l) (hx : x.ev e = w) (hy : y.ev e = sli H.length 0 1) (hlo : lo0 ≤ lo) (hlo2 : lo ≤ H.length) (hl : l.length < 1048576) (hb : bytes ≤ 1048576)
    (k : ∀ H' w', AgX (blkOf w) H H' → GLi fl es et lo H' w' (l ++ [a]) → K w' H') : wpOp F lo0 (.app es et bytes false x y) e (H ++ [⟨fl a, es, et, true, true⟩]) K := by
  have hgl : getCells (H ++ [⟨fl a, es, et, true, true⟩]) H.length 0 (1 * es) = some (fl a) := by
    unfold getCells
    rw [get_new0]
    simp only [List.getElem?_cons_zero, Nat.one_mul, Nat.zero_add]
    rw [if_pos (by rw [hw]; omega), List.drop_zero, List.take_of_length_le (by rw [hw]; omega)]
  rcases hv with ⟨rfl, rfl⟩ | ⟨b, so, h1, rfl, h3, h4⟩
  · refine op_app_nil _ _ _ _ _ (a := ⟨H.length, 0, none⟩) (m := 1) hx hy (by omega) hgl (by omega) (by omega) ?_
    rw [List.append_assoc, List.length_append]
    exact k _ _ (AgX.app _ _ _) (.inr ⟨_, true, by rw [List.length_singleton]; omega, rfl, by simp, by rw [get_new]; simp⟩)
  · have hbl := (List.getElem?_eq_some_iff.1 h4).1
    have hbytes : (l.length + 1) * bytes ≤ 1048576 * 1048576 := Nat.mul_le_mul (by omega) hb
    refine op_app _ _ _ _ _ (b := ⟨b, 0, none⟩) (n := l.length) (c := l.length) (a := ⟨H.length, 0, none⟩) (m := 1) (c' := 1) (ys := fl a) (kb := ⟨l.flatMap fl, es, et, true, so⟩) hx hy (by omega) hgl (by show (H ++ [_])[b]? = _; rw [List.getElem?_append_left hbl]; exact h4) ⟨by show lo0 ≤ b; omega, rfl, rfl, rfl, rfl, flat_len hw l, by omega, by omega⟩ ?_
    simp only [Bool.false_eq_true, if_false, Bool.or_false, List.length_append, List.length_cons, List.length_nil, Nat.zero_add]
    rw [List.set_append_left _ _ hbl, List.append_assoc]
    have hag : AgX [b] H (H.set b ⟨l.flatMap fl, es, et, false, so && l.length == 0⟩ ++ ([⟨fl a, es, et, true, true⟩] ++ [⟨l.flatMap fl ++ fl a, es, et, true, so && l.length == 0⟩])) := (AgX.set H b _).trans (AgX.app [] _ _) (fun b h _ => h) (fun b h _ => by cases h)
    refine k _ _ hag (.inr ⟨H.length + 1, so && l.length == 0, by omega, by simp, by simp, ?_⟩)
    have : H.length + 1 = (H.set b ⟨l.flatMap fl, es, et, false, so && l.length == 0⟩).length + 1 := by rw [List.length_set]
    rw [this, get_new]
    simp
abbrev RunS := List Int × List (Int × Int) × List (Int × Int)
def NumV (lo : Nat) (H : Heap) (nv : Value) (nums : List Int) : Prop := (∃ a, nv = .slice a 0 0 ∧ nums = []) ∨ ∃ nb, lo ≤ nb ∧ nv = sli nb 0 nums.length ∧ nums ≠ [] ∧ H[nb]? = some ⟨ints nums, 1, 3, true, true⟩
theorem NumV.one {lo : Nat} {H : Heap} {v : Value} {l : List Int} (h : NumV lo H v l) : one v = true := by
  rcases h with ⟨_, rfl, _⟩ | ⟨b, _, rfl, _⟩ <;> rfl
structure RunI (Hb : Heap) (rb : Nat) (r : RunS) (M : Nat) (H : Heap) : Prop where
  ag : AgX [] Hb H
  lo : Hb.length ≤ rb
  ex : ∃ nv wv sv, H[rb]? = some ⟨[nv, wv, sv], 0, 0, false, true⟩ ∧ NumV Hb.length H nv r.1 ∧ GLi fp 2 109 Hb.length H wv r.2.1 ∧ GLi fp 2 81 Hb.length H sv r.2.2
  rg : ∀ x ∈ r.1, 0 ≤ x ∧ x ≤ 9
  pr : ∀ p, p ∈ r.2.1 ∨ p ∈ r.2.2 → RgI p.1 ∧ RgI p.2
  sm : r.2.1.length + r.2.2.length ≤ M
  ln : r.1.length ≤ 1000
theorem RunI.keep {Hb : Heap} {rb : Nat} {r : RunS} {M : Nat} {H H' : Heap} (h : RunI Hb rb r M H) (hx : AgX [] H H') : RunI Hb rb r M H' := by
  obtain ⟨nv, wv, sv, h1, h2, h3, h4⟩ := h.ex
  refine ⟨h.ag.tr hx, h.lo, ⟨nv, wv, sv, hx.get h1 (by simp), ?_, h3.keep hx (fun _ _ _ _ _ => by simp), h4.keep hx (fun _ _ _ _ _ => by simp)⟩, h.rg, h.pr, h.sm, h.ln⟩
  rcases h2 with h2 | ⟨nb, q1, q2, q3, q4⟩
  · exact .inl h2
  · exact .inr ⟨nb, q1, q2, q3, hx.get q4 (by simp)⟩
theorem ints_set {l : List Int} (i : Nat) (x : Int) : (ints l).set i (.int .i64 x) = ints (l.set i x) := List.map_set.symm
theorem wpc_genH {F : Nat → Option IFn} {lo : Nat} {c : ICode} {e : Env} {H : Heap} {K : X → Env → Heap → Prop} (h : ∀ Hb, Hb = H → wpc F lo c e Hb K) : wpc F lo c e H K := h _ rfl
/-- Storing one's lists into the box. -/
theorem RunI.put {Hb : Heap} {rb : Nat} {r r' : RunS} {M M' : Nat} {H H' : Heap} {nv wv sv : Value} (h : RunI Hb rb r M H) (hag : AgX [] Hb H') (hrb : rb < H'.length) (hn : NumV Hb.length H' nv r'.1) (hw : GLi fp 2 109 Hb.length H' wv r'.2.1) (hs : GLi fp 2 81 Hb.length H' sv r'.2.2)
    (hb : ∃ cs, H'[rb]? = some ⟨cs, 0, 0, false, true⟩) (rg : ∀ x ∈ r'.1, 0 ≤ x ∧ x ≤ 9) (pr : ∀ p, p ∈ r'.2.1 ∨ p ∈ r'.2.2 → RgI p.1 ∧ RgI p.2) (sm : r'.2.1.length + r'.2.2.length ≤ M') (ln : r'.1.length ≤ 1000) : RunI Hb rb r' M' (H'.set rb ⟨[nv, wv, sv], 0, 0, false, true⟩) := by
  obtain ⟨cs, hb⟩ := hb
  have hx : AgX [rb] H' (H'.set rb ⟨[nv, wv, sv], 0, 0, false, true⟩) := AgX.set _ _ _
  refine ⟨hag.trans hx (fun _ h _ => h) (fun b h1 h2 => by have := h.lo; simp only [List.mem_singleton] at h1; omega), h.lo, ⟨nv, wv, sv, List.getElem?_set_self hrb, ?_, hw.keep hx (fun b so _ _ q => ?_), hs.keep hx (fun b so _ _ q => ?_)⟩, rg, pr, sm, ln⟩
  · rcases hn with h2 | ⟨nb, q1, q2, q3, q4⟩
    · exact .inl h2
    · refine .inr ⟨nb, q1, q2, q3, hx.get q4 ?_⟩
      intro h; simp only [List.mem_singleton] at h; subst h; rw [hb] at q4; simp at q4
  · intro h; simp only [List.mem_singleton] at h; subst h; rw [hb] at q; simp at q
  · intro h; simp only [List.mem_singleton] at h; subst h; rw [hb] at q; simp at q
theorem set_ok {F : Nat → Option IFn} {f : Nat} (hf : F f = some c_set) {Hb H : Heap} {rb lo M : Nat} {r : RunS} (hR : RunI Hb rb r M H) (hlo : lo ≤ Hb.length) {v x : Int} (hv : 0 ≤ v ∧ v < r.1.length) (hx : 0 ≤ x ∧ x ≤ 9) (hM : M < 1000) : ∃ H', NC F lo f [ptr rb 0, .int .i64 v, .int .i64 x] H (.tuple #[]) H' ∧ RunI Hb rb (r.1.set v.toNat x, r.2.1 ++ [(v, x)], r.2.2) (M + 1) H' := by
  suffices h : ∃ w H', NC F lo f [ptr rb 0, .int .i64 v, .int .i64 x] H w H' ∧ (w = .tuple #[] ∧ RunI Hb rb (r.1.set v.toNat x, r.2.1 ++ [(v, x)], r.2.2) (M + 1) H') by
    obtain ⟨w, H', h1, rfl, h2⟩ := h
    exact ⟨H', h1, h2⟩
  refine NC.mk hf rfl ?_
  obtain ⟨nv, wv, sv, hbox, hn, hw, hs⟩ := hR.ex
  have hag := hR.ag
  have hrlo := hR.lo
  have hln := hR.ln
  rcases hn with ⟨_, _, h0⟩ | ⟨nb, hnb, rfl, hne, hnc⟩
  · rw [h0] at hv; simp at hv; omega
  have hnr : rb ≠ nb := fun h => by rw [h, hnc] at hbox; simp at hbox
  have hbl := (List.getElem?_eq_some_iff.1 hbox).1
  have hnl := (List.getElem?_eq_some_iff.1 hnc).1
  have hsm := hR.sm
  have hHl := hag.1
  have ow := hw.one
  have os := hs.one
  refine seq_reg ?_
  simp only [go_sem, binC, gc_of hbox, inBlk_some]
  refine ⟨⟨by omega, by omega⟩, ?_⟩
  simp only [go_sem, binC, hnc, Nat.mul_one, Nat.zero_add]
  refine ⟨⟨by omega, by simp [ints]; omega⟩, ?_⟩
  rw [ints_set]
  have hx1 : AgX [nb] H (H.set nb ⟨ints (r.1.set v.toNat x), 1, 3, true, true⟩) := AgX.set _ _ _
  refine wpc_genH fun H1 hH1 => ?_
  rw [← hH1] at hx1
  have hbox1 := hx1.get hbox (by simpa using hnr)
  have hnc1 : H1[nb]? = some ⟨ints (r.1.set v.toNat x), 1, 3, true, true⟩ := by rw [hH1]; exact List.getElem?_set_self hnl
  have hw1 : GLi fp 2 109 Hb.length H1 wv r.2.1 := hw.keep hx1 (fun b so _ _ q h => by simp only [List.mem_singleton] at h; subst h; rw [hnc] at q; simp at q)
  have hs1 : GLi fp 2 81 Hb.length H1 sv r.2.2 := hs.keep hx1 (fun b so _ _ q h => by simp only [List.mem_singleton] at h; subst h; rw [hnc] at q; simp at q)
  have hag1 : AgX [] Hb H1 := hag.trans hx1 (fun _ h _ => h) (fun b h1 h2 => by simp only [List.mem_singleton] at h1; omega)
  have hl1 : H1.length = H.length := by rw [hH1, List.length_set]
  clear hH1
  refine wpc_reg ?_
  simp only [go_sem, binC, gc_of hbox1, inBlk_some]
  refine op_app_fl (fl := fp) (a := (v, x)) (lo := Hb.length) (fun _ => rfl) hw1 (by simp only [go_sem, binC]) (by (simp only [go_sem, binC]) <;> rfl) hlo (by omega) (by omega) (by omega) fun H2 w2 hx2 hw2 => ?_
  have hblk : ∀ b, b ∈ blkOf wv → Hb.length ≤ b ∧ ∃ cs so, H1[b]? = some ⟨cs, 2, 109, true, so⟩ := by
    intro b hb
    rcases hw1 with ⟨rfl, _⟩ | ⟨b', so, q1, rfl, q3, q4⟩
    · cases hb
    · simp only [blkOf, sli, List.mem_singleton] at hb
      subst hb
      exact ⟨q1, _, _, q4⟩
  have hbox2 := hx2.get hbox1 (fun h => by obtain ⟨_, cs, so, q⟩ := hblk _ h; rw [hbox1] at q; simp at q)
  have hnc2 := hx2.get hnc1 (fun h => by obtain ⟨_, cs, so, q⟩ := hblk _ h; rw [hnc1] at q; simp at q)
  have hs2 : GLi fp 2 81 Hb.length H2 sv r.2.2 := hs1.keep hx2 (fun b so _ _ q h => by obtain ⟨_, cs, so, q2⟩ := hblk _ h; rw [q2] at q; simp at q)
  have hag2 : AgX [] Hb H2 := hag1.trans hx2 (fun _ h _ => h) (fun b h1 h2 => by have := hblk b h1; omega)
  obtain ⟨b2, so2, _, hw2e, _, _⟩ := (id hw2).resolve_left (by simp)
  subst hw2e
  have hl2 := hx2.1
  simp only [go_sem, binC, gc_of hbox2, hbox2, inBlk_some]
  refine ⟨by omega, ?_⟩
  refine ⟨Or.inl rfl, _, rfl, rfl, ?_⟩
  exact hR.put (r' := (r.1.set v.toNat x, r.2.1 ++ [(v, x)], r.2.2)) hag2 (by omega) (.inr ⟨nb, hnb, by rw [List.length_set], by simpa using hne, hnc2⟩) hw2 hs2 ⟨_, hbox2⟩ (fun y hy => by
    rcases List.mem_or_eq_of_mem_set hy with h | rfl
    · exact hR.rg y h
    · exact hx) (fun p hp => by
    simp only [List.mem_append, List.mem_singleton] at hp
    rcases hp with (h | rfl) | h
    · exact hR.pr p (.inl h)
    · exact ⟨by unfold RgI; omega, by unfold RgI; omega⟩
    · exact hR.pr p (.inr h)) (by show (r.2.1 ++ [(v, x)]).length + r.2.2.length ≤ M + 1; rw [List.length_append, List.length_singleton]; omega) (by show (r.1.set v.toNat x).length ≤ 1000; rw [List.length_set]; exact hln)
end Go.Proofs.YtmakdcbpohlacaaI
end
section
/- Steps are done. -/
set_option linter.unusedVariables false
set_option linter.unusedSimpArgs false
namespace Go.Proofs.YtmakdcbpohlacaaI
open Go Go.RowKit
def c_do : IFn := ⟨2, 86, [],
 .seq (.reg none [
    ⟨(some 9), none, .mov (.t 1)⟩,
    ⟨(some 10), none, .len (.t 9)⟩,
    ⟨(some 11), none, .mov (.c (.int .i64 0))⟩])
 (.block 0 (.loop (.seq (.reg none [
      ⟨(some 12), none, .bin .lss (.t 11) (.t 10)⟩])
   (.seq (.cond (.t 12) (.skip) (.exit 0))
   (.seq (.block 1 (.seq (.reg none [
        ⟨(some 13), none, .iad 8 (.t 9) (.t 11)⟩,
        ⟨(some 14), none, .load true 8 (.t 13)⟩,
        ⟨(some 5), none, .new [(.int .i64 0), (.int .i64 0), (.int .i64 0), (.int .i64 0), (.int .i64 0), (.int .i64 0), (.slice none 0 0), (.slice none 0 0)]⟩,
        ⟨none, none, .store 8 (.t 5) (.t 14)⟩])
     (.seq (.reg none [
        ⟨(some 15), none, .fad 0 (.t 5)⟩,
        ⟨(some 16), none, .load false 1 (.t 15)⟩])
     (.block 2 (.seq (.reg none [
         ⟨(some 38), none, .bin .eql (.t 16) (.c (.int .i64 1))⟩,
         ⟨(some 37), none, .mov (.t 38)⟩])
      (.cond (.t 37) (.seq (.reg none [
          ⟨(some 6), none, .mov (.c (.slice none 0 0))⟩])
       (.seq (.seq (.reg none [
           ⟨(some 39), none, .fad 2 (.t 5)⟩,
           ⟨(some 40), none, .load true 3 (.t 39)⟩,
           ⟨(some 41), none, .call .k (.f 89) [(.t 40)]⟩,
           ⟨(some 42), none, .len (.t 41)⟩,
           ⟨(some 43), none, .mov (.c (.int .i64 0))⟩])
        (.block 3 (.loop (.seq (.reg none [
             ⟨(some 44), none, .bin .lss (.t 43) (.t 42)⟩])
          (.seq (.cond (.t 44) (.skip) (.exit 3))
          (.seq (.block 4 (.seq (.reg none [
               ⟨(some 45), none, .iad 1 (.t 41) (.t 43)⟩,
               ⟨(some 46), none, .load false 1 (.t 45)⟩,
               ⟨(some 8), none, .mov (.t 46)⟩])
            (.reg none [
              ⟨(some 47), none, .mov (.t 6)⟩,
              ⟨(some 48), none, .mov (.t 0)⟩,
              ⟨(some 49), none, .nilck (.t 48)⟩,
              ⟨(some 50), none, .fad 0 (.t 49)⟩,
              ⟨(some 51), none, .load false 1 (.t 50)⟩,
              ⟨(some 52), none, .mov (.t 8)⟩,
              ⟨(some 53), none, .iad 1 (.t 51) (.t 52)⟩,
              ⟨(some 54), none, .load false 1 (.t 53)⟩,
              ⟨(some 55), none, .lit 1 3 1 [(.int .i64 0)] [(0, 1, (.t 54))]⟩,
              ⟨(some 56), none, .app 1 3 8 false (.t 47) (.t 55)⟩,
              ⟨(some 6), none, .mov (.t 56)⟩])))
          (.reg none [
            ⟨(some 57), none, .bin .add (.t 43) (.c (.int .i64 1))⟩,
            ⟨(some 43), none, .mov (.t 57)⟩])))))))
       (.reg (some 7) [
         ⟨(some 58), none, .mov (.t 0)⟩,
         ⟨(some 59), none, .fad 1 (.t 5)⟩,
         ⟨(some 60), none, .load false 1 (.t 59)⟩,
         ⟨(some 61), none, .fad 2 (.t 5)⟩,
         ⟨(some 62), none, .load true 3 (.t 61)⟩,
         ⟨(some 63), none, .mov (.t 6)⟩,
         ⟨(some 64), none, .call .q (.f 91) [(.t 62), (.t 63)]⟩,
         ⟨(some 65), none, .call .n (.f 90) [(.t 58), (.t 60), (.t 64)]⟩]))) (.seq (.reg none [
          ⟨(some 67), none, .bin .eql (.t 16) (.c (.int .i64 2))⟩,
          ⟨(some 66), none, .mov (.t 67)⟩])
       (.cond (.t 66) (.seq (.reg (some 6) [
           ⟨(some 68), none, .mov (.t 0)⟩,
           ⟨(some 69), none, .nilck (.t 68)⟩,
           ⟨(some 70), none, .fad 0 (.t 69)⟩,
           ⟨(some 71), none, .load false 1 (.t 70)⟩,
           ⟨(some 72), none, .fad 1 (.t 5)⟩,
           ⟨(some 73), none, .load false 1 (.t 72)⟩,
           ⟨(some 74), none, .iad 1 (.t 71) (.t 73)⟩,
           ⟨(some 75), none, .load false 1 (.t 74)⟩,
           ⟨(some 76), none, .bin .neq (.t 75) (.c (.int .i64 0))⟩])
        (.cond (.t 76) (.reg none [
           ⟨(some 77), none, .mov (.t 0)⟩,
           ⟨(some 78), none, .fad 6 (.t 5)⟩,
           ⟨(some 79), none, .load false 1 (.t 78)⟩,
           ⟨(some 80), none, .call .n (.f 53) [(.t 77), (.t 79)]⟩]) (.reg none [
           ⟨(some 81), none, .mov (.t 0)⟩,
           ⟨(some 82), none, .fad 7 (.t 5)⟩,
           ⟨(some 83), none, .load false 1 (.t 82)⟩,
           ⟨(some 84), none, .call .n (.f 53) [(.t 81), (.t 83)]⟩]))) (.regW 17 [
          ⟨(some 17), none, .mov (.t 0)⟩,
          ⟨(some 18), none, .mov (.t 0)⟩,
          ⟨(some 19), none, .nilck (.t 18)⟩,
          ⟨(some 20), none, .fad 2 (.t 19)⟩,
          ⟨(some 21), none, .load false 1 (.t 20)⟩,
          ⟨(some 22), none, .fad 5 (.t 5)⟩,
          ⟨(some 23), none, .load false 1 (.t 22)⟩,
          ⟨(some 24), none, .mov (.t 0)⟩,
          ⟨(some 25), none, .nilck (.t 24)⟩,
          ⟨(some 26), none, .fad 0 (.t 25)⟩,
          ⟨(some 27), none, .load false 1 (.t 26)⟩,
          ⟨(some 28), none, .fad 1 (.t 5)⟩,
          ⟨(some 29), none, .load false 1 (.t 28)⟩,
          ⟨(some 30), none, .iad 1 (.t 27) (.t 29)⟩,
          ⟨(some 31), none, .load false 1 (.t 30)⟩,
          ⟨(some 32), none, .build [(.int .i64 0), (.int .i64 0)] [(0, 1, (.t 23)), (1, 1, (.t 31))]⟩,
          ⟨(some 33), none, .lit 2 81 1 [(.int .i64 0), (.int .i64 0)] [(0, 2, (.t 32))]⟩,
          ⟨(some 34), none, .app 2 81 16 false (.t 21) (.t 33)⟩,
          ⟨(some 35), none, .nilck (.t 17)⟩,
          ⟨(some 36), none, .fad 2 (.t 35)⟩,
          ⟨none, none, .store 1 (.t 36) (.t 34)⟩])))))))))
   (.reg none [
     ⟨(some 85), none, .bin .add (.t 11) (.c (.int .i64 1))⟩,
     ⟨(some 11), none, .mov (.t 85)⟩]))))))⟩
def valN (nums : List Int) (v : Int × Int × Int) : Int := if v.1 = 1 then v.2.1 else if v.1 = 2 then nums.getD v.2.1.toNat 0 else if v.1 = 3 then (nums.getD v.2.1.toNat 0 + nums.getD v.2.2.toNat 0) % 10 else if nums.getD v.2.1.toNat 0 = nums.getD v.2.2.toNat 0 then 1 else 0
def runT : (n : Nat) → TStep n → RunS → RunS
  | 0, s, _ => s.elim
  | n + 1, (kd, vr, v, ho, th, el), r => if kd = 1 then (r.1.set vr.toNat (valN r.1 v), r.2.1 ++ [(vr, valN r.1 v)], r.2.2) else
      if kd = 2 then (if r.1.getD vr.toNat 0 = 0 then el.foldl (fun r s => runT n s r) r else th.foldl (fun r s => runT n s r) r) else
      (r.1, r.2.1, r.2.2 ++ [(ho, r.1.getD vr.toNat 0)])
def runL (n : Nat) (l : List (TStep n)) (r : RunS) : RunS := l.foldl (fun r s => runT n s r) r
theorem runT_set {n : Nat} {vr : Int} {v : Int × Int × Int} {ho : Int} {th el : List (TStep n)} {r : RunS} : runT (n + 1) (1, vr, v, ho, th, el) r = (r.1.set vr.toNat (valN r.1 v), r.2.1 ++ [(vr, valN r.1 v)], r.2.2) := by rw [runT, if_pos rfl]
theorem runT_if {n : Nat} {vr : Int} {v : Int × Int × Int} {ho : Int} {th el : List (TStep n)} {r : RunS} : runT (n + 1) (2, vr, v, ho, th, el) r = if r.1.getD vr.toNat 0 = 0 then runL n el r else runL n th r := by rw [runT, if_neg (by decide), if_pos rfl]; rfl
theorem runT_tell {n : Nat} {kd vr : Int} {v : Int × Int × Int} {ho : Int} {th el : List (TStep n)} {r : RunS} (h1 : kd ≠ 1) (h2 : kd ≠ 2) : runT (n + 1) (kd, vr, v, ho, th, el) r = (r.1, r.2.1, r.2.2 ++ [(ho, r.1.getD vr.toNat 0)]) := by rw [runT, if_neg h1, if_neg h2]
theorem ofV_valN {k : Nat} {nums : List Int} {v : Int × Int × Int} (hv : valB k v = true) : ofV v ((varsL v).map fun i => nums.getD i.toNat 0) = valN nums v := by
  obtain ⟨a, b, c⟩ := v
  unfold valB at hv
  simp only [ofV, varsL, valN]
  split at hv
  · simp_all
  · split at hv
    · simp_all
    · split at hv
      · rename_i h1 h2 h3
        simp only at h1 h2 h3
        rcases h3 with h3 | h3 <;> subst h3 <;> simp
      · cases hv
theorem inB_iff' {a l h : Int} : inB a l h = true ↔ l ≤ a ∧ a ≤ h := by simp [inB]
theorem valN_rg {nums : List Int} {v : Int × Int × Int} (hv : valB nums.length v = true) (h : ∀ x ∈ nums, 0 ≤ x ∧ x ≤ 9) : 0 ≤ valN nums v ∧ valN nums v ≤ 9 := by
  obtain ⟨a, b, c⟩ := v
  have hg : ∀ i, 0 ≤ nums.getD i 0 ∧ nums.getD i 0 ≤ 9 := fun i => by
    rw [List.getD_eq_getElem?_getD]
    by_cases hi : i < nums.length
    · rw [List.getElem?_eq_getElem hi]; exact h _ (List.getElem_mem hi)
    · rw [List.getElem?_eq_none (by omega)]; simp
  unfold valB at hv
  simp only [valN]
  have h1 := hg b.toNat
  have h2 := hg c.toNat
  split at hv
  · rename_i q; simp only at q; rw [if_pos q]
    simp only [Bool.and_eq_true, inB_iff'] at hv
    exact hv.1
  · rename_i q; simp only at q; rw [if_neg q]
    split
    · exact h1
    · split
      · omega
      · split <;> omega
theorem varsL_in {k : Nat} {v : Int × Int × Int} (hv : valB k v = true) : ∀ i ∈ varsL v, 0 ≤ i ∧ i < k := by
  obtain ⟨a, b, c⟩ := v
  unfold valB at hv
  simp only [varsL]
  intro i hi
  split at hv
  · rename_i q; simp only at q; subst q; simp at hi
  · split at hv
    · rename_i q; simp only at q; subst q
      simp only [if_true, List.mem_singleton, Bool.and_eq_true, varB, inB_iff'] at hi hv
      subst hi; omega
    · split at hv
      · rename_i q1 q2 q3
        simp only at q1 q2 q3
        rw [if_neg q2, if_pos q3] at hi
        simp only [Bool.and_eq_true, varB, inB_iff'] at hv
        simp only [List.mem_cons, List.not_mem_nil, or_false] at hi
        rcases hi with rfl | rfl <;> omega
      · cases hv
theorem varsL_len {k : Nat} {v : Int × Int × Int} (hv : valB k v = true) : (v.1 = 2 → (varsL v).length = 1) ∧ (v.1 ≠ 1 → v.1 ≠ 2 → (varsL v).length = 2) := by
  obtain ⟨a, b, c⟩ := v
  unfold valB at hv
  simp only [varsL]
  refine ⟨fun h => by rw [if_pos h]; rfl, fun h1 h2 => ?_⟩
  rw [if_neg h1, if_neg h2] at hv
  rw [if_neg h2]
  split at hv
  · rename_i q; rw [if_pos q]; rfl
  · cases hv
theorem stepB_f {k n : Nat} {d kd vr : Int} {v : Int × Int × Int} {ho : Int} {th el : List (TStep n)} (h : stepB k (n + 1) d (kd, vr, v, ho, th, el) = true) : (0 ≤ vr ∧ vr < k) ∧ (kd = 1 → valB k v = true) ∧ (kd = 2 → th.all (stepB k n (d - 1)) = true ∧ el.all (stepB k n (d - 1)) = true) ∧ (kd ≠ 1 → kd ≠ 2 → kd = 3 ∧ 0 ≤ ho ∧ ho ≤ 2) ∧ (kd ≠ 2 → th = [] ∧ el = []) := by
  simp only [stepB, Bool.and_eq_true, decide_eq_true_eq, varB, inB_iff'] at h
  obtain ⟨⟨_, h1⟩, h2⟩ := h
  have hnil : (th.length : Int) + el.length = 0 → th = [] ∧ el = [] := fun h => ⟨List.eq_nil_of_length_eq_zero (by omega), List.eq_nil_of_length_eq_zero (by omega)⟩
  refine ⟨by omega, fun hk => ?_, fun hk => ?_, fun hk1 hk2 => ?_, fun hk => ?_⟩
  · subst hk; simp at h2; exact h2.1.1
  · subst hk; simp at h2; exact ⟨by simpa using h2.1.2, by simpa using h2.2⟩
  · rw [if_neg hk1] at h2
    split at h2
    · rename_i q; simp only [Bool.and_eq_true, inB_iff', decide_eq_true_eq] at h2; exact ⟨q, h2.1.2⟩
    · cases h2
  · split at h2
    · simp only [Bool.and_eq_true, decide_eq_true_eq] at h2; exact hnil h2.2
    · split at h2
      · simp only [Bool.and_eq_true, decide_eq_true_eq] at h2; exact hnil h2.2
      · cases h2
theorem runL_len0 : ∀ (n : Nat), (∀ (s : TStep n) (r : RunS) (k : Nat) (d : Int), stepB k n d s = true → (runT n s r).1.length = r.1.length) → ∀ (l : List (TStep n)) (r : RunS) (k : Nat) (d : Int), l.all (stepB k n d) = true → (runL n l r).1.length = r.1.length := by
  intro n h l
  induction l with
  | nil => intro r k d _; rfl
  | cons s l ih =>
    intro r k d hl
    rw [List.all_cons, Bool.and_eq_true] at hl
    show (runL n l (runT n s r)).1.length = _
    rw [ih _ k d hl.2, h s r k d hl.1]
theorem runT_len : ∀ (n : Nat) (s : TStep n) (r : RunS) (k : Nat) (d : Int), stepB k n d s = true → (runT n s r).1.length = r.1.length
  | 0, s, _, _, _, _ => s.elim
  | n + 1, (kd, vr, v, ho, th, el), r, k, d, h => by
    obtain ⟨_, _, h2, _⟩ := stepB_f h
    by_cases q1 : kd = 1
    · subst q1; rw [runT_set]; exact List.length_set
    by_cases q2 : kd = 2
    · obtain ⟨h3, h4⟩ := h2 q2
      subst q2; rw [runT_if]
      split
      · exact runL_len0 n (runT_len n) el r k (d - 1) h4
      · exact runL_len0 n (runT_len n) th r k (d - 1) h3
    · rw [runT_tell q1 q2]
theorem runL_len {n : Nat} {l : List (TStep n)} {r : RunS} {k : Nat} {d : Int} (h : l.all (stepB k n d) = true) : (runL n l r).1.length = r.1.length := runL_len0 n (runT_len n) l r k d h
def DoOk (F : Nat → Option IFn) (f n : Nat) : Prop := ∀ (Hb H : Heap) (rb lo M : Nat) (r : RunS) (v : Value) (l : List (TStep n)) (d : Int), lo ≤ Hb.length → RunI Hb rb r M H → SlR (Co.step n) (vw 0 Hb) v l → l.all (stepB r.1.length n d) = true → M + (allL n l).length ≤ 1000 → ∃ H', NC F lo f [ptr rb 0, v] H (.tuple #[]) H' ∧ RunI Hb rb (runL n l r) (M + (allL n l).length) H'
theorem RunI.mono {Hb : Heap} {rb : Nat} {r : RunS} {M M' : Nat} {H : Heap} (h : RunI Hb rb r M H) (hM : M ≤ M') : RunI Hb rb r M' H := ⟨h.ag, h.lo, h.ex, h.rg, h.pr, Nat.le_trans h.sm hM, h.ln⟩
theorem gc_ints {H : Heap} {b es et : Nat} {ap so : Bool} {l : List Int} (h : H[b]? = some ⟨ints l, es, et, ap, so⟩) {i : Nat} (hi : i < l.length) : getCells H b i 1 = some [.int .i64 (l.getD i 0)] := by
  unfold getCells
  rw [h]
  simp only [ints, List.length_map]
  rw [if_pos (by omega)]
  have h1 : ((l.map (fun n => Value.int .i64 n)).drop i).head? = some (.int .i64 (l.getD i 0)) := by
    rw [List.head?_drop, List.getElem?_map, List.getElem?_eq_getElem hi, List.getD_eq_getElem?_getD, List.getElem?_eq_getElem hi]
    rfl
  cases hd : (l.map (fun n => Value.int .i64 n)).drop i with
  | nil => rw [hd] at h1; cases h1
  | cons c r => rw [hd] at h1; simp only [List.head?_cons, Option.some.injEq] at h1; subst h1; rfl
theorem GLi.slI {es et lo : Nat} {H : Heap} {v : Value} {l : List Int} (h : GLi fi es et lo H v l) (hr : ∀ x ∈ l, RgI x) (hl : l.length ≤ 1000) : SlR Co.int (vw 0 H) v l := by
  rcases h with ⟨rfl, rfl⟩ | ⟨b, so, _, rfl, _, h⟩
  · exact ⟨by simp, none, rfl, .inl rfl⟩
  · rw [fi_ints] at h
    exact ints_sl0 h hr (by omega)
theorem getD_rg {l : List Int} (h : ∀ x ∈ l, 0 ≤ x ∧ x ≤ 9) (i : Nat) : 0 ≤ l.getD i 0 ∧ l.getD i 0 ≤ 9 := by
  rw [List.getD_eq_getElem?_getD]
  by_cases hi : i < l.length
  · rw [List.getElem?_eq_getElem hi]; exact h _ (List.getElem_mem hi)
  · rw [List.getElem?_eq_none (by omega)]; simp
set_option maxRecDepth 20000 in
theorem do_ok {F : Nat → Option IFn} {f n : Nat} (hf : F f = some c_do) (hst : F 90 = some c_set) (hva : F 89 = some c_vars) (hof : F 91 = some c_of) (ih : ∀ m, n = m + 1 → DoOk F 53 m) : DoOk F f n := by
  intro Hb H rb lo M r v l d hlo hR hv hall hM
  suffices h : ∃ w H', NC F lo f [ptr rb 0, v] H w H' ∧ (w = .tuple #[] ∧ RunI Hb rb (runL n l r) (M + (allL n l).length) H') by
    obtain ⟨w, H', h1, rfl, h2⟩ := h
    exact ⟨H', h1, h2⟩
  have hv0 := hv
  obtain ⟨h0, av, rfl, _⟩ := hv
  refine NC.mk hf rfl ?_
  refine seq_reg ?_
  simp only [go_sem, binC]
  refine wpc_block (wpc_loop ?_)
  suffices h : ∀ (k i : Nat) (e : Env) (Hc : Heap) (rc : RunS) (Mc : Nat), i + k = l.length → RunI Hb rb rc Mc Hc → rc.1.length = r.1.length → runL n (l.drop i) rc = runL n l r → Mc + (allL n (l.drop i)).length = M + (allL n l).length →
      e 0 = ptr rb 0 → e 9 = .slice av l.length l.length → e 10 = .int .i64 l.length → e 11 = .int .i64 i → W F lo _ e Hc _ from
    h l.length 0 _ H r M (by omega) hR rfl rfl rfl (by simp only [go_sem, binC]) (by simp only [go_sem, binC]) (by simp only [go_sem, binC]) (by (simp only [go_sem, binC]) <;> rfl)
  intro k
  induction k with
  | zero =>
    intro i e Hc rc Mc hi hRc hlen hrun hcnt e0 e9 e10 e11
    refine lp_step ?_
    refine seq_reg ?_
    simp only [go_sem, binC, e10, e11]
    refine seq_cond (t := false) (by simp only [go_sem, binC]; rw [decide_eq_false (by omega)]) ?_
    simp only [go_sem, binC]
    refine seq_exit ?_
    simp only [go_sem, binC, thenX_e, out_e, thenX_n]
    have hd : l.drop i = [] := List.drop_of_length_le (by omega)
    rw [hd] at hrun hcnt
    have hrun' : rc = runL n l r := hrun
    have hcnt' : Mc = M + (allL n l).length := by simpa [allL] using hcnt
    exact ⟨Or.inl rfl, _, rfl, rfl, hrun' ▸ hcnt' ▸ hRc⟩
  | succ k ihk =>
    intro i e Hc rc Mc hi hRc hlen hrun hcnt e0 e9 e10 e11
    have hil : i < l.length := by omega
    cases n with
    | zero => exact (l[i]).elim
    | succ n =>
    obtain ⟨vb, vo, kd, vr, va, vbb, vc, ho, tv, ev, tl, el, hav, hs, rg, otv, oev, hgc, htl, hel⟩ := step_at hv0 hil
    simp only [Value.slice.injEq, and_true] at hav
    subst hav
    have hst1 : stepB r.1.length (n + 1) d (kd, vr, (va, vbb, vc), ho, tl, el) = true := by rw [← hs]; exact List.all_eq_true.1 hall _ (List.getElem_mem hil)
    obtain ⟨hvr, hk1, hk2, hk3, hkn⟩ := stepB_f hst1
    have hagc := hRc.ag
    have hHl := hagc.1
    have hrl := hRc.lo
    have hg8 := hgc Hc (agx_sub hagc)
    rw [List.drop_eq_getElem_cons hil] at hrun hcnt
    have hcnt2 : Mc + (1 + ((allL n tl).length + (allL n el).length) + (allL (n + 1) (l.drop (i + 1))).length) = M + (allL (n + 1) l).length := by
      have hc2 : (allL (n + 1) (l[i] :: l.drop (i + 1))).length = (allT (n + 1) l[i]).length + (allL (n + 1) (l.drop (i + 1))).length := by unfold allL; rw [List.map_cons, List.flatten_cons, List.length_append]
      rw [hc2, hs, allT_succ, List.length_cons, List.length_append] at hcnt
      omega
    have hw1 : IntKind.i64.wrap ((i : Int) + 1) = ((i + 1 : Nat) : Int) := by rw [wrap_id (by omega) (by omega)]; omega
    refine lp_step ?_
    refine seq_reg ?_
    simp only [go_sem, binC, e10, e11]
    refine seq_cond (t := true) (by simp only [go_sem, binC]; rw [decide_eq_true (by omega)]) ?_
    simp only [go_sem, binC]
    refine seq_skip (seq_block (seq_reg ?_))
    simp only [go_sem, binC, e9, e11]
    refine ⟨⟨by omega, by omega⟩, ?_⟩
    simp only [go_sem, binC, Int.toNat_natCast, hg8, otv, oev]
    refine ⟨by omega, ?_⟩
    refine wpc_gen fun H1 hH1 => ?_
    have hx1 : AgX [] Hc H1 := hH1 ▸ AgX.app [] _ _
    have hbx : H1[Hc.length]? = some ⟨[.int .i64 kd, .int .i64 vr, .int .i64 va, .int .i64 vbb, .int .i64 vc, .int .i64 ho, tv, ev], 0, 0, false, true⟩ := hH1 ▸ get_new0 _ _
    have hl1 : H1.length = Hc.length + 1 := by rw [hH1, List.length_append]; rfl
    clear hH1
    have hR1 := hRc.keep hx1
    refine seq_reg ?_
    simp only [go_sem, binC, gc_of hbx, inBlk_some]
    refine wpc_genK fun KK hKK => ?_
    have hnext : ∀ (e' : Env) (H' : Heap) (r' : RunS) (M' : Nat), RunI Hb rb r' M' H' → r'.1.length = r.1.length → r' = runT (n + 1) l[i] rc → M' = Mc + (1 + ((allL n tl).length + (allL n el).length)) → e' 0 = ptr rb 0 → e' 9 = .slice (some ⟨vb, vo, none⟩) l.length l.length → e' 10 = .int .i64 l.length → e' 11 = .int .i64 i → KK .n e' H' := by
      intro e' H' r' M' hR' hlen' hr' hM' e0' e9' e10' e11'
      rw [hKK]
      simp only [go_sem, binC, out_n, thenX_n]
      refine wpc_reg ?_
      simp only [go_sem, binC, e11', hw1]
      simp only [go_sem, binC, thenX_n]
      refine ihk (i + 1) _ H' r' M' (by omega) hR' hlen' ?_ (by omega) (by simp only [go_sem, binC, e0']) (by simp only [go_sem, binC, e9']) (by simp only [go_sem, binC, e10']) (by simp only [go_sem, binC])
      rw [hr', ← hrun]; rfl
    clear hKK
    refine wpc_block (seq_reg ?_)
    simp only [go_sem, binC]
    by_cases h1 : kd = 1
    · subst h1
      have hvb := hk1 rfl
      rw [← hlen] at hvb
      obtain ⟨rfl, rfl⟩ := hkn (by decide)
      rw [hs, runT_set] at hnext
      refine wpc_cond (t := true) rfl ?_
      simp only [go_sem, binC]
      refine seq_reg ?_
      simp only [go_sem, binC]
      refine seq_assoc (seq_reg ?_)
      simp only [go_sem, binC, gc_of hbx, inBlk_some]
      obtain ⟨w, L, k1, s1⟩ := vars_ok hva H1 va vbb vc rg.2.2.2.1 rg.2.2.2.2.1
      have hvl := varsL_len hvb
      have hvi := varsL_in hvb
      generalize hvs : varsL (va, vbb, vc) = vs at s1 hvl hvi
      have hvl3 : vs.length ≤ 2 := by rw [← hvs]; unfold varsL; split; simp; split <;> simp
      obtain ⟨_, wa, rfl, _⟩ := id s1
      refine op_callK (by simp only [go_sem, binC]; exact k1) ?_
      simp only [go_sem, binC]
      refine wpc_gen fun H2 hH2 => ?_
      have hx2 : AgX [] H1 H2 := hH2 ▸ AgX.app [] _ _
      rw [← hH2] at s1
      clear hH2
      have hR2 := hR1.keep hx2
      have hbx2 := hx2.get hbx (by simp)
      have hl2 := hx2.1
      generalize hxs : vs.map (fun i => rc.1.getD i.toNat 0) = xs
      have hxl : xs.length = vs.length := by rw [← hxs, List.length_map]
      have hxr : ∀ x ∈ xs, 0 ≤ x ∧ x ≤ 9 := by
        intro x hx
        rw [← hxs, List.mem_map] at hx
        obtain ⟨y, _, rfl⟩ := hx
        exact getD_rg hRc.rg _
      refine seq_block (wpc_loop ?_)
      suffices h : ∀ (k2 j : Nat) (e : Env) (H3 : Heap) (v6 : Value), j + k2 = vs.length → AgX [] H2 H3 → GLi fi 1 3 H2.length H3 v6 (xs.take j) → e 0 = ptr rb 0 → e 5 = ptr Hc.length 0 → e 6 = v6 → e 9 = .slice (some ⟨vb, vo, none⟩) l.length l.length → e 10 = .int .i64 l.length → e 11 = .int .i64 i → e 41 = .slice wa vs.length vs.length → e 42 = .int .i64 vs.length → e 43 = .int .i64 j → W F lo _ e H3 _ from
        h vs.length 0 _ H2 _ (by omega) (AgX.refl _ _) (.inl ⟨rfl, rfl⟩) (by simp only [go_sem, binC, e0]) (by simp only [go_sem, binC]) (by simp only [go_sem, binC]) (by simp only [go_sem, binC, e9]) (by simp only [go_sem, binC, e10]) (by simp only [go_sem, binC, e11]) (by simp only [go_sem, binC]) (by simp only [go_sem, binC]) (by (simp only [go_sem, binC]) <;> rfl)
      intro k2
      induction k2 with
      | zero =>
        intro j e H3 v6 hj hx3 hg e0 e5 e6 e9 e10 e11 e41 e42 e43
        refine lp_step ?_
        refine seq_reg ?_
        simp only [go_sem, binC, e42, e43]
        refine seq_cond (t := false) (by simp only [go_sem, binC]; rw [decide_eq_false (by omega)]) ?_
        simp only [go_sem, binC]
        refine seq_exit ?_
        simp only [go_sem, binC, thenX_e, out_e, thenX_n]
        rw [List.take_of_length_le (by omega)] at hg
        have hR3 := hR2.keep hx3
        have hbx3 := hx3.get hbx2 (by simp)
        have sx := hg.slI (fun x hx => by have := hxr x hx; unfold RgI; omega) (by omega)
        refine wpc_regD ?_
        simp only [go_sem, binC, e0, e5, e6, gc_of hbx3, inBlk_some]
        refine op_callQ (by simp only [go_sem, binC]; exact of_ok hof H3 va vbb vc v6 xs sx hxr (fun h => by rw [hxl]; exact hvl.1 h) (fun h1 h2 => by rw [hxl]; exact hvl.2 h1 h2)) ?_
        rw [← hxs, ← hvs, ofV_valN hvb]
        simp only [go_sem, binC]
        obtain ⟨H4, k4, hR4⟩ := set_ok hst hR3 hlo (v := vr) (x := valN rc.1 (va, vbb, vc)) (by omega) (valN_rg hvb hRc.rg) (by omega)
        refine op_callN (by simp only [go_sem, binC]; exact k4) ?_
        simp only [go_sem, binC, out_n]
        exact hnext _ H4 _ (Mc + 1) hR4 (by show (rc.1.set vr.toNat _).length = _; rw [List.length_set]; exact hlen) rfl (by simp [allL]) (by simp only [go_sem, binC, e0]) (by simp only [go_sem, binC, e9]) (by simp only [go_sem, binC, e10]) (by simp only [go_sem, binC, e11])
      | succ k2 ihk2 =>
        intro j e H3 v6 hj hx3 hg e0 e5 e6 e9 e10 e11 e41 e42 e43
        have hjl : j < vs.length := by omega
        refine lp_step ?_
        refine seq_reg ?_
        simp only [go_sem, binC, e42, e43]
        refine seq_cond (t := true) (by simp only [go_sem, binC]; rw [decide_eq_true (by omega)]) ?_
        simp only [go_sem, binC]
        have s3 := s1.mono (agx_sub hx3)
        obtain ⟨wb, wo, hwe, hgw⟩ := gcI0 s3 hjl
        simp only [Value.slice.injEq, and_true] at hwe
        subst hwe
        have hvj := hvi vs[j] (List.getElem_mem hjl)
        have hw2 : IntKind.i64.wrap ((j : Int) + 1) = ((j + 1 : Nat) : Int) := by rw [wrap_id (by omega) (by omega)]; omega
        have hR3 := hR2.keep hx3
        obtain ⟨nv, wv, sv, hbox, hn, _, _⟩ := hR3.ex
        rcases hn with ⟨_, _, hn0⟩ | ⟨nb, hnb, rfl, hne, hnc⟩
        · rw [hn0] at hvj; simp at hvj; omega
        refine seq_skip (seq_block (seq_reg ?_))
        simp only [go_sem, binC, e41, e43]
        refine ⟨⟨by omega, by omega⟩, ?_⟩
        simp only [go_sem, binC, Int.toNat_natCast, Nat.mul_one, hgw]
        refine wpc_reg ?_
        simp only [go_sem, binC, e0, e6, gc_of hbox, inBlk_some]
        refine ⟨⟨by omega, by omega⟩, ?_⟩
        have hgn := gc_ints hnc (i := vs[j].toNat) (by omega)
        simp only [go_sem, binC, Nat.mul_one, Nat.zero_add, hgn]
        refine op_app_fl (fl := fi) (a := rc.1.getD vs[j].toNat 0) (lo := H2.length) (fun _ => rfl) hg (by simp only [go_sem, binC, e6]) (by (simp only [go_sem, binC]) <;> rfl) (by omega) (by have := hx3.1; omega) (by rw [List.length_take]; omega) (by omega) fun H4 w4 hx4 hg4 => ?_
        simp only [go_sem, binC, out_n, thenX_n]
        refine wpc_reg ?_
        simp only [go_sem, binC, e43, hw2]
        simp only [go_sem, binC, thenX_n]
        have hblk : ∀ b, b ∈ blkOf v6 → H2.length ≤ b := by
          intro b hb
          rcases hg with ⟨rfl, _⟩ | ⟨b', so, q1, rfl, q3, q4⟩
          · cases hb
          · simp only [blkOf, sli, List.mem_singleton] at hb
            subst hb
            exact q1
        have htk : xs.take j ++ [rc.1.getD vs[j].toNat 0] = xs.take (j + 1) := by
          rw [List.take_add_one, List.getElem?_eq_getElem (by omega)]
          simp [← hxs]
        rw [htk] at hg4
        exact ihk2 (j + 1) _ H4 _ (by omega) (hx3.trans hx4 (fun _ h _ => h) (fun b h1 h2 => by have := hblk b h1; omega)) hg4 (by simp only [go_sem, binC, e0]) (by simp only [go_sem, binC, e5]) (by simp only [go_sem, binC]) (by simp only [go_sem, binC, e9]) (by simp only [go_sem, binC, e10]) (by simp only [go_sem, binC, e11]) (by simp only [go_sem, binC, e41]) (by simp only [go_sem, binC, e42]) (by simp only [go_sem, binC])
    simp only [go_sem, binC, beq_f h1]
    refine wpc_cond (t := false) rfl ?_
    simp only [go_sem, binC]
    refine seq_reg ?_
    simp only [go_sem, binC]
    by_cases h2 : kd = 2
    · subst h2
      obtain ⟨ht1, he1⟩ := hk2 rfl
      rw [← hlen] at ht1 he1
      rw [hs, runT_if] at hnext
      obtain ⟨nv, wv, sv, hbox, hn, _, _⟩ := hR1.ex
      rcases hn with ⟨_, _, hn0⟩ | ⟨nb, hnb, rfl, hne, hnc⟩
      · rw [← hlen, hn0] at hvr; simp at hvr; omega
      have hgn := gc_ints hnc (i := vr.toNat) (by omega)
      refine wpc_cond (t := true) rfl ?_
      simp only [go_sem, binC]
      refine seq_regD ?_
      simp only [go_sem, binC, e0, gc_of hbx, gc_of hbox, inBlk_some]
      refine ⟨⟨by omega, by omega⟩, ?_⟩
      simp only [go_sem, binC, Nat.mul_one, Nat.zero_add, hgn]
      by_cases hz : rc.1.getD vr.toNat 0 = 0
      · have hz2 : (rc.1.getD vr.toNat 0 != 0) = false := by rw [hz]; rfl
        simp only [go_sem, binC, hz2]
        refine wpc_cond (t := false) rfl ?_
        simp only [go_sem, binC]
        refine wpc_reg ?_
        simp only [go_sem, binC, e0, gc_of hbx, inBlk_some]
        obtain ⟨H4, k4, hR4⟩ := ih n rfl Hb H1 rb lo Mc rc ev el (d - 1) hlo hR1 hel he1 (by omega)
        refine op_callN (by simp only [go_sem, binC, e0]; exact k4) ?_
        simp only [go_sem, binC, out_n]
        rw [if_pos hz] at hnext
        exact hnext _ H4 _ _ (hR4.mono (by omega)) (by rw [runL_len he1]; exact hlen) rfl rfl (by simp only [go_sem, binC, e0]) (by simp only [go_sem, binC, e9]) (by simp only [go_sem, binC, e10]) (by simp only [go_sem, binC, e11])
      · have hz2 : (rc.1.getD vr.toNat 0 != 0) = true := by simpa using hz
        simp only [go_sem, binC, hz2]
        refine wpc_cond (t := true) rfl ?_
        simp only [go_sem, binC]
        refine wpc_reg ?_
        simp only [go_sem, binC, e0, gc_of hbx, inBlk_some]
        obtain ⟨H4, k4, hR4⟩ := ih n rfl Hb H1 rb lo Mc rc tv tl (d - 1) hlo hR1 htl ht1 (by omega)
        refine op_callN (by simp only [go_sem, binC, e0]; exact k4) ?_
        simp only [go_sem, binC, out_n]
        rw [if_neg hz] at hnext
        exact hnext _ H4 _ _ (hR4.mono (by omega)) (by rw [runL_len ht1]; exact hlen) rfl rfl (by simp only [go_sem, binC, e0]) (by simp only [go_sem, binC, e9]) (by simp only [go_sem, binC, e10]) (by simp only [go_sem, binC, e11])
    simp only [go_sem, binC, beq_f h2]
    refine wpc_cond (t := false) rfl ?_
    simp only [go_sem, binC]
    obtain ⟨rfl, rfl⟩ := hkn h2
    rw [hs, runT_tell h1 h2] at hnext
    obtain ⟨nv, wv, sv, hbox, hn, hw, hsv⟩ := hR1.ex
    rcases hn with ⟨_, _, hn0⟩ | ⟨nb, hnb, rfl, hne, hnc⟩
    · rw [← hlen, hn0] at hvr; simp at hvr; omega
    have hgn := gc_ints hnc (i := vr.toNat) (by omega)
    have hsm := hRc.sm
    have hrbl := (List.getElem?_eq_some_iff.1 hbox).1
    refine wpc_regW ?_
    simp only [go_sem, binC, e0, gc_of hbx, gc_of hbox, inBlk_some]
    refine ⟨⟨by omega, by omega⟩, ?_⟩
    simp only [go_sem, binC, Nat.mul_one, Nat.zero_add, hgn]
    refine op_app_fl (fl := fp) (a := (ho, rc.1.getD vr.toNat 0)) (lo := Hb.length) (fun _ => rfl) hsv (by simp only [go_sem, binC]) (by (simp only [go_sem, binC]) <;> rfl) hlo (by omega) (by omega) (by omega) fun H2 w2 hx2 hw2 => ?_
    have hblk : ∀ b, b ∈ blkOf sv → Hb.length ≤ b ∧ ∃ cs so, H1[b]? = some ⟨cs, 2, 81, true, so⟩ := by
      intro b hb
      rcases hsv with ⟨rfl, _⟩ | ⟨b', so, q1, rfl, q3, q4⟩
      · cases hb
      · simp only [blkOf, sli, List.mem_singleton] at hb
        subst hb
        exact ⟨q1, _, _, q4⟩
    have hbox2 := hx2.get hbox (fun h => by obtain ⟨_, cs, so, q⟩ := hblk _ h; rw [hbox] at q; simp at q)
    have hnc2 := hx2.get hnc (fun h => by obtain ⟨_, cs, so, q⟩ := hblk _ h; rw [hnc] at q; simp at q)
    have hww : GLi fp 2 109 Hb.length H2 wv rc.2.1 := hw.keep hx2 (fun b so _ _ q h => by obtain ⟨_, cs, so, q2⟩ := hblk _ h; rw [q2] at q; simp at q)
    have hag2 : AgX [] Hb H2 := hR1.ag.trans hx2 (fun _ h _ => h) (fun b h1 h2 => by have := hblk b h1; omega)
    obtain ⟨b2, so2, _, hw2e, _, _⟩ := (id hw2).resolve_left (by simp)
    subst hw2e
    have hl2 := hx2.1
    simp only [go_sem, binC, e0, gc_of hbox2, hbox2, inBlk_some]
    refine ⟨by omega, ?_⟩
    simp only [go_sem, binC, out_n]
    refine hnext _ _ _ (Mc + 1) (hR1.put (r' := (rc.1, rc.2.1, rc.2.2 ++ [(ho, rc.1.getD vr.toNat 0)])) hag2 (by omega) (.inr ⟨nb, hnb, rfl, hne, hnc2⟩) hww hw2 ⟨_, hbox2⟩ hRc.rg (fun p hp => ?_) (by show rc.2.1.length + (rc.2.2 ++ [_]).length ≤ Mc + 1; rw [List.length_append, List.length_singleton]; omega) hRc.ln) hlen rfl (by simp [allL]) (by simp only [go_sem, binC, e0]) (by simp only [go_sem, binC, e9]) (by simp only [go_sem, binC, e10]) (by simp only [go_sem, binC, e11])
    simp only [List.mem_append, List.mem_singleton] at hp
    rcases hp with h | h | rfl
    · exact hRc.pr p (.inl h)
    · exact hRc.pr p (.inr h)
    · exact ⟨rg.2.2.2.2.2, by have := getD_rg hRc.rg vr.toNat; unfold RgI; omega⟩
theorem do_all {F : Nat → Option IFn} (hf : F 53 = some c_do) (hst : F 90 = some c_set) (hva : F 89 = some c_vars) (hof : F 91 = some c_of) : ∀ n, DoOk F 53 n
  | 0 => do_ok hf hst hva hof fun m h => by cases h
  | n + 1 => do_ok hf hst hva hof fun m h => by cases h; exact do_all hf hst hva hof n
end Go.Proofs.YtmakdcbpohlacaaI
end
section
/- What comes of a program. -/
set_option linter.unusedVariables false
set_option linter.unusedSimpArgs false
namespace Go.Proofs.YtmakdcbpohlacaaI
open Go Go.RowKit
def c_iRunOf : IFn := ⟨2, 20, [.cell true 3 4, .t 5],
 .seq (.reg none [
    ⟨(some 2), none, .box (.t 0)⟩,
    ⟨(some 4), none, .new [(.slice none 0 0), (.slice none 0 0), (.slice none 0 0)]⟩,
    ⟨(some 5), none, .mov (.c (.bool false))⟩])
 (.seq (.seq (.reg none [
     ⟨(some 7), none, .load true 2 (.t 2)⟩,
     ⟨(some 8), none, .mov (.t 1)⟩,
     ⟨(some 9), none, .call .q (.f 51) [(.t 7), (.t 8)]⟩,
     ⟨(some 10), none, .un .not (.t 9)⟩])
  (.cond (.t 10) (.seq (.reg none [
      ⟨(some 11), none, .build [(.slice none 0 0), (.slice none 0 0), (.slice none 0 0)] []⟩,
      ⟨none, none, .store 3 (.t 4) (.t 11)⟩,
      ⟨(some 5), none, .mov (.c (.bool false))⟩])
   (.ret)) (.skip)))
 (.seq (.reg none [
    ⟨(some 12), none, .mov (.t 1)⟩,
    ⟨(some 13), none, .call .k (.f 52) [(.t 12)]⟩,
    ⟨(some 14), none, .build [(.slice none 0 0), (.slice none 0 0), (.slice none 0 0)] [(0, 1, (.t 13))]⟩,
    ⟨(some 6), none, .new [(.slice none 0 0), (.slice none 0 0), (.slice none 0 0)]⟩,
    ⟨none, none, .store 3 (.t 6) (.t 14)⟩])
 (.seq (.reg none [
    ⟨(some 15), none, .fad 1 (.t 2)⟩,
    ⟨(some 16), none, .load false 1 (.t 15)⟩,
    ⟨(some 17), none, .call .n (.f 53) [(.t 6), (.t 16)]⟩])
 (.seq (.reg none [
    ⟨(some 18), none, .load true 3 (.t 6)⟩,
    ⟨(some 19), none, .call .k (.f 54) [(.t 18)]⟩,
    ⟨none, none, .store 3 (.t 4) (.t 19)⟩,
    ⟨(some 5), none, .mov (.c (.bool true))⟩])
 (.ret)))))⟩
theorem sl_ints {H : Heap} {v : Value} {l : List Int} (h : SlR Co.int (vw 0 H) v l) (hl : l ≠ []) : ∃ b o, v = .slice (some ⟨b, o, none⟩) l.length l.length ∧ getCells H b o (l.length * 1) = some (ints l) := by
  obtain ⟨b, o, ys, h1, h2, h3, h4⟩ := sl_cells (w := 1) rfl h hl
  refine ⟨b, o, h1, ?_⟩
  have : ys = ints l := by
    refine List.ext_getElem (by simp [ints]; omega) fun i hi hj => ?_
    have hil : i < l.length := by omega
    obtain ⟨h5, _⟩ := h4 i hil
    have h6 : (ys.drop (i * 1)).head? = some (.int .i64 l[i]) := by
      cases hd : ys.drop (i * 1) with
      | nil => rw [hd] at h5; cases h5
      | cons c r => rw [hd] at h5; simpa using h5
    rw [List.head?_drop, Nat.mul_one, List.getElem?_eq_getElem hi] at h6
    simpa [ints] using h6
  rw [h2, this]
theorem NumV.slV {lo : Nat} {H : Heap} {v : Value} {l : List Int} (h : NumV lo H v l) (hr : ∀ x ∈ l, RgI x) (hl : l.length ≤ 1000) : SlR Co.int (vwl lo [] H) v l := by
  rcases h with ⟨a, rfl, rfl⟩ | ⟨b, h1, rfl, _, h⟩
  · exact ⟨by simp, a, rfl, .inl rfl⟩
  · exact ints_sl (o := 0) h h1 (by simp) hr (Nat.zero_le _) (by omega)
theorem NumV.slI {lo : Nat} {H : Heap} {v : Value} {l : List Int} (h : NumV lo H v l) (hr : ∀ x ∈ l, RgI x) (hl : l.length ≤ 1000) : SlR Co.int (vw 0 H) v l := by
  rcases h with ⟨a, rfl, rfl⟩ | ⟨b, _, rfl, _, h⟩
  · exact ⟨by simp, a, rfl, .inl rfl⟩
  · exact ints_sl0 h hr (by omega)
theorem NumV.shape {lo : Nat} {H : Heap} {v : Value} {l : List Int} (h : NumV lo H v l) : ∃ a, v = .slice a l.length l.length := by
  rcases h with ⟨a, rfl, rfl⟩ | ⟨b, _, rfl, _⟩
  · exact ⟨a, rfl⟩
  · exact ⟨_, rfl⟩
theorem GLi.shape {α : Type} {fl : α → List Value} {es et lo : Nat} {H : Heap} {v : Value} {l : List α} (h : GLi fl es et lo H v l) : ∃ a, v = .slice a l.length l.length := by
  rcases h with ⟨rfl, rfl⟩ | ⟨b, so, _, rfl, _⟩
  · exact ⟨none, rfl⟩
  · exact ⟨_, rfl⟩
theorem NumV.keep {lo : Nat} {H H' : Heap} {v : Value} {l : List Int} {xs : List Nat} (h : NumV lo H v l) (hx : AgX xs H H') (hn : ∀ b, lo ≤ b → v = sli b 0 l.length → b ∉ xs) : NumV lo H' v l := by
  rcases h with h | ⟨b, h1, h2, h3, h4⟩
  · exact .inl h
  · exact .inr ⟨b, h1, h2, h3, hx.get h4 (hn b h1 h2)⟩
theorem GLi.lo_le {α : Type} {fl : α → List Value} {es et lo b : Nat} {H : Heap} {l : List α} (h : GLi fl es et lo H (sli b 0 l.length) l) : lo ≤ b := by
  rcases h with ⟨h, _⟩ | ⟨b', so, h1, h2, _⟩
  · simp [sli, nilS] at h
  · simp [sli] at h2; omega
theorem cloneInts_ok {F : Nat → Option IFn} {f : Nat} (hf : F f = some c_cloneInts) {H : Heap} {v : Value} {l : List Int} (hv : SlR Co.int (vw 0 H) v l) (hl : l.length ≤ 1048576) : ∃ w L, KC F f [v] H w (H ++ L) ∧ NumV H.length (H ++ L) w l := by
  suffices h : ∃ w H', KC F f [v] H w H' ∧ (∃ L, H' = H ++ L ∧ NumV H.length H' w l) by
    obtain ⟨w, _, h1, L, rfl, h2⟩ := h
    exact ⟨w, L, h1, h2⟩
  refine KC.mk hf rfl ?_
  refine seq_reg ?_
  simp only [go_sem, binC]
  refine seq_reg ?_
  simp only [go_sem, binC]
  by_cases h0 : l = []
  · obtain ⟨_, a, rfl, _⟩ := hv
    subst h0
    refine op_app_zero _ _ _ _ _ (by (simp only [go_sem, binC]) <;> rfl) (by (simp only [go_sem, binC]) <;> rfl) ?_
    simp only [go_sem, binC]
    exact wpc_ret ⟨Or.inr rfl, _, (by (simp only [go_sem, binC]) <;> rfl), [], by simp, .inl ⟨_, rfl, rfl⟩⟩
  · obtain ⟨b, o, rfl, hg⟩ := sl_ints hv h0
    have hne : l.length ≠ 0 := fun h => h0 (List.eq_nil_of_length_eq_zero h)
    refine op_app_nil _ _ _ _ _ (by (simp only [go_sem, binC]) <;> rfl) (by (simp only [go_sem, binC]) <;> rfl) hne hg (by omega) (by omega) ?_
    simp only [go_sem, binC]
    exact wpc_ret ⟨Or.inr rfl, _, (by (simp only [go_sem, binC]) <;> rfl), _, rfl, .inr ⟨_, Nat.le_refl _, rfl, h0, get_new0 _ _⟩⟩
theorem op_app_cp {F : Nat → Option IFn} {α : Type} {fl : α → List Value} {es et bytes lo lo0 : Nat} {x y : Opd} {e : Env} {H : Heap} {w : Value} {l : List α} {K : Value → Heap → Prop} (hw : ∀ a, (fl a).length = es) (hv : GLi fl es et lo H w l) (hx : x.ev e = nilS) (hy : y.ev e = w) (hl : l.length ≤ 1000) (hb : bytes ≤ 1048576)
    (k : ∀ w' L, GLi fl es et H.length (H ++ L) w' l → K w' (H ++ L)) : wpOp F lo0 (.app es et bytes false x y) e H K := by
  rcases hv with ⟨rfl, rfl⟩ | ⟨b, so, h1, rfl, h3, h4⟩
  · refine op_app_zero _ _ _ _ _ hx hy ?_
    have := k nilS [] (.inl ⟨rfl, rfl⟩)
    rwa [List.append_nil] at this
  · have hne : l.length ≠ 0 := fun h => h3 (List.eq_nil_of_length_eq_zero h)
    have hbytes : l.length * bytes ≤ 1000 * 1048576 := Nat.mul_le_mul hl hb
    have hfl := flat_len hw l
    have hg : getCells H b 0 (l.length * es) = some (l.flatMap fl) := by
      unfold getCells
      rw [h4]
      simp only [Nat.zero_add]
      rw [if_pos (by omega), List.drop_zero, List.take_of_length_le (by omega)]
    refine op_app_nil _ _ _ _ _ hx hy hne hg (by omega) (by omega) ?_
    exact k _ _ (.inr ⟨_, true, Nat.le_refl _, rfl, h3, get_new0 _ _⟩)
theorem GLi.slPV {es et lo : Nat} {H : Heap} {v : Value} {l : List (Int × Int)} (h : GLi fp 2 et lo H v l) (hr : ∀ p ∈ l, RgI p.1 ∧ RgI p.2) (hl : l.length ≤ 1000) : SlR Co.p2 (vwl lo [] H) v l := by
  rcases h with ⟨rfl, rfl⟩ | ⟨b, so, hlo, rfl, _, h⟩
  · exact ⟨by simp, none, rfl, .inl rfl⟩
  · have hfl := flat_len (fl := fp) (w := 2) (fun _ => rfl) l
    refine ⟨by omega, _, rfl, .inr ⟨b, 0, rfl, fun i hi => ⟨fp l[i], ?_, ⟨[.int .i64 l[i].1], [.int .i64 l[i].2], rfl, ⟨rfl, (hr _ (List.getElem_mem hi)).1⟩, ⟨rfl, (hr _ (List.getElem_mem hi)).2⟩⟩⟩⟩⟩
    unfold rng vwl
    rw [if_pos ⟨hlo, by simp⟩, h]
    simp only [Option.map_some, Nat.zero_add, show Co.p2.w = 2 from rfl]
    rw [if_pos (by omega)]
    congr 1
    have : l.flatMap fp = (l.take i).flatMap fp ++ (fp l[i] ++ (l.drop (i + 1)).flatMap fp) := by
      conv => lhs; rw [← List.take_append_drop i l, List.drop_eq_getElem_cons hi]
      rw [List.flatMap_append, List.flatMap_cons]
    rw [this]
    have hlt : ((l.take i).flatMap fp).length = i * 2 := by rw [flat_len (fl := fp) (w := 2) (fun _ => rfl), List.length_take]; omega
    rw [List.drop_append, List.drop_of_length_le (by omega), hlt, Nat.sub_self, List.nil_append, List.drop_zero]
    rfl
theorem GLi.slP {es et lo : Nat} {H : Heap} {v : Value} {l : List (Int × Int)} (h : GLi fp 2 et lo H v l) (hr : ∀ p ∈ l, RgI p.1 ∧ RgI p.2) (hl : l.length ≤ 1000) : SlR Co.p2 (vw 0 H) v l := (h.slPV (es := 2) hr hl).mono (vwl0 _ _ _)
theorem clone_ok {F : Nat → Option IFn} {f : Nat} (hf : F f = some c_clone) (hci : F 52 = some c_cloneInts) {H : Heap} {nv wv sv : Value} {r : RunS} {lo lo2 lo3 : Nat} (hn : NumV lo H nv r.1) (hw : GLi fp 2 109 lo2 H wv r.2.1) (hs : GLi fp 2 81 lo3 H sv r.2.2) (rg : ∀ x ∈ r.1, 0 ≤ x ∧ x ≤ 9)
    (pr : ∀ p, p ∈ r.2.1 ∨ p ∈ r.2.2 → RgI p.1 ∧ RgI p.2) (l1 : r.1.length ≤ 1000) (l2 : r.2.1.length + r.2.2.length ≤ 1000) : ∃ nv' wv' sv' L, KC F f [.agg #[nv, wv, sv]] H (.agg #[nv', wv', sv']) (H ++ L) ∧ SlR Co.int (vwl H.length [] (H ++ L)) nv' r.1 ∧ SlR Co.p2 (vwl H.length [] (H ++ L)) wv' r.2.1 ∧ SlR Co.p2 (vwl H.length [] (H ++ L)) sv' r.2.2 := by
  suffices h : ∃ v H', KC F f [.agg #[nv, wv, sv]] H v H' ∧ (∃ nv' wv' sv' L, v = .agg #[nv', wv', sv'] ∧ H' = H ++ L ∧ SlR Co.int (vwl H.length [] H') nv' r.1 ∧ SlR Co.p2 (vwl H.length [] H') wv' r.2.1 ∧ SlR Co.p2 (vwl H.length [] H') sv' r.2.2) by
    obtain ⟨_, _, h1, nv', wv', sv', L, rfl, rfl, h2⟩ := h
    exact ⟨nv', wv', sv', L, h1, h2⟩
  refine KC.mk hf rfl ?_
  have on := hn.one
  have ow := hw.one
  have os := hs.one
  have rgI : ∀ x ∈ r.1, RgI x := fun x hx => by have := rg x hx; unfold RgI; omega
  refine seq_reg ?_
  simp only [go_sem, binC, on, ow, os]
  refine wpc_gen fun H1 hH1 => ?_
  have hx1 : AgX [] H H1 := hH1 ▸ AgX.app [] _ _
  have hb1 : H1[H.length]? = some ⟨[nv, wv, sv], 0, 0, false, true⟩ := hH1 ▸ get_new0 _ _
  have hb2 : H1[H.length + 1]? = some ⟨[nilS, nilS, nilS], 0, 0, false, true⟩ := hH1 ▸ get_new _ _ 1
  have hN1 : NumV lo H1 nv r.1 := by
    rcases hn with h2 | ⟨nb, q1, q2, q3, q4⟩
    · exact .inl h2
    · exact .inr ⟨nb, q1, q2, q3, hx1.get q4 (by simp)⟩
  have hW1 := hw.keep hx1 (fun _ _ _ _ _ => by simp)
  have hS1 := hs.keep hx1 (fun _ _ _ _ _ => by simp)
  obtain ⟨L0, hL0⟩ : ∃ L0, H1 = H ++ L0 := ⟨_, hH1⟩
  clear hH1
  refine seq_regD ?_
  simp only [go_sem, binC, gc_of hb1, inBlk_some]
  obtain ⟨nv', L1, k1, q1⟩ := cloneInts_ok hci (hN1.slI rgI l1) (by omega)
  refine op_callK (by simp only [go_sem, binC]; exact k1) ?_
  simp only [go_sem, binC]
  have hx2 : AgX [] H1 (H1 ++ L1) := AgX.app [] _ _
  have hb12 := hx2.get hb1 (by simp)
  simp only [go_sem, binC, gc_of hb12, inBlk_some]
  refine op_app_cp (fl := fp) (fun _ => rfl) (hW1.keep hx2 (fun _ _ _ _ _ => by simp)) (by (simp only [go_sem, binC]) <;> rfl) (by simp only [go_sem, binC]) (by omega) (by omega) fun wv' L2 q2 => ?_
  simp only [go_sem, binC]
  simp only [List.append_assoc] at q2 ⊢
  have hx3 : AgX [] H1 (H1 ++ (L1 ++ L2)) := AgX.app [] _ _
  have hb13 := hx3.get hb1 (by simp)
  simp only [go_sem, binC, gc_of hb13, inBlk_some]
  refine op_app_cp (fl := fp) (fun _ => rfl) (hS1.keep hx3 (fun _ _ _ _ _ => by simp)) (by (simp only [go_sem, binC]) <;> rfl) (by simp only [go_sem, binC]) (by omega) (by omega) fun sv' L3 q3 => ?_
  simp only [List.append_assoc] at q3 ⊢
  have hx4 : AgX [] H1 (H1 ++ (L1 ++ (L2 ++ L3))) := AgX.app [] _ _
  have hb24 := hx4.get hb2 (by simp)
  obtain ⟨na, rfl⟩ := q1.shape
  obtain ⟨wa, rfl⟩ := q2.shape
  obtain ⟨sa, rfl⟩ := q3.shape
  simp only [go_sem, binC, hb24]
  have hb2l := (List.getElem?_eq_some_iff.1 hb2).1
  have hb24l := (List.getElem?_eq_some_iff.1 hb24).1
  have hxs := fun k => AgX.set (H1 ++ (L1 ++ (L2 ++ L3))) (H.length + 1) k
  have e1 : AgX [] (H1 ++ L1) (H1 ++ (L1 ++ (L2 ++ L3))) := by rw [← List.append_assoc]; exact AgX.app [] _ _
  have e2 : AgX [] (H1 ++ (L1 ++ L2)) (H1 ++ (L1 ++ (L2 ++ L3))) := by have := AgX.app [] (H1 ++ (L1 ++ L2)) L3; simpa only [List.append_assoc] using this
  have hLf : ∀ k, ∃ Lf, (H1 ++ (L1 ++ (L2 ++ L3))).set (H.length + 1) k = H ++ Lf := fun k => by
    subst hL0
    rw [List.append_assoc, List.set_append_right _ _ (by omega)]
    exact ⟨_, rfl⟩
  obtain ⟨Lf, hLf'⟩ := hLf ⟨[.slice na r.1.length r.1.length, .slice wa r.2.1.length r.2.1.length, .slice sa r.2.2.length r.2.2.length], 0, 0, false, true⟩
  refine wpc_ret ⟨Or.inr rfl, _, (by (simp only [go_sem, binC, gc_set hb24l]) <;> rfl), _, _, _, Lf, rfl, hLf', ?_, ?_, ?_⟩
  · exact (((q1.keep e1 (fun _ _ _ => by simp)).keep (hxs _) (fun b h _ => by simp; omega)).slV rgI l1).mono (vwl_sub (AgX.refl [] _) hx1.1 (fun b' _ _ h => ⟨by simp, h⟩))
  · exact (((q2.keep e2 (fun _ _ _ _ _ => by simp)).keep (hxs _) (fun b so h _ _ => by have q := (h ▸ q2).lo_le; simp only [List.length_append] at q; simp; omega)).slPV (es := 2) (fun p hp => pr p (.inl hp)) (by omega)).mono (vwl_sub (AgX.refl [] _) (by simp only [List.length_append]; have := hx1.1; omega) (fun b' _ _ h => ⟨by simp, h⟩))
  · exact ((q3.keep (hxs _) (fun b so h _ _ => by have q := (h ▸ q3).lo_le; simp only [List.length_append] at q; simp; omega)).slPV (es := 2) (fun p hp => pr p (.inr hp)) (by omega)).mono (vwl_sub (AgX.refl [] _) (by simp only [List.length_append]; have := hx1.1; omega) (fun b' _ _ h => ⟨by simp, h⟩))
def runOf (n : Nat) (p : TProg n) (nums : List Int) : RunS := if numsB n p nums = true then runL n p.2 (nums, [], []) else ([], [], [])
def RunOk (F : Nat → Option IFn) (f : Nat) : Prop := ∀ (H : Heap) (n : Nat) (lv sv w : Value) (ls : List (Int × Int)) (l : List (TStep n)) (nums : List Int), SlR Co.p2 (vw 0 H) lv ls → SlR (Co.step n) (vw 0 H) sv l → (Co.prog n).sm (ls, l) → SlR Co.int (vw 0 H) w nums → ∃ nv wv tv H', KC F f [.agg #[lv, sv], w] H (.tuple #[.agg #[nv, wv, tv], .bool (numsB n (ls, l) nums)]) H' ∧ AgX [] H H' ∧
  SlR Co.int (vw 0 H') nv (runOf n (ls, l) nums).1 ∧ SlR Co.p2 (vw 0 H') wv (runOf n (ls, l) nums).2.1 ∧ SlR Co.p2 (vw 0 H') tv (runOf n (ls, l) nums).2.2
theorem iRunOf_ok {F : Nat → Option IFn} {f : Nat} (hf : F f = some c_iRunOf) (gn : NumsOk F 51) (hci : F 52 = some c_cloneInts) (gdo : ∀ n, DoOk F 53 n) (hcl : F 54 = some c_clone) : RunOk F f := by
  intro H n lv sv w ls l nums r1 r2 hsm r3
  suffices h : ∃ v H', KC F f [.agg #[lv, sv], w] H v H' ∧ (∃ nv wv tv, v = .tuple #[.agg #[nv, wv, tv], .bool (numsB n (ls, l) nums)] ∧ AgX [] H H' ∧
      SlR Co.int (vw 0 H') nv (runOf n (ls, l) nums).1 ∧ SlR Co.p2 (vw 0 H') wv (runOf n (ls, l) nums).2.1 ∧ SlR Co.p2 (vw 0 H') tv (runOf n (ls, l) nums).2.2) by
    obtain ⟨_, H', h1, nv, wv, tv, rfl, h2⟩ := h
    exact ⟨nv, wv, tv, H', h1, h2⟩
  have olv : one lv = true := by obtain ⟨_, a, rfl, _⟩ := r1; rfl
  have osv : one sv = true := by obtain ⟨_, a, rfl, _⟩ := r2; rfl
  refine KC.mk hf rfl ?_
  refine seq_reg ?_
  simp only [go_sem, binC, olv, osv]
  refine wpc_gen fun H1 hH1 => ?_
  have hx1 : AgX [] H H1 := hH1 ▸ AgX.app [] _ _
  have hb2 : H1[H.length]? = some ⟨[lv, sv], 0, 0, false, true⟩ := hH1 ▸ get_new0 _ _
  have hb4 : H1[H.length + 1]? = some ⟨[nilS, nilS, nilS], 0, 0, false, true⟩ := hH1 ▸ get_new _ _ 1
  clear hH1
  have r1' := r1.mono (agx_sub hx1)
  have r2' := r2.mono (agx_sub hx1)
  have r3' := r3.mono (agx_sub hx1)
  have hb4l := (List.getElem?_eq_some_iff.1 hb4).1
  refine seq_assoc (seq_reg ?_)
  simp only [go_sem, binC, gc_of hb2, inBlk_some, olv, osv]
  refine op_callB (by simp only [go_sem, binC]; exact gn H1 n _ _ _ ls l nums r1' r2' hsm r3') (fun hB => ?_) (fun hB => ?_)
  rotate_left
  · simp only [go_sem, binC]
    refine seq_cond (t := true) rfl ?_
    simp only [go_sem, binC]
    refine seq_assoc (seq_reg ?_)
    simp only [go_sem, binC, hb4]
    have hr : runOf n (ls, l) nums = ([], [], []) := if_neg (by rw [hB]; simp)
    refine seq_ret ⟨Or.inr rfl, .tuple #[.agg #[nilS, nilS, nilS], .bool false], ?_, nilS, nilS, nilS, by rw [hB], hx1.setN (by omega) _, ?_, ?_, ?_⟩
    · simp [resV, resL, res1, putE_get, notT, ptr, gc_set hb4l, inBlk_some, valOf]
    all_goals (rw [hr]; exact ⟨by simp, none, rfl, .inl rfl⟩)
  have hB2 := hB
  simp only [numsB, Bool.and_eq_true, decide_eq_true_eq, List.all_eq_true] at hB2
  obtain ⟨⟨hP, hln⟩, hall⟩ := hB2
  have hrun : runOf n (ls, l) nums = runL n l (nums, [], []) := if_pos hB
  have hcnt := progB_cnt hP hsm
  have hst : l.all (stepB ls.length n 3) = true := by
    simp only [progB, Bool.and_eq_true] at hP; exact hP.1.2
  have hls : ls.length ≤ 4 := by
    simp only [progB, Bool.and_eq_true, decide_eq_true_eq] at hP; have := hP.1.1.1; omega
  simp only at hln hcnt
  have rg : ∀ x ∈ nums, 0 ≤ x ∧ x ≤ 9 := fun x hx => inB_iff'.1 (hall x hx)
  simp only [go_sem, binC]
  refine seq_cond (t := false) rfl ?_
  simp only [go_sem, binC]
  refine seq_skip (seq_reg ?_)
  simp only [go_sem, binC]
  obtain ⟨nv, L1, k1, q1⟩ := cloneInts_ok hci r3' (by omega)
  refine op_callK (by simp only [go_sem, binC]; exact k1) ?_
  obtain ⟨na, rfl⟩ := q1.shape
  simp only [go_sem, binC]
  refine ⟨by omega, ?_⟩
  have hxa : AgX [] H1 (H1 ++ L1) := AgX.app [] _ _
  refine wpc_gen fun H2 hH2 => ?_
  rw [← List.append_assoc] at hH2
  have hx2 : AgX [] (H1 ++ L1) H2 := hH2 ▸ AgX.app [] _ _
  have hb6 : H2[H1.length + L1.length]? = some ⟨[.slice na nums.length nums.length, nilS, nilS], 0, 0, false, true⟩ := by
    rw [hH2, ← List.length_append]; exact get_new0 _ _
  clear hH2
  have hx12 := hxa.tr hx2
  have hR2 : RunI H1 (H1.length + L1.length) (nums, [], []) 0 H2 := by
    exact ⟨hx12, Nat.le_add_right _ _, ⟨_, nilS, nilS, hb6, q1.keep hx2 (fun _ _ _ => by simp), .inl ⟨rfl, rfl⟩, .inl ⟨rfl, rfl⟩⟩, rg, (fun p hp => by simp at hp), Nat.le_refl _, (show nums.length ≤ 1000 by omega)⟩
  have hb22 := hx12.get hb2 (by simp)
  have hb42 := hx12.get hb4 (by simp)
  refine seq_reg ?_
  simp only [go_sem, binC, gc_of hb22, inBlk_some]
  obtain ⟨H3, k3, hR3⟩ := gdo n H1 H2 (H1.length + L1.length) H.length 0 (nums, [], []) sv l 3 hx1.1 hR2 r2' (by rw [hln]; exact hst) (by omega)
  refine op_callN (by simp only [go_sem, binC]; exact k3) ?_
  simp only [go_sem, binC]
  obtain ⟨nv3, wv3, sv3, hbox3, hn3, hw3, hs3⟩ := hR3.ex
  have on3 := hn3.one
  have ow3 := hw3.one
  have os3 := hs3.one
  have hb43 := hR3.ag.get hb4 (by simp)
  refine seq_reg ?_
  simp only [go_sem, binC, gc_of hbox3, inBlk_some, on3, ow3, os3]
  obtain ⟨nv4, wv4, sv4, L4, k4, s1, s2, s3⟩ := clone_ok hcl hci hn3 hw3 hs3 hR3.rg hR3.pr hR3.ln (by have := hR3.sm; omega)
  refine op_callK (by simp only [go_sem, binC]; exact k4) ?_
  obtain ⟨_, na4, rfl, _⟩ := id s1
  obtain ⟨_, wa4, rfl, _⟩ := id s2
  obtain ⟨_, sa4, rfl, _⟩ := id s3
  have hx3a : AgX [] H3 (H3 ++ L4) := AgX.app [] _ _
  have hb44 := hx3a.get hb43 (by simp)
  have hb44l := (List.getElem?_eq_some_iff.1 hb44).1
  simp only [go_sem, binC, hb44]
  have hag4 : AgX [] H (H3 ++ L4) := (hx1.tr hR3.ag).tr hx3a
  have h3l := hR3.ag.1
  have hsb : Sub (vwl H3.length [] (H3 ++ L4)) (vw 0 ((H3 ++ L4).set (H.length + 1) ⟨[.slice na4 (runL n l (nums, [], [])).1.length (runL n l (nums, [], [])).1.length, .slice wa4 (runL n l (nums, [], [])).2.1.length (runL n l (nums, [], [])).2.1.length, .slice sa4 (runL n l (nums, [], [])).2.2.length (runL n l (nums, [], [])).2.2.length], 0, 0, false, true⟩)) := (vwl_sub (AgX.set _ _ _) (Nat.le_refl _) (xs' := []) (fun b' h1 h2 h3 => ⟨by simp; omega, h3⟩)).trans (vwl0 _ _ _)
  refine wpc_ret ⟨Or.inr rfl, .tuple #[.agg #[.slice na4 (runL n l (nums, [], [])).1.length (runL n l (nums, [], [])).1.length, .slice wa4 (runL n l (nums, [], [])).2.1.length (runL n l (nums, [], [])).2.1.length, .slice sa4 (runL n l (nums, [], [])).2.2.length (runL n l (nums, [], [])).2.2.length], .bool true], ?_, _, _, _, by rw [hB], hag4.setN (by omega) _, by rw [hrun]; exact s1.mono hsb, by rw [hrun]; exact s2.mono hsb, by rw [hrun]; exact s3.mono hsb⟩
  simp [resV, resL, res1, putE_get, notT, ptr, gc_set hb44l, inBlk_some, valOf]
end Go.Proofs.YtmakdcbpohlacaaI
end
section
/- Rules for walks, and lists compared. -/
set_option linter.unusedVariables false
set_option linter.unusedSimpArgs false
namespace Go.Proofs.YtmakdcbpohlacaaI
open Go Go.RowKit
theorem frees_cons {lo : Nat} {H Hm : Heap} {k : Nat} {d : Option Nat} {op : IOp} {r : List IOper} {e e1 : Env} (v : Value) (h1 : iop lo op e H = some (v, H)) (h2 : iop lo op e Hm = some (v, Hm)) (h3 : frees lo H Hm k r (putE e d v) e1) : frees lo H Hm (k + 1) (⟨d, none, op⟩ :: r) e e1 := ⟨rfl, v, h1, h2, h3⟩
theorem iop_load {lo n : Nat} {x : Opd} {e : Env} {H : Heap} {b o : Nat} {cs : List Value} (hx : x.ev e = ptr b o) (hg : getCells H b o n = some cs) : iop lo (.load true n x) e H = some (.agg cs.toArray, H) := by
  simp only [iop, hx, ptr, hg, Option.bind_some, valOf, if_true, Option.map_some]
theorem wpc_genE {F : Nat → Option IFn} {lo : Nat} {c : ICode} {e : Env} {H : Heap} {K : X → Env → Heap → Prop} (h : ∀ e0, e0 = e → wpc F lo c e0 H K) : wpc F lo c e H K := h _ rfl
def LawB2 (F : Nat → Option IFn) (f : Nat) : Prop := ∀ (H : Heap) (v w : Value) (code more : List Int), SlR Co.byte (vw 0 H) v code → SlR Co.byte (vw 0 H) w more → QC F f [v, w] H (.bool true)
theorem numsB_new {d : Nat} {ls : List (Int × Int)} {l : List (TStep d)} {nums : List Int} (h : numsB d (ls, l) nums = true) {n : Nat} {l' : List (TStep n)} (h1 : l'.all (stepB ls.length n 3) = true) (h2 : cntL n l' ≤ 8) (h3 : 0 ≤ cntL n l') : numsB n (ls, l') nums = true := by
  simp only [numsB, progB, Bool.and_eq_true, decide_eq_true_eq] at h ⊢
  obtain ⟨⟨⟨⟨⟨a1, a2⟩, a3⟩, a4⟩, a5⟩, a6⟩ := h
  exact ⟨⟨⟨⟨⟨a1, a2⟩, h1⟩, by unfold Wr; rw [wrap_id (by omega) (by omega)]; exact h2⟩, a5⟩, a6⟩
theorem numsB_len {d : Nat} {ls : List (Int × Int)} {l : List (TStep d)} {nums : List Int} (h : numsB d (ls, l) nums = true) : nums.length = ls.length ∧ ls.length ≤ 4 ∧ ∀ x ∈ nums, 0 ≤ x ∧ x ≤ 9 := by
  simp only [numsB, progB, Bool.and_eq_true, decide_eq_true_eq, List.all_eq_true] at h
  obtain ⟨⟨⟨⟨⟨a1, a2⟩, a3⟩, a4⟩, a5⟩, a6⟩ := h
  exact ⟨a5, by omega, fun x hx => inB_iff'.1 (a6 x hx)⟩
def IntsOk (F : Nat → Option IFn) (f : Nat) : Prop := ∀ (H : Heap) (v w : Value) (l l' : List Int), SlR Co.int (vw 0 H) v l → SlR Co.int (vw 0 H) w l' → QC F f [v, w] H (.bool (decide (l = l')))
def c_lcInts : IFn := ⟨2, 26, [.t 4],
 .seq (.reg none [
    ⟨(some 4), none, .mov (.c (.bool false))⟩])
 (.seq (.seq (.reg none [
     ⟨(some 6), none, .mov (.t 0)⟩,
     ⟨(some 7), none, .len (.t 6)⟩,
     ⟨(some 8), none, .mov (.t 1)⟩,
     ⟨(some 9), none, .len (.t 8)⟩,
     ⟨(some 10), none, .bin .neq (.t 7) (.t 9)⟩])
  (.cond (.t 10) (.seq (.reg none [
      ⟨(some 4), none, .mov (.c (.bool false))⟩])
   (.ret)) (.skip)))
 (.seq (.seq (.reg none [
     ⟨(some 5), none, .mov (.c (.int .i64 0))⟩])
  (.block 0 (.loop (.seq (.seq (.reg none [
        ⟨(some 11), none, .mov (.t 5)⟩,
        ⟨(some 12), none, .mov (.t 0)⟩,
        ⟨(some 13), none, .len (.t 12)⟩,
        ⟨(some 14), none, .bin .lss (.t 11) (.t 13)⟩])
     (.cond (.t 14) (.skip) (.exit 0)))
    (.seq (.block 1 (.seq (.reg (some 8) [
         ⟨(some 17), none, .mov (.t 0)⟩,
         ⟨(some 18), none, .mov (.t 5)⟩,
         ⟨(some 19), none, .iad 1 (.t 17) (.t 18)⟩,
         ⟨(some 20), none, .load false 1 (.t 19)⟩,
         ⟨(some 21), none, .mov (.t 1)⟩,
         ⟨(some 22), none, .mov (.t 5)⟩,
         ⟨(some 23), none, .iad 1 (.t 21) (.t 22)⟩,
         ⟨(some 24), none, .load false 1 (.t 23)⟩,
         ⟨(some 25), none, .bin .neq (.t 20) (.t 24)⟩])
      (.cond (.t 25) (.seq (.reg none [
          ⟨(some 4), none, .mov (.c (.bool false))⟩])
       (.ret)) (.skip))))
    (.reg none [
      ⟨(some 15), none, .mov (.t 5)⟩,
      ⟨(some 16), none, .bin .add (.t 15) (.c (.int .i64 1))⟩,
      ⟨(some 5), none, .mov (.t 16)⟩]))))))
 (.seq (.reg none [
    ⟨(some 4), none, .mov (.c (.bool true))⟩])
 (.ret))))⟩
theorem lcInts_ok {F : Nat → Option IFn} {f : Nat} (hf : F f = some c_lcInts) : IntsOk F f := by
  intro H v w l l' hv hw
  obtain ⟨h0, a, rfl, _⟩ := id hv
  obtain ⟨h0', a', rfl, _⟩ := id hw
  refine QC.mk hf rfl ?_
  refine seq_reg ?_
  simp only [go_sem, binC]
  by_cases hl : l.length = l'.length
  rotate_left
  · have hne : ((l.length : Int) != (l'.length : Int)) = true := by simp; omega
    refine seq_assoc (seq_reg ?_)
    simp only [go_sem, binC, hne]
    refine seq_cond (t := true) rfl ?_
    simp only [go_sem, binC]
    refine seq_assoc (seq_reg ?_)
    simp only [go_sem, binC]
    refine seq_ret ⟨Or.inr rfl, .bool false, by simp only [go_sem, binC], ?_, rfl⟩
    rw [decide_eq_false (fun h => hl (by rw [h]))]
  have hne : ((l.length : Int) != (l'.length : Int)) = false := by simp; omega
  refine seq_assoc (seq_reg ?_)
  simp only [go_sem, binC, hne]
  refine seq_cond (t := false) rfl ?_
  simp only [go_sem, binC]
  refine seq_skip (seq_assoc (seq_reg ?_))
  simp only [go_sem, binC]
  refine seq_block (wpc_loop ?_)
  suffices h : ∀ (k i : Nat) (e : Env), i + k = l.length → e 0 = .slice a l.length l.length → e 1 = .slice a' l'.length l'.length → e 5 = .int .i64 i → (l = l' ↔ l.drop i = l'.drop i) → W F H.length _ e _ _ from
    h l.length 0 _ (by omega) (by simp only [go_sem, binC]) (by simp only [go_sem, binC]) (by (simp only [go_sem, binC]) <;> rfl) (by simp)
  intro k
  induction k with
  | zero =>
    intro i e hi e0 e1 e5 heq
    refine lp_step ?_
    refine seq_assoc (seq_reg ?_)
    simp only [go_sem, binC, e0, e5]
    refine seq_cond (t := false) (by simp only [go_sem, binC]; rw [decide_eq_false (by omega)]) ?_
    simp only [go_sem, binC]
    refine seq_exit ?_
    simp only [go_sem, binC, thenX_e, out_e, thenX_n]
    refine seq_reg ?_
    simp only [go_sem, binC]
    refine wpc_ret ⟨Or.inr rfl, .bool true, by simp only [go_sem, binC], ?_, rfl⟩
    rw [decide_eq_true (heq.2 (by rw [List.drop_of_length_le (by omega), List.drop_of_length_le (by omega)]))]
  | succ k ih =>
    intro i e hi e0 e1 e5 heq
    have hil : i < l.length := by omega
    have hil' : i < l'.length := by omega
    obtain ⟨b, o, hv1, hg⟩ := gcI0 hv hil
    obtain ⟨b', o', hv2, hg'⟩ := gcI0 hw hil'
    simp only [Value.slice.injEq, and_true] at hv1 hv2
    subst hv1 hv2
    have hw1 : IntKind.i64.wrap ((i : Int) + 1) = ((i + 1 : Nat) : Int) := by rw [wrap_id (by omega) (by omega)]; omega
    rw [List.drop_eq_getElem_cons hil, List.drop_eq_getElem_cons hil', List.cons.injEq] at heq
    refine lp_step ?_
    refine seq_assoc (seq_reg ?_)
    simp only [go_sem, binC, e0, e5]
    refine seq_cond (t := true) (by simp only [go_sem, binC]; rw [decide_eq_true (by omega)]) ?_
    simp only [go_sem, binC]
    refine seq_skip (seq_block (seq_regD ?_))
    simp only [go_sem, binC, e0, e5]
    refine ⟨⟨by omega, by omega⟩, ?_⟩
    simp only [go_sem, binC, Int.toNat_natCast, Nat.mul_one, hg, e1, e5]
    refine ⟨⟨by omega, by omega⟩, ?_⟩
    simp only [go_sem, binC, Int.toNat_natCast, Nat.mul_one, hg']
    by_cases hq : l[i] = l'[i]
    · have hb : (l[i] != l'[i]) = false := by rw [hq]; exact bne_self_eq_false _
      simp only [go_sem, binC, hb]
      refine wpc_cond (t := false) (by (simp only [go_sem, binC]) <;> rfl) ?_
      simp only [go_sem, binC]
      refine wpc_skip ?_
      simp only [go_sem, binC, out_n, thenX_n]
      refine wpc_reg ?_
      simp only [go_sem, binC, e5, hw1]
      simp only [go_sem, binC, thenX_n]
      exact ih (i + 1) _ (by omega) (by simp only [go_sem, binC, e0]) (by simp only [go_sem, binC, e1]) (by simp only [go_sem, binC]) (by rw [heq]; exact ⟨fun h => h.2, fun h => ⟨hq, h⟩⟩)
    · have hb : (l[i] != l'[i]) = true := by simpa using hq
      simp only [go_sem, binC, hb]
      refine wpc_cond (t := true) (by (simp only [go_sem, binC]) <;> rfl) ?_
      simp only [go_sem, binC]
      refine seq_reg ?_
      simp only [go_sem, binC]
      refine wpc_ret ?_
      simp only [go_sem, binC, out_r, thenX_r]
      refine ⟨Or.inr rfl, .bool false, by simp only [go_sem, binC], ?_, rfl⟩
      rw [decide_eq_false (fun h => hq (heq.1 h).1)]
theorem gcP {H : Heap} {v : Value} {l : List (Int × Int)} (h : SlR Co.p2 (vw 0 H) v l) {i : Nat} (hi : i < l.length) : ∃ b o, v = .slice (some ⟨b, o, none⟩) l.length l.length ∧ getCells H b (o + i * 2) 2 = some [.int .i64 l[i].1, .int .i64 l[i].2] := by
  obtain ⟨_, a, rfl, h2⟩ := h
  rcases h2 with h2 | ⟨b, o, rfl, h2⟩
  · rw [h2] at hi; simp at hi
  · obtain ⟨cs, h3, h4⟩ := h2 i hi
    have h5 := rng_gc h3
    rw [show Co.p2.w = 2 from rfl] at h5
    obtain ⟨_, _, rfl, ⟨rfl, _⟩, ⟨rfl, _⟩⟩ := h4
    exact ⟨b, o, rfl, h5⟩
def PairsOk (F : Nat → Option IFn) (f : Nat) : Prop := ∀ (H : Heap) (v w : Value) (l l' : List (Int × Int)), SlR Co.p2 (vw 0 H) v l → SlR Co.p2 (vw 0 H) w l' → QC F f [v, w] H (.bool (decide (l = l')))
theorem eqC2 (a b c d : Int) : eqCells [.int .i64 a, .int .i64 b] [.int .i64 c, .int .i64 d] = some (decide ((a, b) = (c, d))) := by
  simp only [eqCells, if_true, Option.map_some, Bool.and_true, Prod.mk.injEq]
  congr 1
  rw [Bool.eq_iff_iff]
  simp
theorem eqsV2 (a b c d : Int) : eqsV true 2 (.agg #[.int .i64 a, .int .i64 b]) (.agg #[.int .i64 c, .int .i64 d]) = some (.bool (!decide ((a, b) = (c, d)))) := by
  have h := eqC2 a b c d
  simp only [eqsV, List.length_cons, List.length_nil, h] 
  rfl
theorem GLi.blk {α : Type} {fl : α → List Value} {es et lo : Nat} {H : Heap} {v : Value} {l : List α} (h : GLi fl es et lo H v l) (b : Nat) (hb : b ∈ blkOf v) : lo ≤ b ∧ ∃ cs so, H[b]? = some ⟨cs, es, et, true, so⟩ := by
  rcases h with ⟨rfl, _⟩ | ⟨b', so, q1, rfl, q3, q4⟩
  · cases hb
  · simp only [blkOf, sli, List.mem_singleton] at hb
    subst hb
    exact ⟨q1, _, _, q4⟩
def c_l6Open : IFn := ⟨1, 11, [.t 2],
 .seq (.reg none [
    ⟨(some 2), none, .mov (.c (.pointer none))⟩])
 (.seq (.seq (.reg none [
     ⟨(some 3), none, .mov (.t 0)⟩,
     ⟨(some 4), none, .len (.t 3)⟩,
     ⟨(some 5), none, .bin .gtr (.t 4) (.c (.int .i64 2000))⟩])
  (.cond (.t 5) (.reg none [
     ⟨(some 6), none, .mov (.t 0)⟩,
     ⟨(some 7), none, .sub 1 (.t 6) none (some (.c (.int .i64 2000)))⟩,
     ⟨(some 0), none, .mov (.t 7)⟩]) (.skip)))
 (.seq (.reg none [
    ⟨(some 8), none, .mov (.t 0)⟩,
    ⟨(some 9), none, .build [(.slice none 0 0), (.int .i64 0)] [(0, 1, (.t 8))]⟩,
    ⟨(some 10), none, .box (.t 9)⟩,
    ⟨(some 2), none, .mov (.t 10)⟩])
 (.ret)))⟩
/-- A code opened: a reader in a new block. -/
theorem l6Open_ok {F : Nat → Option IFn} {f : Nat} (hf : F f = some c_l6Open) {H : Heap} {v : Value} {code : List Int} (hv : SlR Co.byte (vw 0 H) v code) (lo : Nat) (hlo : lo ≤ H.length) : ∃ bv code', NC F lo f [v] H (ptr H.length 0) (H ++ [rBlk bv 0]) ∧ RdC H H.length bv code' ∧ St H H.length bv 0 (H ++ [rBlk bv 0]) := by
  have hv0 := hv
  obtain ⟨h0, a, rfl, h1⟩ := hv
  have hst : ∀ bv, St H H.length bv 0 (H ++ [rBlk bv 0]) := fun bv => ⟨fun b _ hb => List.getElem?_append_left hb, get_new0 _ _⟩
  by_cases hl : 2000 < (code.length : Int)
  · obtain ⟨b, o, rfl, h2⟩ := h1.resolve_left (fun h => by rw [h] at hl; simp at hl)
    refine ⟨sli b o 2000, code.take 2000, ?_, ⟨Nat.le_refl _, ⟨by rw [List.length_take]; omega, some ⟨b, o, none⟩, by rw [List.length_take, Nat.min_eq_left (by omega)]; rfl, .inr ⟨b, o, rfl, fun i hi => ?_⟩⟩, by rw [List.length_take]; omega⟩, hst _⟩
    · refine NC.mkE hf rfl ?_
      refine seq_reg ?_
      simp only [go_sem, binC]
      refine seq_assoc (seq_reg ?_)
      simp only [go_sem, binC]
      refine seq_cond (t := true) (by simp only [go_sem, binC]; rw [decide_eq_true hl]) ?_
      simp only [go_sem, binC]
      refine seq_reg ?_
      have hsub : ∀ e' : Env, subV 1 (.slice (some ⟨b, o, none⟩) code.length code.length) e' none (some (.c (.int .i64 2000))) = some (sli b o 2000) := fun e' => by
        have h3 : (2000 : Int) ≤ code.length := by omega
        simp [subV, sli, subB, Opd.ev, h3]
      simp only [go_sem, binC, hsub]
      refine seq_reg ?_
      simp only [go_sem, binC]
      exact wpc_ret ⟨Or.inr rfl, _, (by (simp only [go_sem, binC]) <;> rfl), rfl, rfl⟩
    · rw [List.length_take] at hi
      obtain ⟨cs, h3, h4⟩ := h2 i (by omega)
      refine ⟨cs, h3, ?_⟩
      rw [List.getElem_take]
      exact h4
  · refine ⟨.slice a code.length code.length, code, ?_, ⟨Nat.le_refl _, hv0, by omega⟩, hst _⟩
    refine NC.mkE hf rfl ?_
    refine seq_reg ?_
    simp only [go_sem, binC]
    refine seq_assoc (seq_reg ?_)
    simp only [go_sem, binC]
    refine seq_cond (t := false) (by simp only [go_sem, binC]; rw [decide_eq_false hl]) ?_
    simp only [go_sem, binC]
    refine seq_skip (seq_reg ?_)
    simp only [go_sem, binC]
    exact wpc_ret ⟨Or.inr rfl, _, (by (simp only [go_sem, binC]) <;> rfl), rfl, rfl⟩
end Go.Proofs.YtmakdcbpohlacaaI
end
