/- Texts of this proof, merged: M9, E0m, E1, E2, E3, E4, E5, H0, J0, J1, J2, J3. -/
import Derived.Test.YtbjeldblaclpnaaQf5
import Derived.Test.YtbjeldblaclpnaaQf6
import Derived.Test.YtbjeldblaclpnaaQf8
section
/- Texts of this proof, merged: Q5, Q5b, I19, Q4. -/
section
/- The program's test of steps: the loop. -/
set_option linter.unusedVariables false
set_option linter.unusedSimpArgs false
namespace Go.Proofs.YtbjeldblaclpnaaI
open Go Go.RowKit
attribute [local irreducible] optP wpo wpp wpc binI Kc Kp wpOp thenX eqsV
theorem step_bad {k n : Nat} {d a0 a1 a2 a3 a4 a5 : Int} {a6 a7 : List (TStep n)} (h : (decide (d < 1) || !varB k a1 || (!decide (a0 = 1) && !decide ((a2, a3, a4) = (0, 0, 0))) || (!decide (a0 = 3) && !decide (a5 = 0)) || (!decide (a0 = 2) && decide (0 < (a6.length : Int) + a7.length))) = true) : stepB k (n + 1) d (a0, a1, (a2, a3, a4), a5, a6, a7) = false := by
  simp only [stepB]
  generalize (a6.length : Int) + (a7.length : Int) = X at *
  generalize List.all a6 (stepB k n (d - 1)) = A6 at *
  generalize List.all a7 (stepB k n (d - 1)) = A7 at *
  by_cases h1 : d < 1
  · rw [decide_eq_false (show ¬ 1 ≤ d by omega)]; rfl
  cases hv : varB k a1 with
  | false => simp
  | true =>
    by_cases hX : 0 < X
    · have hX0 : ¬ X = 0 := by omega
      by_cases k1 : a0 = 1 <;> by_cases k3 : a0 = 3 <;> by_cases k2 : a0 = 2 <;> simp_all <;> (intros; simp_all) <;> (try omega)
    · by_cases k1 : a0 = 1 <;> by_cases k3 : a0 = 3 <;> by_cases k2 : a0 = 2 <;> simp_all <;> (intros; simp_all) <;> (try omega)
theorem step_bad2 {k n : Nat} {d a0 a1 a2 a3 a4 a5 : Int} {a6 a7 : List (TStep n)} (h : (if a0 = 1 then valB k (a2, a3, a4) else if a0 = 2 then a6.all (stepB k n (d - 1)) && a7.all (stepB k n (d - 1)) else if a0 = 3 then inB a5 0 2 else false) = false) : stepB k (n + 1) d (a0, a1, (a2, a3, a4), a5, a6, a7) = false := by
  simp only [stepB]
  generalize List.all a6 (stepB k n (d - 1)) = A6 at *
  generalize List.all a7 (stepB k n (d - 1)) = A7 at *
  by_cases k1 : a0 = 1 <;> by_cases k3 : a0 = 3 <;> by_cases k2 : a0 = 2 <;> simp_all <;> (intros; simp_all)
theorem step_good {k n : Nat} {d a0 a1 a2 a3 a4 a5 : Int} {a6 a7 : List (TStep n)} (ht : (decide (d < 1) || !varB k a1 || (!decide (a0 = 1) && !decide ((a2, a3, a4) = (0, 0, 0))) || (!decide (a0 = 3) && !decide (a5 = 0)) || (!decide (a0 = 2) && decide (0 < (a6.length : Int) + a7.length))) = false) (h : (if a0 = 1 then valB k (a2, a3, a4) else if a0 = 2 then a6.all (stepB k n (d - 1)) && a7.all (stepB k n (d - 1)) else if a0 = 3 then inB a5 0 2 else false) = true) : stepB k (n + 1) d (a0, a1, (a2, a3, a4), a5, a6, a7) = true := by
  have hX : (0 : Int) ≤ (a6.length : Int) + (a7.length : Int) := by omega
  simp only [stepB]
  generalize (a6.length : Int) + (a7.length : Int) = X at *
  generalize List.all a6 (stepB k n (d - 1)) = A6 at *
  generalize List.all a7 (stepB k n (d - 1)) = A7 at *
  by_cases k1 : a0 = 1 <;> by_cases k3 : a0 = 3 <;> by_cases k2 : a0 = 2 <;> simp_all <;> omega
set_option maxHeartbeats 4000000 in
theorem iSteps_lp {F : Nat → Option IFn} {n m : Nat} (g1 : VarOk F 85) (g2 : ValOk F 141) (g4 : ∀ (H : Heap) (a : Int), QC F 82 [.int .i64 a] H (.bool (inB a 0 2))) (g3 : StepsOk F 111 n) {H : Heap} {v0 v1 : Value} {p0 : List (Int × Int)} {p1 : List (TStep m)} {d : Int}
    (hp : ∀ L, Rd (Co.prog m) true (vw 0 (H ++ L)) (.agg #[v0, v1]) (p0, p1)) {l : List (TStep (n + 1))} {a : Option Addr} (hu : SlR (Co.step (n + 1)) (vw 0 H) (.slice a l.length l.length) l) (hs : (Co.sl (Co.step (n + 1))).sm l) (hd0 : 0 ≤ d) (hd3 : d ≤ 3)
    {K : X → Env → Heap → Prop} (hK1 : ∀ e1 M, l.all (stepB p0.length (n + 1) d) = true → K (.e 0) e1 (H ++ ⟨[v0, v1], 0, 0, false, true⟩ :: M)) (hK2 : ∀ e1 M, e1 6 = .bool false → l.all (stepB p0.length (n + 1) d) = false → K .r e1 (H ++ ⟨[v0, v1], 0, 0, false, true⟩ :: M)) :
    ∀ (k i : Nat) (e : Env) (M : Heap), i + k = l.length → e 2 = .int .i64 d → e 3 = ptr H.length 0 → e 10 = .slice a l.length l.length → e 11 = .int .i64 l.length → e 12 = .int .i64 i → l.all (stepB p0.length (n + 1) d) = (l.drop i).all (stepB p0.length (n + 1) d) →
      W F H.length (.lp c_iStepsB) e (H ++ ⟨[v0, v1], 0, 0, false, true⟩ :: M) K := by
  obtain ⟨h0, a', ha', h2⟩ := hu
  cases ha'
  have hd : IntKind.i64.wrap (d - 1) = d - 1 := wrap_id (by omega) (by omega)
  intro k
  induction k with
  | zero =>
    intro i e M hi e2 e3 e10 e11 e12 hall
    refine lp_step ?_
    refine seq_reg ?_
    simp only [go_sem, binC, e11, e12]
    refine seq_cond (t := false) (by simp only [go_sem, binC]; rw [decide_eq_false (by omega)]) ?_
    simp only [go_sem, binC]
    refine seq_exit ?_
    simp only [go_sem, binC, thenX_e]
    refine hK1 _ _ ?_
    rw [hall, List.drop_of_length_le (by omega)]
    rfl
  | succ k ih =>
    intro i e M hi e2 e3 e10 e11 e12 hall
    have hil : i < l.length := by omega
    rcases h2 with h2 | ⟨b, o, hab, h2⟩
    · rw [h2] at hil; simp at hil
    subst hab
    obtain ⟨cs, h3, h4⟩ := h2 i hil
    have hsm := hs.2 _ (List.getElem_mem hil)
    rw [List.drop_eq_getElem_cons hil, List.all_cons] at hall
    generalize l[i] = x at h4 hsm hall
    obtain ⟨a0, a1, ⟨a2, a3, a4⟩, a5, a6, a7⟩ := x
    obtain ⟨_, _, rfl, ⟨rfl, b0⟩, _, _, rfl, ⟨rfl, b1⟩, _, _, rfl, ⟨_, _, rfl, ⟨rfl, b2⟩, _, _, rfl, ⟨rfl, b3⟩, ⟨rfl, b4⟩⟩, _, _, rfl, ⟨rfl, b5⟩, _, _, rfl, ⟨v6, rfl, r6⟩, ⟨v7, rfl, r7⟩⟩ := h4
    obtain ⟨s0, s1, s2, s3, s6, s7⟩ := hsm
    have r6c := r6
    have r7c := r7
    obtain ⟨u6, x6⟩ := r6.shape
    subst x6
    obtain ⟨u7, x7⟩ := r7.shape
    subst x7
    have ha : IntKind.i64.wrap ((a6.length : Int) + (a7.length : Int)) = (a6.length : Int) + (a7.length : Int) := by
      have h6 : a6.length ≤ 1048576 := s6.1
      have h7 : a7.length ≤ 1048576 := s7.1
      exact wrap_id (by omega) (by omega)
    have g3c := fun L => rng_gc (rng_sub (vw_app 0 H L) h3)
    rw [step_w] at g3c
    simp only [go_sem, binC] at g3c
    have hw1 : IntKind.i64.wrap ((i : Int) + 1) = ((i + 1 : Nat) : Int) := by rw [wrap_id (by omega) (by omega)]; omega
    refine lp_step ?_
    refine seq_reg ?_
    simp only [go_sem, binC, e11, e12]
    refine seq_cond (t := true) (by simp only [go_sem, binC]; rw [decide_eq_true (by omega)]) ?_
    simp only [go_sem, binC]
    refine seq_skip (seq_block (seq_reg ?_))
    simp only [go_sem, binC, e10, e12, g3c]
    refine ⟨⟨by omega, by omega⟩, ?_⟩
    have hE : ∀ L, getCells (H ++ L) H.length 0 2 = inBlk L[0]? 0 2 := fun L => gc_new0 H L 0 2
    refine seq_assoc (seq_reg ?_)
    unfold c_tests
    refine seg1 (c := H.length + (M.length + 1)) (b := H.length) (m := m) (d := d) (a1 := a1) g1 (hp _) (by simp only [go_sem, binC, e2]) (by simp only [go_sem, binC, e3]) (by simp only [go_sem, binC]) (by simp only [go_sem, binC]) (by simp only [go_sem, binC]) (fun x1 m1 t1 => ?_)
    refine seg2 (c := H.length + (M.length + 1)) (a0 := a0) (a2 := a2) (a3 := a3) (a4 := a4) t1 (by rw [m1.2.2.1]; simp only [go_sem, binC]) (by simp only [go_sem, binC]) (by simp only [go_sem, binC]) (fun x2 m2 t2 => ?_)
    refine seg3 (c := H.length + (M.length + 1)) (a0 := a0) (a5 := a5) t2 (by rw [m2.2.2.1, m1.2.2.1]; simp only [go_sem, binC]) (by simp only [go_sem, binC]) (by simp only [go_sem, binC]) (fun x3 m3 t3 => ?_)
    refine seg4 (c := H.length + (M.length + 1)) (a0 := a0) (n6 := a6.length) (n7 := a7.length) (u6 := u6) (u7 := u7) t3 (by rw [m3.2.2.1, m2.2.2.1, m1.2.2.1]; simp only [go_sem, binC]) (by simp only [go_sem, binC]) (by simp only [go_sem, binC]) (by simp only [go_sem, binC]) ha (fun x4 m4 t4 => ?_)
    have mm := (m1.trans m2).trans (m3.trans m4)
    obtain ⟨y2, y3, y8, y10, y11, y12⟩ := mm
    simp only [go_sem, binC] at y2 y3 y8 y10 y11 y12
    rw [e2] at y2
    rw [e3] at y3
    rw [e10] at y10
    rw [e11] at y11
    rw [e12] at y12
    simp only [go_sem, binC]
    obtain ⟨T, hT, t5⟩ : ∃ T, T = _ ∧ x4 60 = .bool T := ⟨_, rfl, t4⟩
    cases T with
    | true =>
      refine seq_cond (t := true) (by simp only [go_sem, binC, t5]) ?_
      simp only [go_sem, binC]
      refine seq_assoc (seq_reg ?_)
      simp only [go_sem, binC]
      refine seq_ret ?_
      simp only [go_sem, binC, out_r, thenX_r]
      refine hK2 _ _ (by simp only [go_sem, binC]) ?_
      rw [hall, step_bad hT.symm, Bool.false_and]
    | false =>
      refine seq_cond (t := false) (by simp only [go_sem, binC, t5]) ?_
      simp only [go_sem, binC]
      refine seq_skip ?_
      have hd1 : 1 ≤ d := by
        by_cases h1 : d < 1
        · rw [decide_eq_true h1] at hT; simp at hT
        · omega
      refine rest_ok (m := m) (p := (p0, p1)) (b := H.length) (c := H.length + (M.length + 1)) (d := d) (a0 := a0) (a1 := a1) (a2 := a2) (a3 := a3) (a4 := a4) (a5 := a5) (a6 := a6) (a7 := a7) g2 g4 g3 (hp _) ⟨_, rfl, _, _, rfl, ⟨rfl, b2⟩, _, _, rfl, ⟨rfl, b3⟩, ⟨rfl, b4⟩⟩ (r6c.mono (vw_app 0 H _)) (r7c.mono (vw_app 0 H _)) s6 s7 hd1 hd3 hd y2 y3 y8 (by simp only [go_sem, binC]) (by simp only [go_sem, binC]) (by simp only [go_sem, binC]) (by simp only [go_sem, binC]) (by simp only [go_sem, binC]) (by simp only [go_sem, binC]) ?_ ?_
      · intro e5 m5 hg
        obtain ⟨z2, z3, z8, z10, z11, z12⟩ := m5
        simp only [go_sem, binC, out_n, thenX_n]
        refine wpc_reg ?_
        simp only [go_sem, binC, z12, y12, hw1, thenX_n]
        refine ih (i + 1) _ _ (by omega) ?_ ?_ ?_ ?_ ?_ ?_
        · simp only [go_sem, binC, z2, y2]
        · simp only [go_sem, binC, z3, y3]
        · simp only [go_sem, binC, z10, y10]
        · simp only [go_sem, binC, z11, y11]
        · simp only [go_sem, binC]
        · rw [hall, step_good hT.symm hg, Bool.true_and]
      · intro e5 h6 hg
        simp only [go_sem, binC, out_r, thenX_r]
        refine hK2 _ _ h6 ?_
        rw [hall, step_bad2 hg, Bool.false_and]
end Go.Proofs.YtbjeldblaclpnaaI
end
section
/- The program's test of steps, for steps of any depth. -/
set_option linter.unusedVariables false
set_option linter.unusedSimpArgs false
namespace Go.Proofs.YtbjeldblaclpnaaI
open Go Go.RowKit
theorem iSteps_succ {F : Nat → Option IFn} {f n : Nat} (hf : F f = some c_iSteps) (g1 : VarOk F 85) (g2 : ValOk F 141) (g4 : ∀ (H : Heap) (a : Int), QC F 82 [.int .i64 a] H (.bool (inB a 0 2))) (g3 : StepsOk F 111 n) : StepsOk F f (n + 1) := by
  rintro H m v u ⟨p0, p1⟩ l d hp0 hu hs hd0 hd3
  obtain ⟨pc, hpc, _, _, rfl, ⟨v0, rfl, r0⟩, ⟨v1, rfl, r1⟩⟩ := hp0
  have hp : ∀ L, Rd (Co.prog m) true (vw 0 (H ++ L)) (.agg #[v0, v1]) (p0, p1) := fun L => ⟨_, rfl, _, _, rfl, ⟨_, rfl, r0.mono (vw_app 0 H L)⟩, ⟨_, rfl, r1.mono (vw_app 0 H L)⟩⟩
  simp only [go_sem, binC, Option.some.injEq] at hpc
  subst hpc
  have r0c := r0
  have r1c := r1
  obtain ⟨_, x0⟩ := r0.shape
  subst x0
  obtain ⟨_, x1⟩ := r1.shape
  subst x1
  obtain ⟨a, xa⟩ := hu.shape
  subst xa
  refine QC.mk hf rfl ?_
  refine seq_reg ?_
  simp only [go_sem, binC]
  refine seq_assoc (seq_reg ?_)
  simp only [go_sem, binC]
  refine seq_block (wpc_loop ?_)
  refine iSteps_lp g1 g2 g4 g3 hp hu hs hd0 hd3 ?_ ?_ l.length 0 _ [] (by omega) (by simp only [go_sem, binC]) (by simp only [go_sem, binC]) (by simp only [go_sem, binC]) (by simp only [go_sem, binC]) (by simp only [go_sem, binC]; rfl) rfl
  · intro e1 M hall
    simp only [go_sem, binC, out_e, thenX_n]
    refine seq_reg ?_
    simp only [go_sem, binC]
    exact wpc_ret ⟨Or.inr rfl, .bool true, by simp only [go_sem, binC], by rw [hall], rfl⟩
  · intro e1 M h6 hall
    simp only [go_sem, binC, out_r, thenX_r]
    exact ⟨Or.inr rfl, .bool false, by simp only [go_sem, binC, h6], by rw [hall], rfl⟩
theorem iSteps_z {F : Nat → Option IFn} {f : Nat} (hf : F f = some c_iSteps) : StepsOk F f 0 := by
  rintro H m v u ⟨p0, p1⟩ l d hp0 hu hs hd0 hd3
  obtain ⟨pc, hpc, _, _, rfl, ⟨v0, rfl, r0⟩, ⟨v1, rfl, r1⟩⟩ := hp0
  have hp : ∀ L, Rd (Co.prog m) true (vw 0 (H ++ L)) (.agg #[v0, v1]) (p0, p1) := fun L => ⟨_, rfl, _, _, rfl, ⟨_, rfl, r0.mono (vw_app 0 H L)⟩, ⟨_, rfl, r1.mono (vw_app 0 H L)⟩⟩
  simp only [go_sem, binC, Option.some.injEq] at hpc
  subst hpc
  have r0c := r0
  have r1c := r1
  obtain ⟨_, x0⟩ := r0.shape
  subst x0
  obtain ⟨_, x1⟩ := r1.shape
  subst x1
  obtain ⟨a, xa⟩ := hu.shape
  subst xa
  have hl : l = [] := by
    cases l with
    | nil => rfl
    | cons x r => exact x.elim
  subst hl
  refine QC.mk hf rfl ?_
  refine seq_reg ?_
  simp only [go_sem, binC]
  refine seq_assoc (seq_reg ?_)
  simp only [go_sem, binC]
  refine seq_block (wpc_loop (lp_step ?_))
  refine seq_reg ?_
  simp only [go_sem, binC]
  refine seq_cond (t := false) (by simp only [go_sem, binC]; rw [decide_eq_false (by simp)]) ?_
  simp only [go_sem, binC]
  refine seq_exit ?_
  simp only [go_sem, binC, thenX_e, out_e, thenX_n]
  refine seq_reg ?_
  simp only [go_sem, binC]
  exact wpc_ret ⟨Or.inr rfl, .bool true, by simp only [go_sem, binC], rfl, rfl⟩
theorem iSteps_all {F : Nat → Option IFn} (hf : F 111 = some c_iSteps) (g1 : VarOk F 85) (g2 : ValOk F 141) (g4 : ∀ (H : Heap) (a : Int), QC F 82 [.int .i64 a] H (.bool (inB a 0 2))) : ∀ n, StepsOk F 111 n := by
  intro n
  induction n with
  | zero => exact iSteps_z hf
  | succ n ih => exact iSteps_succ hf g1 g2 g4 ih
end Go.Proofs.YtbjeldblaclpnaaI
end
section
/- Slices of what is opened with one fuel less. -/
set_option linter.unusedVariables false
set_option linter.unusedSimpArgs false
namespace Go.Proofs.YtbjeldblaclpnaaI
open Go Go.RowKit Go.ChangeShapes
section
variable {T : Type} {enc : TypeId × Value → T} {P : Program} {w : World} {spare : Nat → Bool} {held : Bool}
end
end Go.Proofs.YtbjeldblaclpnaaI
end
section
/- Lists of steps in form: the loops. -/
set_option linter.unusedVariables false
set_option linter.unusedSimpArgs false
namespace Go.Proofs.YtbjeldblaclpnaaI
open Go Go.RowKit
theorem sSteps_ok {F : Nat → Option IFn} {f n : Nat} (hf : F f = some c_sSteps) (g0 : StepOk F 139 n) : StepsOk F f n := by
  rintro H m v u ⟨p0, p1⟩ l d hp0 hu hs hd0 hd3
  obtain ⟨pc, hpc, _, _, rfl, ⟨v0, rfl, r0⟩, ⟨v1, rfl, r1⟩⟩ := hp0
  have hp : ∀ L, Rd (Co.prog m) true (vw 0 (H ++ L)) (.agg #[v0, v1]) (p0, p1) := fun L => ⟨_, rfl, _, _, rfl, ⟨_, rfl, r0.mono (vw_app 0 H L)⟩, ⟨_, rfl, r1.mono (vw_app 0 H L)⟩⟩
  simp only [go_sem, binC, Option.some.injEq] at hpc
  subst hpc
  obtain ⟨_, x0⟩ := r0.shape
  subst x0
  obtain ⟨_, x1⟩ := r1.shape
  subst x1
  have hu' := hu
  obtain ⟨h0, a, rfl, h2⟩ := hu
  refine QC.mk hf rfl ?_
  refine seq_reg ?_
  simp only [go_sem, binC]
  refine seq_assoc (seq_reg ?_)
  simp only [go_sem, binC]
  refine seq_block (wpc_loop ?_)
  suffices h : ∀ (k i : Nat) (e : Env), i + k = l.length → e 1 = .slice a l.length l.length → e 2 = .int .i64 d → e 3 = ptr H.length 0 → e 7 = .int .i64 i → l.all (stepB p0.length n d) = (l.drop i).all (stepB p0.length n d) → W F H.length _ e _ _ from
    h l.length 0 _ (by omega) (by simp only [go_sem, binC]) (by simp only [go_sem, binC]) (by simp only [go_sem, binC]) (by simp only [go_sem, binC]; rfl) rfl
  intro k
  induction k with
  | zero =>
    intro i e hi e1 e2 e3 e7 hall
    refine lp_step ?_
    refine seq_assoc (seq_reg ?_)
    simp only [go_sem, binC, e1, e7]
    refine seq_cond (t := false) (by simp only [go_sem, binC]; rw [decide_eq_false (by omega)]) ?_
    simp only [go_sem, binC]
    refine seq_exit ?_
    simp only [go_sem, binC, thenX_e, out_e, thenX_n]
    refine seq_reg ?_
    simp only [go_sem, binC]
    refine wpc_ret ⟨Or.inr rfl, .bool true, by simp only [go_sem, binC], ?_, rfl⟩
    rw [hall, List.drop_of_length_le (by omega)]
    rfl
  | succ k ih =>
    intro i e hi e1 e2 e3 e7 hall
    have hil : i < l.length := by omega
    rcases h2 with h2 | ⟨b, o, rfl, h2⟩
    · rw [h2] at hil; simp at hil
    obtain ⟨cs, h3, h4⟩ := h2 i hil
    have g3 := fun L => rng_gc (rng_sub (vw_app 0 H L) h3)
    rw [step_w] at g3
    refine lp_step ?_
    refine seq_assoc (seq_reg ?_)
    simp only [go_sem, binC, e1, e7]
    refine seq_cond (t := true) (by simp only [go_sem, binC]; rw [decide_eq_true (by omega)]) ?_
    simp only [go_sem, binC]
    refine seq_skip (seq_block (seq_regD ?_))
    simp only [go_sem, binC, e1, e2, e3, e7, g3]
    refine ⟨⟨by omega, by omega⟩, ?_⟩
    refine op_callB (by simp only [go_sem, binC, e2]; exact g0 _ m _ _ (p0, p1) l[i] d (hp _) ⟨cs, rfl, (Co.step n).mono (vw_app 0 H _) h4⟩ (hs.2 _ (List.getElem_mem _)) hd0 hd3) (fun hb => ?_) (fun hb => ?_)
    · simp only [go_sem, binC]
      refine wpc_cond (t := false) (by simp only [go_sem, binC]) ?_
      simp only [go_sem, binC]
      refine wpc_skip ?_
      simp only [go_sem, binC, out_n, thenX_n]
      refine wpc_reg ?_
      simp only [go_sem, binC, e7]
      have hw1 : IntKind.i64.wrap ((i : Int) + 1) = ((i + 1 : Nat) : Int) := by rw [wrap_id (by omega) (by omega)]; omega
      rw [hw1]
      refine ih (i + 1) _ (by omega) (by simp only [go_sem, binC, e1]) (by simp only [go_sem, binC, e2]) (by simp only [go_sem, binC, e3]) (by simp only [go_sem, binC]) ?_
      rw [hall, List.drop_eq_getElem_cons hil, List.all_cons, hb, Bool.true_and]
    · simp only [go_sem, binC]
      refine wpc_cond (t := true) (by simp only [go_sem, binC]) ?_
      simp only [go_sem, binC]
      refine seq_reg ?_
      simp only [go_sem, binC]
      refine wpc_ret ?_
      simp only [go_sem, binC, out_r, thenX_r]
      refine ⟨Or.inr rfl, .bool false, by simp only [go_sem, binC], ?_, rfl⟩
      rw [hall, List.drop_eq_getElem_cons hil, List.all_cons, hb, Bool.false_and]
theorem sSteps_all {F : Nat → Option IFn} (hf : F 139 = some c_sStep) (hfs : F 106 = some c_sSteps) (g0 : InOk F 79) (g1 : VarOk F 147) (g2 : ValOk F 148) : ∀ n, StepsOk F 106 n ∧ StepOk F 139 n := by
  intro n
  induction n with
  | zero =>
    have z : StepOk F 139 0 := by
      rintro H m v u p a d _ ⟨_, _, h⟩
      exact h.elim
    exact ⟨sSteps_ok hfs z, z⟩
  | succ n ih =>
    have z := sStep_ok hf g0 g1 g2 ih.1
    exact ⟨sSteps_ok hfs z, z⟩
end Go.Proofs.YtbjeldblaclpnaaI
end
end
section
/- What a seat with drawn programs rests on. -/
end
section
/- Numbers of a program's variables: as many, each a number. -/
set_option linter.unusedVariables false
set_option linter.unusedSimpArgs false
namespace Go.Proofs.YtbjeldblaclpnaaI
open Go Go.RowKit
end Go.Proofs.YtbjeldblaclpnaaI
end
section
/- Values of numbers; what comes of a program, as memory. -/
set_option linter.unusedVariables false
set_option linter.unusedSimpArgs false
namespace Go.Proofs.YtbjeldblaclpnaaI
open Go Go.RowKit
def c_vars : IFn := ⟨1, 18, [.t 2],
 .seq (.reg none [
    ⟨(some 1), none, .box (.t 0)⟩,
    ⟨(some 2), none, .mov (.c (.slice none 0 0))⟩])
 (.seq (.seq (.reg none [
     ⟨(some 3), none, .fad 0 (.t 1)⟩,
     ⟨(some 4), none, .load false 1 (.t 3)⟩])
  (.block 0 (.seq (.reg none [
      ⟨(some 6), none, .bin .eql (.t 4) (.c (.int .i64 2))⟩,
      ⟨(some 5), none, .mov (.t 6)⟩])
   (.cond (.t 5) (.seq (.reg none [
       ⟨(some 7), none, .fad 1 (.t 1)⟩,
       ⟨(some 8), none, .load false 1 (.t 7)⟩,
       ⟨(some 9), none, .lit 1 3 1 [(.int .i64 0)] [(0, 1, (.t 8))]⟩,
       ⟨(some 2), none, .mov (.t 9)⟩])
    (.ret)) (.seq (.seq (.reg none [
        ⟨(some 11), none, .bin .eql (.t 4) (.c (.int .i64 3))⟩,
        ⟨(some 10), none, .mov (.t 11)⟩])
     (.cond (.t 10) (.skip) (.reg none [
        ⟨(some 12), none, .bin .eql (.t 4) (.c (.int .i64 4))⟩,
        ⟨(some 10), none, .mov (.t 12)⟩])))
    (.cond (.t 10) (.seq (.reg none [
        ⟨(some 13), none, .fad 1 (.t 1)⟩,
        ⟨(some 14), none, .load false 1 (.t 13)⟩,
        ⟨(some 15), none, .fad 2 (.t 1)⟩,
        ⟨(some 16), none, .load false 1 (.t 15)⟩,
        ⟨(some 17), none, .lit 1 3 2 [(.int .i64 0), (.int .i64 0)] [(0, 1, (.t 14)), (1, 1, (.t 16))]⟩,
        ⟨(some 2), none, .mov (.t 17)⟩])
     (.ret)) (.skip)))))))
 (.seq (.reg none [
    ⟨(some 2), none, .mov (.c (.slice none 0 0))⟩])
 (.ret)))⟩
def varsL (v : Int × Int × Int) : List Int := if v.1 = 2 then [v.2.1] else if v.1 = 3 ∨ v.1 = 4 then [v.2.1, v.2.2] else []
def ints (l : List Int) : List Value := l.map (fun n => .int .i64 n)
theorem ints_sl {H : Heap} {b o es et lo : Nat} {ap so : Bool} {xs : List Nat} {l : List Int} (h : H[b]? = some ⟨ints l, es, et, ap, so⟩) (hlo : lo ≤ b) (hb : b ∉ xs) (hr : ∀ x ∈ l, RgI x) (ho : o ≤ l.length) (hl : l.length ≤ 9223372036854775807) : SlR Co.int (vwl lo xs H) (.slice (some ⟨b, o, none⟩) (l.drop o).length (l.drop o).length) (l.drop o) := by
  refine ⟨by rw [List.length_drop]; omega, _, rfl, .inr ⟨b, o, rfl, fun i hi => ⟨[.int .i64 (l.drop o)[i]], ?_, rfl, hr _ (List.mem_of_mem_drop (List.getElem_mem hi))⟩⟩⟩
  rw [List.length_drop] at hi
  unfold rng vwl
  rw [if_pos ⟨hlo, hb⟩, h]
  simp only [Option.map_some, Co.int, ints, List.length_map]
  rw [if_pos (by omega)]
  have h1 : ((l.map (fun n => Value.int .i64 n)).drop (o + i * 1)).head? = some (.int .i64 (l.drop o)[i]) := by
    rw [List.head?_drop, List.getElem?_map, List.getElem?_eq_getElem (by omega), List.getElem_drop]
    simp
  cases hd : (l.map (fun n => Value.int .i64 n)).drop (o + i * 1) with
  | nil => rw [hd] at h1; cases h1
  | cons c r => rw [hd] at h1; simp only [List.head?_cons, Option.some.injEq] at h1; subst h1; rfl
theorem ints_sl0 {H : Heap} {b es et : Nat} {ap so : Bool} {l : List Int} (h : H[b]? = some ⟨ints l, es, et, ap, so⟩) (hr : ∀ x ∈ l, RgI x) (hl : l.length ≤ 9223372036854775807) : SlR Co.int (vw 0 H) (sli b 0 l.length) l :=
  (ints_sl (lo := 0) (xs := []) (o := 0) h (Nat.zero_le _) (by simp) hr (Nat.zero_le _) hl).mono (vwl0 _ _ _)
theorem vars_okV {F : Nat → Option IFn} {f : Nat} (hf : F f = some c_vars) : ∀ (H : Heap) (k a b : Int), RgI a → RgI b → ∃ w L, KC F f [.agg #[.int .i64 k, .int .i64 a, .int .i64 b]] H w (H ++ L) ∧ SlR Co.int (vwl H.length [] (H ++ L)) w (varsL (k, a, b)) := by
  intro H k a b ha hb
  suffices h : ∃ w H', KC F f [.agg #[.int .i64 k, .int .i64 a, .int .i64 b]] H w H' ∧ (∃ L, H' = H ++ L ∧ SlR Co.int (vwl H.length [] H') w (varsL (k, a, b))) by
    obtain ⟨w, _, h1, L, rfl, h2⟩ := h
    exact ⟨w, L, h1, h2⟩
  refine KC.mk hf rfl ?_
  refine seq_reg ?_
  simp only [go_sem, binC]
  refine seq_assoc (seq_reg ?_)
  simp only [go_sem, binC]
  refine seq_block (seq_reg ?_)
  simp only [go_sem, binC]
  by_cases h2 : k = 2
  · simp only [go_sem, binC, beq_t h2]
    refine wpc_cond (t := true) rfl ?_
    simp only [go_sem, binC]
    refine seq_reg ?_
    simp only [go_sem, binC]
    refine wpc_ret ?_
    simp only [go_sem, binC, out_r, thenX_r]
    refine ⟨Or.inr rfl, _, (by (simp only [go_sem, binC]) <;> rfl), _, rfl, ?_⟩
    have h1 : varsL (k, a, b) = [a] := by simp [varsL, h2]
    rw [h1]
    exact ints_sl (o := 0) (lo := H.length) (xs := []) (l := [a]) (get_new _ _ 1) (by omega) (by simp) (by intro x hx; simp at hx; subst hx; exact ha) (Nat.zero_le _) (by simp)
  simp only [go_sem, binC, beq_f h2]
  refine wpc_cond (t := false) rfl ?_
  simp only [go_sem, binC]
  refine seq_assoc (seq_reg ?_)
  simp only [go_sem, binC]
  have two : ∀ (e : Env) (K : X → Env → Heap → Prop), True := fun _ _ => trivial
  by_cases h3 : k = 3
  · simp only [go_sem, binC, beq_t h3]
    refine seq_cond (t := true) rfl ?_
    simp only [go_sem, binC]
    refine seq_skip (wpc_cond (t := true) rfl ?_)
    simp only [go_sem, binC]
    refine seq_reg ?_
    simp only [go_sem, binC]
    refine wpc_ret ?_
    simp only [go_sem, binC, out_r, thenX_r]
    refine ⟨Or.inr rfl, _, (by (simp only [go_sem, binC]) <;> rfl), _, rfl, ?_⟩
    have h1 : varsL (k, a, b) = [a, b] := by simp [varsL, h3]
    rw [h1]
    exact ints_sl (o := 0) (lo := H.length) (xs := []) (l := [a, b]) (get_new _ _ 1) (by omega) (by simp) (by intro x hx; simp at hx; rcases hx with rfl | rfl; exact ha; exact hb) (Nat.zero_le _) (by simp)
  simp only [go_sem, binC, beq_f h3]
  refine seq_cond (t := false) rfl ?_
  simp only [go_sem, binC]
  by_cases h4 : k = 4
  · refine seq_reg ?_
    simp only [go_sem, binC, beq_t h4]
    refine wpc_cond (t := true) rfl ?_
    simp only [go_sem, binC]
    refine seq_reg ?_
    simp only [go_sem, binC]
    refine wpc_ret ?_
    simp only [go_sem, binC, out_r, thenX_r]
    refine ⟨Or.inr rfl, _, (by (simp only [go_sem, binC]) <;> rfl), _, rfl, ?_⟩
    have h1 : varsL (k, a, b) = [a, b] := by simp [varsL, h4]
    rw [h1]
    exact ints_sl (o := 0) (lo := H.length) (xs := []) (l := [a, b]) (get_new _ _ 1) (by omega) (by simp) (by intro x hx; simp at hx; rcases hx with rfl | rfl; exact ha; exact hb) (Nat.zero_le _) (by simp)
  refine seq_reg ?_
  simp only [go_sem, binC, beq_f h4]
  refine wpc_cond (t := false) rfl ?_
  simp only [go_sem, binC]
  refine wpc_skip ?_
  simp only [go_sem, binC, out_n, thenX_n]
  refine seq_reg ?_
  simp only [go_sem, binC]
  refine wpc_ret ⟨Or.inr rfl, _, (by (simp only [go_sem, binC]) <;> rfl), _, rfl, ?_⟩
  have h1 : varsL (k, a, b) = [] := by simp [varsL, h2, h3, h4]
  rw [h1]
  exact ⟨by simp, none, rfl, .inl rfl⟩
theorem gcI0 {H : Heap} {v : Value} {l : List Int} (h : SlR Co.int (vw 0 H) v l) {i : Nat} (hi : i < l.length) : ∃ b o, v = .slice (some ⟨b, o, none⟩) l.length l.length ∧ getCells H b (o + i) 1 = some [.int .i64 l[i]] := by
  obtain ⟨_, a, rfl, h2⟩ := h
  rcases h2 with h2 | ⟨b, o, rfl, h2⟩
  · rw [h2] at hi; simp at hi
  · obtain ⟨cs, h3, h4, _⟩ := h2 i hi
    have h5 := rng_gc h3
    rw [show Co.int.w = 1 from rfl, Nat.mul_one, h4] at h5
    exact ⟨b, o, rfl, h5⟩
end Go.Proofs.YtbjeldblaclpnaaI
end
section
/- What comes of a program, kept in memory, and one variable set. -/
set_option linter.unusedVariables false
set_option linter.unusedSimpArgs false
namespace Go.Proofs.YtbjeldblaclpnaaI
open Go Go.RowKit
def blkOf : Value → List Nat
  | .slice (some a) _ _ => [a.block]
  | _ => []
theorem ints_set {l : List Int} (i : Nat) (x : Int) : (ints l).set i (.int .i64 x) = ints (l.set i x) := List.map_set.symm
theorem wpc_genH {F : Nat → Option IFn} {lo : Nat} {c : ICode} {e : Env} {H : Heap} {K : X → Env → Heap → Prop} (h : ∀ Hb, Hb = H → wpc F lo c e Hb K) : wpc F lo c e H K := h _ rfl
end Go.Proofs.YtbjeldblaclpnaaI
end
section
/- Steps are done. -/
set_option linter.unusedVariables false
set_option linter.unusedSimpArgs false
namespace Go.Proofs.YtbjeldblaclpnaaI
open Go Go.RowKit
theorem inB_iff' {a l h : Int} : inB a l h = true ↔ l ≤ a ∧ a ≤ h := by simp [inB]
theorem varsL_in {k : Nat} {v : Int × Int × Int} (hv : valB k v = true) : ∀ i ∈ varsL v, 0 ≤ i ∧ i < k := by
  obtain ⟨a, b, c⟩ := v
  unfold valB at hv
  simp only [varsL]
  intro i hi
  split at hv
  · rename_i q; simp only at q; subst q; simp at hi
  · split at hv
    · rename_i q; simp only at q; subst q
      simp only [if_true, List.mem_singleton, Bool.and_eq_true, varB, inB_iff'] at hi hv
      subst hi; omega
    · split at hv
      · rename_i q1 q2 q3
        simp only at q1 q2 q3
        rw [if_neg q2, if_pos q3] at hi
        simp only [Bool.and_eq_true, varB, inB_iff'] at hv
        simp only [List.mem_cons, List.not_mem_nil, or_false] at hi
        rcases hi with rfl | rfl <;> omega
      · cases hv
end Go.Proofs.YtbjeldblaclpnaaI
end
section
/- What comes of a program. -/
set_option linter.unusedVariables false
set_option linter.unusedSimpArgs false
namespace Go.Proofs.YtbjeldblaclpnaaI
open Go Go.RowKit
end Go.Proofs.YtbjeldblaclpnaaI
end
section
/- Rules for walks, and lists compared. -/
set_option linter.unusedVariables false
set_option linter.unusedSimpArgs false
namespace Go.Proofs.YtbjeldblaclpnaaI
open Go Go.RowKit
theorem frees_cons {lo : Nat} {H Hm : Heap} {k : Nat} {d : Option Nat} {op : IOp} {r : List IOper} {e e1 : Env} (v : Value) (h1 : iop lo op e H = some (v, H)) (h2 : iop lo op e Hm = some (v, Hm)) (h3 : frees lo H Hm k r (putE e d v) e1) : frees lo H Hm (k + 1) (⟨d, none, op⟩ :: r) e e1 := ⟨rfl, v, h1, h2, h3⟩
theorem iop_load {lo n : Nat} {x : Opd} {e : Env} {H : Heap} {b o : Nat} {cs : List Value} (hx : x.ev e = ptr b o) (hg : getCells H b o n = some cs) : iop lo (.load true n x) e H = some (.agg cs.toArray, H) := by
  simp only [iop, hx, ptr, hg, Option.bind_some, valOf, if_true, Option.map_some]
theorem wpc_genE {F : Nat → Option IFn} {lo : Nat} {c : ICode} {e : Env} {H : Heap} {K : X → Env → Heap → Prop} (h : ∀ e0, e0 = e → wpc F lo c e0 H K) : wpc F lo c e H K := h _ rfl
def LawB (F : Nat → Option IFn) (f : Nat) : Prop := ∀ (H : Heap) (v : Value) (code : List Int), SlR Co.byte (vw 0 H) v code → QC F f [v] H (.bool true)
def IntsOk (F : Nat → Option IFn) (f : Nat) : Prop := ∀ (H : Heap) (v w : Value) (l l' : List Int), SlR Co.int (vw 0 H) v l → SlR Co.int (vw 0 H) w l' → QC F f [v, w] H (.bool (decide (l = l')))
def c_lcInts : IFn := ⟨2, 26, [.t 4],
 .seq (.reg none [
    ⟨(some 4), none, .mov (.c (.bool false))⟩])
 (.seq (.seq (.reg none [
     ⟨(some 6), none, .mov (.t 0)⟩,
     ⟨(some 7), none, .len (.t 6)⟩,
     ⟨(some 8), none, .mov (.t 1)⟩,
     ⟨(some 9), none, .len (.t 8)⟩,
     ⟨(some 10), none, .bin .neq (.t 7) (.t 9)⟩])
  (.cond (.t 10) (.seq (.reg none [
      ⟨(some 4), none, .mov (.c (.bool false))⟩])
   (.ret)) (.skip)))
 (.seq (.seq (.reg none [
     ⟨(some 5), none, .mov (.c (.int .i64 0))⟩])
  (.block 0 (.loop (.seq (.seq (.reg none [
        ⟨(some 11), none, .mov (.t 5)⟩,
        ⟨(some 12), none, .mov (.t 0)⟩,
        ⟨(some 13), none, .len (.t 12)⟩,
        ⟨(some 14), none, .bin .lss (.t 11) (.t 13)⟩])
     (.cond (.t 14) (.skip) (.exit 0)))
    (.seq (.block 1 (.seq (.reg (some 8) [
         ⟨(some 17), none, .mov (.t 0)⟩,
         ⟨(some 18), none, .mov (.t 5)⟩,
         ⟨(some 19), none, .iad 1 (.t 17) (.t 18)⟩,
         ⟨(some 20), none, .load false 1 (.t 19)⟩,
         ⟨(some 21), none, .mov (.t 1)⟩,
         ⟨(some 22), none, .mov (.t 5)⟩,
         ⟨(some 23), none, .iad 1 (.t 21) (.t 22)⟩,
         ⟨(some 24), none, .load false 1 (.t 23)⟩,
         ⟨(some 25), none, .bin .neq (.t 20) (.t 24)⟩])
      (.cond (.t 25) (.seq (.reg none [
          ⟨(some 4), none, .mov (.c (.bool false))⟩])
       (.ret)) (.skip))))
    (.reg none [
      ⟨(some 15), none, .mov (.t 5)⟩,
      ⟨(some 16), none, .bin .add (.t 15) (.c (.int .i64 1))⟩,
      ⟨(some 5), none, .mov (.t 16)⟩]))))))
 (.seq (.reg none [
    ⟨(some 4), none, .mov (.c (.bool true))⟩])
 (.ret))))⟩
theorem lcInts_ok {F : Nat → Option IFn} {f : Nat} (hf : F f = some c_lcInts) : IntsOk F f := by
  intro H v w l l' hv hw
  obtain ⟨h0, a, rfl, _⟩ := id hv
  obtain ⟨h0', a', rfl, _⟩ := id hw
  refine QC.mk hf rfl ?_
  refine seq_reg ?_
  simp only [go_sem, binC]
  by_cases hl : l.length = l'.length
  rotate_left
  · have hne : ((l.length : Int) != (l'.length : Int)) = true := by simp; omega
    refine seq_assoc (seq_reg ?_)
    simp only [go_sem, binC, hne]
    refine seq_cond (t := true) rfl ?_
    simp only [go_sem, binC]
    refine seq_assoc (seq_reg ?_)
    simp only [go_sem, binC]
    refine seq_ret ⟨Or.inr rfl, .bool false, by simp only [go_sem, binC], ?_, rfl⟩
    rw [decide_eq_false (fun h => hl (by rw [h]))]
  have hne : ((l.length : Int) != (l'.length : Int)) = false := by simp; omega
  refine seq_assoc (seq_reg ?_)
  simp only [go_sem, binC, hne]
  refine seq_cond (t := false) rfl ?_
  simp only [go_sem, binC]
  refine seq_skip (seq_assoc (seq_reg ?_))
  simp only [go_sem, binC]
  refine seq_block (wpc_loop ?_)
  suffices h : ∀ (k i : Nat) (e : Env), i + k = l.length → e 0 = .slice a l.length l.length → e 1 = .slice a' l'.length l'.length → e 5 = .int .i64 i → (l = l' ↔ l.drop i = l'.drop i) → W F H.length _ e _ _ from
    h l.length 0 _ (by omega) (by simp only [go_sem, binC]) (by simp only [go_sem, binC]) (by (simp only [go_sem, binC]) <;> rfl) (by simp)
  intro k
  induction k with
  | zero =>
    intro i e hi e0 e1 e5 heq
    refine lp_step ?_
    refine seq_assoc (seq_reg ?_)
    simp only [go_sem, binC, e0, e5]
    refine seq_cond (t := false) (by simp only [go_sem, binC]; rw [decide_eq_false (by omega)]) ?_
    simp only [go_sem, binC]
    refine seq_exit ?_
    simp only [go_sem, binC, thenX_e, out_e, thenX_n]
    refine seq_reg ?_
    simp only [go_sem, binC]
    refine wpc_ret ⟨Or.inr rfl, .bool true, by simp only [go_sem, binC], ?_, rfl⟩
    rw [decide_eq_true (heq.2 (by rw [List.drop_of_length_le (by omega), List.drop_of_length_le (by omega)]))]
  | succ k ih =>
    intro i e hi e0 e1 e5 heq
    have hil : i < l.length := by omega
    have hil' : i < l'.length := by omega
    obtain ⟨b, o, hv1, hg⟩ := gcI0 hv hil
    obtain ⟨b', o', hv2, hg'⟩ := gcI0 hw hil'
    simp only [Value.slice.injEq, and_true] at hv1 hv2
    subst hv1 hv2
    have hw1 : IntKind.i64.wrap ((i : Int) + 1) = ((i + 1 : Nat) : Int) := by rw [wrap_id (by omega) (by omega)]; omega
    rw [List.drop_eq_getElem_cons hil, List.drop_eq_getElem_cons hil', List.cons.injEq] at heq
    refine lp_step ?_
    refine seq_assoc (seq_reg ?_)
    simp only [go_sem, binC, e0, e5]
    refine seq_cond (t := true) (by simp only [go_sem, binC]; rw [decide_eq_true (by omega)]) ?_
    simp only [go_sem, binC]
    refine seq_skip (seq_block (seq_regD ?_))
    simp only [go_sem, binC, e0, e5]
    refine ⟨⟨by omega, by omega⟩, ?_⟩
    simp only [go_sem, binC, Int.toNat_natCast, Nat.mul_one, hg, e1, e5]
    refine ⟨⟨by omega, by omega⟩, ?_⟩
    simp only [go_sem, binC, Int.toNat_natCast, Nat.mul_one, hg']
    by_cases hq : l[i] = l'[i]
    · have hb : (l[i] != l'[i]) = false := by rw [hq]; exact bne_self_eq_false _
      simp only [go_sem, binC, hb]
      refine wpc_cond (t := false) (by (simp only [go_sem, binC]) <;> rfl) ?_
      simp only [go_sem, binC]
      refine wpc_skip ?_
      simp only [go_sem, binC, out_n, thenX_n]
      refine wpc_reg ?_
      simp only [go_sem, binC, e5, hw1]
      simp only [go_sem, binC, thenX_n]
      exact ih (i + 1) _ (by omega) (by simp only [go_sem, binC, e0]) (by simp only [go_sem, binC, e1]) (by simp only [go_sem, binC]) (by rw [heq]; exact ⟨fun h => h.2, fun h => ⟨hq, h⟩⟩)
    · have hb : (l[i] != l'[i]) = true := by simpa using hq
      simp only [go_sem, binC, hb]
      refine wpc_cond (t := true) (by (simp only [go_sem, binC]) <;> rfl) ?_
      simp only [go_sem, binC]
      refine seq_reg ?_
      simp only [go_sem, binC]
      refine wpc_ret ?_
      simp only [go_sem, binC, out_r, thenX_r]
      refine ⟨Or.inr rfl, .bool false, by simp only [go_sem, binC], ?_, rfl⟩
      rw [decide_eq_false (fun h => hq (heq.1 h).1)]
theorem wpo_app {F : Nat → Option IFn} {lo : Nat} {K : Env → Heap → Prop} {l2 : List IOper} : ∀ (l1 : List IOper) (e : Env) (H : Heap), wpo F lo l1 e H (fun e1 H1 => wpo F lo l2 e1 H1 K) → wpo F lo (l1 ++ l2) e H K
  | [], e, H, h => h
  | o :: r, e, H, h => ⟨fun hr => wpOp_mono (h.1 hr) fun v H1 h1 => wpo_app r _ _ h1, fun hr => wpo_app r _ _ (h.2 hr)⟩
theorem wpo_cut {F : Nat → Option IFn} {lo : Nat} {K : Env → Heap → Prop} {l : List IOper} {e : Env} {H : Heap} (a : Nat)
    (h : ∀ Kc : Env → Heap → Prop, (∀ e1 H1, wpo F lo (l.drop a) e1 H1 K → Kc e1 H1) → wpo F lo (l.take a) e H Kc) : wpo F lo l e H K := by
  have h3 := wpo_app (l2 := l.drop a) (l.take a) e H (h (fun e1 H1 => wpo F lo (l.drop a) e1 H1 K) fun _ _ h => h)
  rwa [List.take_append_drop] at h3
def c_l6Open : IFn := ⟨1, 11, [.t 2],
 .seq (.reg none [
    ⟨(some 2), none, .mov (.c (.pointer none))⟩])
 (.seq (.seq (.reg none [
     ⟨(some 3), none, .mov (.t 0)⟩,
     ⟨(some 4), none, .len (.t 3)⟩,
     ⟨(some 5), none, .bin .gtr (.t 4) (.c (.int .i64 2000))⟩])
  (.cond (.t 5) (.reg none [
     ⟨(some 6), none, .mov (.t 0)⟩,
     ⟨(some 7), none, .sub 1 (.t 6) none (some (.c (.int .i64 2000)))⟩,
     ⟨(some 0), none, .mov (.t 7)⟩]) (.skip)))
 (.seq (.reg none [
    ⟨(some 8), none, .mov (.t 0)⟩,
    ⟨(some 9), none, .build [(.slice none 0 0), (.int .i64 0)] [(0, 1, (.t 8))]⟩,
    ⟨(some 10), none, .box (.t 9)⟩,
    ⟨(some 2), none, .mov (.t 10)⟩])
 (.ret)))⟩
/-- A code opened: a reader in a new block. -/
theorem l6Open_ok {F : Nat → Option IFn} {f : Nat} (hf : F f = some c_l6Open) {H : Heap} {v : Value} {code : List Int} (hv : SlR Co.byte (vw 0 H) v code) (lo : Nat) (hlo : lo ≤ H.length) : ∃ bv code', NC F lo f [v] H (ptr H.length 0) (H ++ [rBlk bv 0]) ∧ RdC H H.length bv code' ∧ St H H.length bv 0 (H ++ [rBlk bv 0]) := by
  have hv0 := hv
  obtain ⟨h0, a, rfl, h1⟩ := hv
  have hst : ∀ bv, St H H.length bv 0 (H ++ [rBlk bv 0]) := fun bv => ⟨fun b _ hb => List.getElem?_append_left hb, get_new0 _ _⟩
  by_cases hl : 2000 < (code.length : Int)
  · obtain ⟨b, o, rfl, h2⟩ := h1.resolve_left (fun h => by rw [h] at hl; simp at hl)
    refine ⟨sli b o 2000, code.take 2000, ?_, ⟨Nat.le_refl _, ⟨by rw [List.length_take]; omega, some ⟨b, o, none⟩, by rw [List.length_take, Nat.min_eq_left (by omega)]; rfl, .inr ⟨b, o, rfl, fun i hi => ?_⟩⟩, by rw [List.length_take]; omega⟩, hst _⟩
    · refine NC.mkE hf rfl ?_
      refine seq_reg ?_
      simp only [go_sem, binC]
      refine seq_assoc (seq_reg ?_)
      simp only [go_sem, binC]
      refine seq_cond (t := true) (by simp only [go_sem, binC]; rw [decide_eq_true hl]) ?_
      simp only [go_sem, binC]
      refine seq_reg ?_
      have hsub : ∀ e' : Env, subV 1 (.slice (some ⟨b, o, none⟩) code.length code.length) e' none (some (.c (.int .i64 2000))) = some (sli b o 2000) := fun e' => by
        have h3 : (2000 : Int) ≤ code.length := by omega
        simp [subV, sli, subB, Opd.ev, h3]
      simp only [go_sem, binC, hsub]
      refine seq_reg ?_
      simp only [go_sem, binC]
      exact wpc_ret ⟨Or.inr rfl, _, (by (simp only [go_sem, binC]) <;> rfl), rfl, rfl⟩
    · rw [List.length_take] at hi
      obtain ⟨cs, h3, h4⟩ := h2 i (by omega)
      refine ⟨cs, h3, ?_⟩
      rw [List.getElem_take]
      exact h4
  · refine ⟨.slice a code.length code.length, code, ?_, ⟨Nat.le_refl _, hv0, by omega⟩, hst _⟩
    refine NC.mkE hf rfl ?_
    refine seq_reg ?_
    simp only [go_sem, binC]
    refine seq_assoc (seq_reg ?_)
    simp only [go_sem, binC]
    refine seq_cond (t := false) (by simp only [go_sem, binC]; rw [decide_eq_false hl]) ?_
    simp only [go_sem, binC]
    refine seq_skip (seq_reg ?_)
    simp only [go_sem, binC]
    exact wpc_ret ⟨Or.inr rfl, _, (by (simp only [go_sem, binC]) <;> rfl), rfl, rfl⟩
end Go.Proofs.YtbjeldblaclpnaaI
end
section
/- Lists that are made by appending, from nil on: their cells, and what their elements are. -/
set_option linter.unusedVariables false
set_option linter.unusedSimpArgs false
namespace Go.Proofs.YtbjeldblaclpnaaI
open Go Go.RowKit
/-- A list in a block of its own (or nil), its elements read in V. -/
def LsV {α : Type} (V : Vw) (A : Co α) (es et lo : Nat) (H : Heap) (v : Value) (l : List α) : Prop := (v = nilS ∧ l = []) ∨ ∃ b so cs, lo ≤ b ∧ v = sli b 0 l.length ∧ l ≠ [] ∧ l.length ≤ 1048576 ∧ H[b]? = some ⟨cs, es, et, true, so⟩ ∧ cs.length = l.length * es ∧ ∀ i (h : i < l.length), A.rd V ((cs.drop (i * es)).take es) l[i]
section
variable {α : Type} {V : Vw} {A : Co α} {es et lo : Nat} {H : Heap} {v : Value} {l : List α}
theorem LsV.nil : LsV V A es et lo H nilS ([] : List α) := .inl ⟨rfl, rfl⟩
theorem LsV.one (h : LsV V A es et lo H v l) : Go.Proofs.YtbjeldblaclpnaaI.one v = true := by
  rcases h with ⟨rfl, _⟩ | ⟨b, so, cs, _, rfl, _⟩ <;> rfl
theorem LsV.shape (h : LsV V A es et lo H v l) : ∃ a, v = .slice a l.length l.length := by
  rcases h with ⟨rfl, rfl⟩ | ⟨b, so, cs, _, rfl, _⟩
  · exact ⟨none, rfl⟩
  · exact ⟨_, rfl⟩
theorem LsV.keep {H' : Heap} {lo' : Nat} {xs : List Nat} (h : LsV V A es et lo H v l) (hl : lo' ≤ lo) (hx : AgX xs H H') (hn : ∀ b, b ∈ blkOf v → b ∉ xs) : LsV V A es et lo' H' v l := by
  rcases h with h | ⟨b, so, cs, h1, rfl, h3, h4, h5, h6⟩
  · exact .inl h
  · exact .inr ⟨b, so, cs, by omega, rfl, h3, h4, hx.get h5 (hn b (by simp [blkOf, sli])), h6⟩
theorem LsV.mono {V' : Vw} (h : LsV V A es et lo H v l) (hs : Sub V V') : LsV V' A es et lo H v l := by
  rcases h with h | ⟨b, so, cs, h1, rfl, h3, h4, h5, h6, h7⟩
  · exact .inl h
  · exact .inr ⟨b, so, cs, h1, rfl, h3, h4, h5, h6, fun i hi => A.mono hs (h7 i hi)⟩
theorem LsV.blk (h : LsV V A es et lo H v l) {b : Nat} (hb : b ∈ blkOf v) : lo ≤ b ∧ b < H.length ∧ ∃ cs so, H[b]? = some ⟨cs, es, et, true, so⟩ := by
  rcases h with ⟨rfl, _⟩ | ⟨b', so, cs, h1, rfl, h3, h4, h5, h6⟩
  · simp [blkOf, nilS] at hb
  · simp only [blkOf, sli, List.mem_singleton] at hb
    subst hb
    exact ⟨h1, (List.getElem?_eq_some_iff.1 h5).1, cs, so, h5⟩
theorem LsV.nbox (h : LsV V A es et lo H v l) {b : Nat} {cs : List Value} {x y : Nat} {so : Bool} (hb : H[b]? = some ⟨cs, x, y, false, so⟩) : b ∉ blkOf v := fun hm => by
  obtain ⟨_, _, cs', so', h'⟩ := h.blk hm
  rw [hb] at h'
  simp at h'
theorem LsV.sl (h : LsV V A es et lo H v l) (hw : A.w = es) (hs : Sub V (vw 0 H)) : SlR A (vw 0 H) v l := by
  rcases h with ⟨rfl, rfl⟩ | ⟨b, so, cs, h1, rfl, h3, h4, h5, h6, h7⟩
  · exact ⟨by simp, none, rfl, .inl rfl⟩
  · refine ⟨by omega, _, rfl, .inr ⟨b, 0, rfl, fun i hi => ⟨_, ?_, A.mono hs (h7 i hi)⟩⟩⟩
    have hi2 : i * es + es ≤ l.length * es := by rw [← Nat.succ_mul]; exact Nat.mul_le_mul_right _ hi
    unfold rng vw
    rw [if_pos (Nat.zero_le _), h5, hw]
    simp only [Option.map_some, Nat.zero_add]
    rw [if_pos (by omega)]
theorem LsV.at (h : LsV V A es et lo H v l) {i : Nat} (hi : i < l.length) : ∃ b cs, v = .slice (some ⟨b, 0, none⟩) l.length l.length ∧ getCells H b (i * es) es = some cs ∧ A.rd V cs l[i] := by
  rcases h with ⟨rfl, rfl⟩ | ⟨b, so, cs, h1, rfl, h3, h4, h5, h6, h7⟩
  · simp at hi
  · have hi2 : i * es + es ≤ l.length * es := by rw [← Nat.succ_mul]; exact Nat.mul_le_mul_right _ hi
    refine ⟨b, _, rfl, ?_, h7 i hi⟩
    unfold getCells
    rw [h5]
    simp only
    rw [if_pos (by omega)]
/-- The blocks that the list may lie in behind an appending. -/
def BlkN (H : Heap) (v w : Value) : Prop := ∀ b, b ∈ blkOf w → b ∈ blkOf v ∨ H.length ≤ b
theorem cells_of {cs : List Value} {m b o : Nat} {Hx : Heap} (h : getCells Hx b o m = some cs) : cs.length = m := by
  unfold getCells at h
  split at h
  · split at h
    · simp only [Option.some.injEq] at h
      subst h
      rw [List.length_take, List.length_drop]
      omega
    · cases h
  · cases h
theorem take_es {cs ys : List Value} {n i es : Nat} (h : cs.length = n * es) (hi : i < n) : ((cs ++ ys).drop (i * es)).take es = (cs.drop (i * es)).take es := by
  have hi2 : i * es + es ≤ n * es := by rw [← Nat.succ_mul]; exact Nat.mul_le_mul_right _ hi
  rw [List.drop_append_of_le_length (by omega), List.take_append_of_le_length (by rw [List.length_drop]; omega)]
theorem drop_es {cs ys : List Value} {n i es : Nat} (h : cs.length = n * es) : ((cs ++ ys).drop ((n + i) * es)).take es = (ys.drop (i * es)).take es := by
  rw [List.drop_append, List.drop_of_length_le (by rw [h]; exact Nat.mul_le_mul_right _ (by omega)), List.nil_append, h, Nat.add_mul, Nat.add_sub_cancel_left]
/-- A list is appended whose cells are at hand. -/
theorem op_app_lsC {F : Nat → Option IFn} {lo0 bytes m c2 b2 o2 : Nat} {x y : Opd} {e : Env} {ys : List Value} {l2 : List α} {K : Value → Heap → Prop} (hv : LsV V A es et lo H v l) (hx : x.ev e = v) (hy : y.ev e = .slice (some ⟨b2, o2, none⟩) l2.length c2) (hne : l2 ≠ []) (hg : getCells H b2 o2 (l2.length * es) = some ys)
    (hr : ∀ i (h : i < l2.length), A.rd V ((ys.drop (i * es)).take es) l2[i]) (hlo0 : lo0 ≤ lo) (hlo : lo ≤ H.length) (hl : l.length + l2.length ≤ 1048576) (hb : bytes ≤ 1048576)
    (k : ∀ H' w', AgX (blkOf v) H H' → CA H H' → BlkN H v w' → LsV V A es et lo H' w' (l ++ l2) → K w' H') : wpOp F lo0 (.app es et bytes false x y) e H K := by
  have hm : l2.length ≠ 0 := fun h => hne (List.eq_nil_of_length_eq_zero h)
  have hyl := cells_of hg
  have hbytes : (l.length + l2.length) * bytes ≤ 1048576 * 1048576 := Nat.mul_le_mul hl hb
  have hne2 : l ++ l2 ≠ [] := fun h => hne (List.append_eq_nil_iff.1 h).2
  rcases hv with ⟨rfl, rfl⟩ | ⟨b, so, cs, h1, rfl, h3, h4, h5, h6, h7⟩
  · simp only [List.length_nil, Nat.zero_add] at hbytes hl
    refine op_app_nil _ _ _ _ _ (n := 0) (c := 0) (a := ⟨b2, o2, none⟩) (m := l2.length) (c' := c2) (ys := ys) hx hy hm hg (by omega) (by omega) ?_
    refine k _ _ (AgX.app _ _ _) (CA.app _ _) (fun b hb => .inr ?_) (.inr ⟨H.length, true, ys, by omega, rfl, hne, by simpa using hl, get_new0 _ _, hyl, hr⟩)
    simp only [blkOf, sli, List.mem_singleton] at hb
    omega
  · have hbl := (List.getElem?_eq_some_iff.1 h5).1
    refine op_app _ _ _ _ _ (b := ⟨b, 0, none⟩) (n := l.length) (c := l.length) (a := ⟨b2, o2, none⟩) (m := l2.length) (c' := c2) (ys := ys) (kb := ⟨cs, es, et, true, so⟩) hx hy hm hg h5 ⟨by show lo0 ≤ b; omega, rfl, rfl, rfl, rfl, h6, by omega, by omega⟩ ?_
    simp only [Bool.false_eq_true, if_false, Bool.or_false]
    have hca : CA H (H.set b ⟨cs, es, et, false, so && l.length == 0⟩ ++ ([⟨cs ++ ys, es, et, true, so && l.length == 0⟩] : Heap)) := by
      intro b' k' hk'
      by_cases hbb : b' = b
      · subst hbb
        rw [h5] at hk'
        cases hk'
        exact ⟨⟨cs, es, et, false, so && l.length == 0⟩, by rw [List.getElem?_append_left (by rw [List.length_set]; exact hbl), List.getElem?_set_self hbl], rfl⟩
      · exact ⟨k', by rw [List.getElem?_append_left (by rw [List.length_set]; exact (List.getElem?_eq_some_iff.1 hk').1), List.getElem?_set_ne (fun h => hbb h.symm)]; exact hk', rfl⟩
    have hset : ∀ kb : Blk, (H.set b kb).length = H.length := fun kb => List.length_set
    refine k _ _ ((AgX.set H b _).trans (AgX.app [] _ _) (fun b' h _ => by simpa [blkOf, sli] using h) (fun b' h _ => by cases h)) hca (fun b' hb' => .inr ?_) (.inr ⟨H.length, so && l.length == 0, cs ++ ys, by omega, by rw [List.length_append], hne2, by rw [List.length_append]; exact hl, ?_, by rw [List.length_append, List.length_append, h6, hyl, Nat.add_mul], fun i hi => ?_⟩)
    · simp only [blkOf, sli, List.mem_singleton] at hb'
      omega
    · conv => lhs; rw [← hset ⟨cs, es, et, false, so && l.length == 0⟩]
      exact get_new0 _ _
    · rw [List.length_append] at hi
      by_cases hlt : i < l.length
      · rw [List.getElem_append_left hlt, take_es h6 hlt]
        exact h7 i hlt
      · have hir : l.length + (i - l.length) = i := by omega
        rw [List.getElem_append_right (by omega)]
        have := drop_es (cs := cs) (ys := ys) (i := i - l.length) h6
        rw [hir] at this
        rw [this]
        exact hr (i - l.length) (by omega)
/-- One element is appended, out of a literal. -/
theorem op_app_ls1 {F : Nat → Option IFn} {lo0 bytes : Nat} {x y : Opd} {e : Env} {ys : List Value} {a : α} {K : Value → Heap → Prop} (hv : LsV V A es et lo H v l) (hx : x.ev e = v) (hy : y.ev e = sli H.length 0 1) (hw : A.w = es) (hr : A.rd V ys a) (hlo0 : lo0 ≤ lo) (hlo : lo ≤ H.length) (hl : l.length < 1048576) (hb : bytes ≤ 1048576)
    (k : ∀ H' w', AgX (blkOf v) H H' → CA H H' → BlkN H v w' → LsV V A es et lo H' w' (l ++ [a]) → K w' H') : wpOp F lo0 (.app es et bytes false x y) e (H ++ [⟨ys, es, et, true, true⟩]) K := by
  have hyl : ys.length = es := by rw [A.len hr, hw]
  have hv' : LsV V A es et lo (H ++ [⟨ys, es, et, true, true⟩]) v l := hv.keep (Nat.le_refl _) (AgX.app [] H _) (fun _ _ => by simp)
  refine op_app_lsC (m := 1) (l2 := [a]) (b2 := H.length) (o2 := 0) (c2 := 1) (ys := ys) hv' hx hy (by simp) ?_ (fun i hi => ?_) hlo0 (by rw [List.length_append]; omega) (by simp; omega) hb fun H' w' h1 hc h2 h3 => k H' w' ?_ ((CA.app _ _).trans hc) ?_ h3
  · rw [gc_new0, List.getElem?_cons_zero, inBlk_some, List.length_singleton, Nat.one_mul, Nat.zero_add, if_pos (by omega), List.drop_zero, List.take_of_length_le (by omega)]
  · obtain rfl : i = 0 := by simpa using hi
    rw [Nat.zero_mul, List.drop_zero, List.take_of_length_le (by omega)]
    exact hr
  · exact (AgX.app [] H _).trans h1 (fun _ h _ => by cases h) (fun _ h _ => h)
  · intro b hb
    rcases h2 b hb with h | h
    · exact .inl h
    · exact .inr (by rw [List.length_append] at h; omega)
/-- A list is appended that was made so, too. -/
theorem op_app_lsN {F : Nat → Option IFn} {lo0 lo2 bytes : Nat} {x y : Opd} {e : Env} {v2 : Value} {l2 : List α} {K : Value → Heap → Prop} (hv : LsV V A es et lo H v l) (hx : x.ev e = v) (hy : y.ev e = v2) (hv2 : LsV V A es et lo2 H v2 l2) (hlo0 : lo0 ≤ lo) (hlo : lo ≤ H.length) (hl : l.length + l2.length ≤ 1048576) (hb : bytes ≤ 1048576)
    (k : ∀ H' w', AgX (blkOf v) H H' → CA H H' → BlkN H v w' → LsV V A es et lo H' w' (l ++ l2) → K w' H') : wpOp F lo0 (.app es et bytes false x y) e H K := by
  rcases hv2 with ⟨rfl, rfl⟩ | ⟨b, so, cs, h1, rfl, h3, h4, h5, h6, h7⟩
  · obtain ⟨a, ha⟩ := hv.shape
    refine op_app_zero _ _ _ _ _ (hx.trans ha) hy ?_
    rw [← ha]
    exact k H v (AgX.refl _ _) (CA.refl _) (fun b hb => .inl hb) (by rw [List.append_nil]; exact hv)
  · refine op_app_lsC (m := l2.length) hv hx hy h3 ?_ h7 hlo0 hlo hl hb k
    unfold getCells
    rw [h5]
    simp only [Nat.zero_add]
    rw [if_pos (by omega), List.drop_zero, List.take_of_length_le (by omega)]
end
end Go.Proofs.YtbjeldblaclpnaaI
end
section
/- The program's labels: what is in both, what may become what, of values, of steps being done. -/
set_option linter.unusedVariables false
set_option linter.unusedSimpArgs false
namespace Go.Proofs.YtbjeldblaclpnaaI
open Go Go.RowKit
def c_iBoth : IFn := ⟨2, 16, [.cell true 2 4],
 .seq (.reg none [
    ⟨(some 2), none, .box (.t 0)⟩,
    ⟨(some 3), none, .box (.t 1)⟩,
    ⟨(some 4), none, .new [(.int .i64 0), (.int .i64 0)]⟩])
 (.seq (.reg none [
    ⟨(some 5), none, .fad 0 (.t 2)⟩,
    ⟨(some 6), none, .load false 1 (.t 5)⟩,
    ⟨(some 7), none, .fad 0 (.t 3)⟩,
    ⟨(some 8), none, .load false 1 (.t 7)⟩,
    ⟨(some 9), none, .bin .and (.t 6) (.t 8)⟩,
    ⟨(some 10), none, .fad 1 (.t 2)⟩,
    ⟨(some 11), none, .load false 1 (.t 10)⟩,
    ⟨(some 12), none, .fad 1 (.t 3)⟩,
    ⟨(some 13), none, .load false 1 (.t 12)⟩,
    ⟨(some 14), none, .bin .and (.t 11) (.t 13)⟩,
    ⟨(some 15), none, .build [(.int .i64 0), (.int .i64 0)] [(0, 1, (.t 9)), (1, 1, (.t 14))]⟩,
    ⟨none, none, .store 2 (.t 4) (.t 15)⟩])
 (.ret))⟩
def c_iFlows : IFn := ⟨2, 17, [.t 4],
 .seq (.reg none [
    ⟨(some 2), none, .box (.t 0)⟩,
    ⟨(some 3), none, .box (.t 1)⟩,
    ⟨(some 4), none, .mov (.c (.bool false))⟩])
 (.seq (.reg none [
    ⟨(some 5), none, .fad 0 (.t 3)⟩,
    ⟨(some 6), none, .load false 1 (.t 5)⟩,
    ⟨(some 7), none, .fad 0 (.t 2)⟩,
    ⟨(some 8), none, .load false 1 (.t 7)⟩,
    ⟨(some 9), none, .call .q (.f 114) [(.t 6), (.t 8)]⟩,
    ⟨(some 10), none, .mov (.t 9)⟩,
    ⟨(some 11), (some (10, true)), .fad 1 (.t 3)⟩,
    ⟨(some 12), (some (10, true)), .load false 1 (.t 11)⟩,
    ⟨(some 13), (some (10, true)), .fad 1 (.t 2)⟩,
    ⟨(some 14), (some (10, true)), .load false 1 (.t 13)⟩,
    ⟨(some 15), (some (10, true)), .call .q (.f 114) [(.t 12), (.t 14)]⟩,
    ⟨(some 16), none, .pick (.t 10) (.t 15) (.c (.bool false))⟩,
    ⟨(some 4), none, .mov (.t 16)⟩])
 (.ret))⟩
def c_iEvery : IFn := ⟨0, 2, [.cell true 2 0],
 .seq (.reg none [
    ⟨(some 0), none, .new [(.int .i64 0), (.int .i64 0)]⟩])
 (.seq (.reg none [
    ⟨(some 1), none, .build [(.int .i64 0), (.int .i64 0)] [(0, 1, (.c (.int .i64 7))), (1, 1, (.c (.int .i64 7)))]⟩,
    ⟨none, none, .store 2 (.t 0) (.t 1)⟩])
 (.ret))⟩
def c_iSource : IFn := ⟨3, 26, [.cell true 2 6],
 .seq (.reg none [
    ⟨(some 3), none, .box (.t 0)⟩,
    ⟨(some 4), none, .box (.t 1)⟩,
    ⟨(some 5), none, .box (.t 2)⟩,
    ⟨(some 6), none, .new [(.int .i64 0), (.int .i64 0)]⟩])
 (.seq (.seq (.reg none [
     ⟨(some 9), none, .fad 2 (.t 4)⟩,
     ⟨(some 10), none, .load true 3 (.t 9)⟩,
     ⟨(some 11), none, .call .k (.f 143) [(.t 10)]⟩,
     ⟨(some 12), none, .len (.t 11)⟩,
     ⟨(some 13), none, .mov (.c (.int .i64 0))⟩])
  (.block 0 (.loop (.seq (.reg none [
       ⟨(some 14), none, .bin .lss (.t 13) (.t 12)⟩])
    (.seq (.cond (.t 14) (.skip) (.exit 0))
    (.seq (.block 1 (.seq (.reg none [
         ⟨(some 15), none, .iad 1 (.t 11) (.t 13)⟩,
         ⟨(some 16), none, .load false 1 (.t 15)⟩,
         ⟨(some 8), none, .mov (.t 16)⟩])
      (.reg (some 6) [
        ⟨(some 17), none, .load true 2 (.t 5)⟩,
        ⟨(some 18), none, .fad 0 (.t 3)⟩,
        ⟨(some 19), none, .load false 1 (.t 18)⟩,
        ⟨(some 20), none, .mov (.t 8)⟩,
        ⟨(some 21), none, .iad 2 (.t 19) (.t 20)⟩,
        ⟨(some 22), none, .load true 2 (.t 21)⟩,
        ⟨(some 23), none, .call .q (.f 135) [(.t 17), (.t 22)]⟩,
        ⟨none, none, .store 2 (.t 5) (.t 23)⟩])))
    (.reg none [
      ⟨(some 24), none, .bin .add (.t 13) (.c (.int .i64 1))⟩,
      ⟨(some 13), none, .mov (.t 24)⟩])))))))
 (.seq (.reg none [
    ⟨(some 25), none, .load true 2 (.t 5)⟩,
    ⟨none, none, .store 2 (.t 6) (.t 25)⟩])
 (.ret)))⟩
def c_iLabels : IFn := ⟨4, 44, [.t 8],
 .seq (.reg none [
    ⟨(some 4), none, .box (.t 0)⟩,
    ⟨(some 6), none, .box (.t 2)⟩,
    ⟨(some 8), none, .mov (.c (.slice none 0 0))⟩])
 (.seq (.seq (.reg none [
     ⟨(some 12), none, .mov (.t 1)⟩,
     ⟨(some 13), none, .len (.t 12)⟩,
     ⟨(some 14), none, .mov (.c (.int .i64 0))⟩])
  (.block 0 (.loop (.seq (.reg none [
       ⟨(some 15), none, .bin .lss (.t 14) (.t 13)⟩])
    (.seq (.cond (.t 15) (.skip) (.exit 0))
    (.seq (.block 1 (.seq (.reg none [
         ⟨(some 16), none, .iad 8 (.t 12) (.t 14)⟩,
         ⟨(some 17), none, .load true 8 (.t 16)⟩,
         ⟨(some 10), none, .new [(.int .i64 0), (.int .i64 0), (.int .i64 0), (.int .i64 0), (.int .i64 0), (.int .i64 0), (.slice none 0 0), (.slice none 0 0)]⟩,
         ⟨none, none, .store 8 (.t 10) (.t 17)⟩])
      (.seq (.reg none [
         ⟨(some 18), none, .mov (.t 3)⟩,
         ⟨(some 19), none, .load true 2 (.t 6)⟩,
         ⟨(some 20), none, .lit 2 38 1 [(.int .i64 0), (.int .i64 0)] [(0, 2, (.t 19))]⟩,
         ⟨(some 21), none, .app 2 38 16 false (.t 18) (.t 20)⟩,
         ⟨(some 3), none, .mov (.t 21)⟩])
      (.seq (.reg (some 9) [
         ⟨(some 22), none, .load true 2 (.t 6)⟩,
         ⟨(some 23), none, .fad 0 (.t 4)⟩,
         ⟨(some 24), none, .load false 1 (.t 23)⟩,
         ⟨(some 25), none, .fad 1 (.t 10)⟩,
         ⟨(some 26), none, .load false 1 (.t 25)⟩,
         ⟨(some 27), none, .iad 2 (.t 24) (.t 26)⟩,
         ⟨(some 28), none, .load true 2 (.t 27)⟩,
         ⟨(some 29), none, .call .q (.f 135) [(.t 22), (.t 28)]⟩,
         ⟨(some 11), none, .new [(.int .i64 0), (.int .i64 0)]⟩,
         ⟨none, none, .store 2 (.t 11) (.t 29)⟩])
      (.seq (.reg none [
         ⟨(some 30), none, .load true 2 (.t 4)⟩,
         ⟨(some 31), none, .fad 6 (.t 10)⟩,
         ⟨(some 32), none, .load false 1 (.t 31)⟩,
         ⟨(some 33), none, .load true 2 (.t 11)⟩,
         ⟨(some 34), none, .mov (.t 3)⟩,
         ⟨(some 35), none, .call .n (.f 100) [(.t 30), (.t 32), (.t 33), (.t 34)]⟩,
         ⟨(some 3), none, .mov (.t 35)⟩])
      (.reg none [
        ⟨(some 36), none, .load true 2 (.t 4)⟩,
        ⟨(some 37), none, .fad 7 (.t 10)⟩,
        ⟨(some 38), none, .load false 1 (.t 37)⟩,
        ⟨(some 39), none, .load true 2 (.t 11)⟩,
        ⟨(some 40), none, .mov (.t 3)⟩,
        ⟨(some 41), none, .call .n (.f 100) [(.t 36), (.t 38), (.t 39), (.t 40)]⟩,
        ⟨(some 3), none, .mov (.t 41)⟩]))))))
    (.reg none [
      ⟨(some 42), none, .bin .add (.t 14) (.c (.int .i64 1))⟩,
      ⟨(some 14), none, .mov (.t 42)⟩])))))))
 (.seq (.reg none [
    ⟨(some 43), none, .mov (.t 3)⟩,
    ⟨(some 8), none, .mov (.t 43)⟩])
 (.ret)))⟩
def c_iAt : IFn := ⟨1, 8, [.t 2],
 .seq (.reg none [
    ⟨(some 1), none, .box (.t 0)⟩,
    ⟨(some 2), none, .mov (.c (.slice none 0 0))⟩])
 (.seq (.reg (some 4) [
    ⟨(some 3), none, .load true 2 (.t 1)⟩,
    ⟨(some 4), none, .fad 1 (.t 1)⟩,
    ⟨(some 5), none, .load false 1 (.t 4)⟩,
    ⟨(some 6), none, .call .q (.f 101) []⟩,
    ⟨(some 7), none, .call .n (.f 100) [(.t 3), (.t 5), (.t 6), (.c (.slice none 0 0))]⟩,
    ⟨(some 2), none, .mov (.t 7)⟩])
 (.ret))⟩
theorem and_both {a b : Int} (ha : 0 ≤ a ∧ a ≤ 7) (hb : 0 ≤ b ∧ b ≤ 7) : IntKind.i64.wrap ((BitVec.ofInt 64 a &&& BitVec.ofInt 64 b).toNat : Nat) = bothS a b 3 := by
  have qa : a = 0 ∨ a = 1 ∨ a = 2 ∨ a = 3 ∨ a = 4 ∨ a = 5 ∨ a = 6 ∨ a = 7 := by omega
  have qb : b = 0 ∨ b = 1 ∨ b = 2 ∨ b = 3 ∨ b = 4 ∨ b = 5 ∨ b = 6 ∨ b = 7 := by omega
  rcases qa with rfl | rfl | rfl | rfl | rfl | rfl | rfl | rfl <;> rcases qb with rfl | rfl | rfl | rfl | rfl | rfl | rfl | rfl <;> decide +kernel
theorem labB_i {a : Int × Int} : labB a = true ↔ (0 ≤ a.1 ∧ a.1 ≤ 7) ∧ 0 ≤ a.2 ∧ a.2 ≤ 7 := by
  simp only [labB, Bool.and_eq_true, inB_iff]
theorem lboth_ok {a b : Int × Int} (ha : labB a = true) (hb : labB b = true) : lboth a b = (bothS a.1 b.1 3, bothS a.2 b.2 3) := by
  unfold lboth
  rw [ha, hb]
  rfl
def ILBoth (F : Nat → Option IFn) (f : Nat) : Prop := ∀ (H : Heap) (a b : Int × Int), labB a = true → labB b = true → QC F f [.agg #[.int .i64 a.1, .int .i64 a.2], .agg #[.int .i64 b.1, .int .i64 b.2]] H (.agg #[.int .i64 (lboth a b).1, .int .i64 (lboth a b).2])
theorem binI_andJ (k : IntKind) (x y : Int) : binI .and k x y = some (.int k (k.wrap ((BitVec.ofInt k.bits x &&& BitVec.ofInt k.bits y).toNat : Nat))) := rfl
theorem iBoth_ok {F : Nat → Option IFn} {f : Nat} (hf : F f = some c_iBoth) : ILBoth F f := by
  rintro H ⟨a1, a2⟩ ⟨b1, b2⟩ ha hb
  rw [lboth_ok ha hb]
  have qa := labB_i.1 ha
  have qb := labB_i.1 hb
  have h1 : binI .and .i64 a1 b1 = some (.int .i64 (bothS a1 b1 3)) := by rw [binI_andJ]; exact congrArg _ (congrArg _ (and_both qa.1 qb.1))
  have h2 : binI .and .i64 a2 b2 = some (.int .i64 (bothS a2 b2 3)) := by rw [binI_andJ]; exact congrArg _ (congrArg _ (and_both qa.2 qb.2))
  refine QC.mk hf rfl ?_
  refine seq_reg ?_
  simp only [go_sem, binC]
  refine seq_reg ?_
  simp only [go_sem, binC, inBlk_some, h1, h2]
  refine wpc_ret ⟨Or.inr rfl, _, (by (simp only [go_sem, binC, inBlk_some]) <;> rfl), rfl, rfl⟩
def IFlows (F : Nat → Option IFn) (f : Nat) : Prop := ∀ (H : Heap) (a b : Int × Int), labB a = true → labB b = true → QC F f [.agg #[.int .i64 a.1, .int .i64 a.2], .agg #[.int .i64 b.1, .int .i64 b.2]] H (.bool (flowsB a b))
theorem iFlows_ok {F : Nat → Option IFn} {f : Nat} (hf : F f = some c_iFlows) (gw : WitOk F 114) : IFlows F f := by
  rintro H ⟨a1, a2⟩ ⟨b1, b2⟩ ha hb
  have qa := labB_i.1 ha
  have qb := labB_i.1 hb
  have e : flowsB (a1, a2) (b1, b2) = (witB b1 a1 && witB b2 a2) := by
    unfold flowsB
    rw [ha, hb]
    rfl
  rw [e]
  refine QC.mk hf rfl ?_
  refine seq_reg ?_
  simp only [go_sem, binC]
  refine seq_reg ?_
  simp only [go_sem, binC, inBlk_some]
  refine op_callQ (by simp only [go_sem, binC]; exact gw _ _ _ qb.1.1 qb.1.2 qa.1.1 qa.1.2) ?_
  cases hw : witB b1 a1 with
  | true =>
    simp only [go_sem, binC, inBlk_some]
    refine op_callQ (by simp only [go_sem, binC]; exact gw _ _ _ qb.2.1 qb.2.2 qa.2.1 qa.2.2) ?_
    simp only [go_sem, binC]
    exact wpc_ret ⟨Or.inr rfl, _, (by (simp only [go_sem, binC]) <;> rfl), rfl, rfl⟩
  | false =>
    simp only [go_sem, binC]
    exact wpc_ret ⟨Or.inr rfl, _, (by (simp only [go_sem, binC]) <;> rfl), rfl, rfl⟩
theorem iEvery_ok {F : Nat → Option IFn} {f : Nat} (hf : F f = some c_iEvery) : ∀ H, QC F f [] H (.agg #[.int .i64 7, .int .i64 7]) := by
  intro H
  refine QC.mk hf rfl ?_
  refine seq_reg ?_
  simp only [go_sem, binC]
  refine seq_reg ?_
  simp only [go_sem, binC]
  exact wpc_ret ⟨Or.inr rfl, _, (by (simp only [go_sem, binC, inBlk_some]) <;> rfl), rfl, rfl⟩
/-! ### Labels in both, plainly -/
theorem bothS_all : ∀ a b c : Fin 8, bothS (bothS (a.val : Int) b.val 3) c.val 3 = bothS a.val (bothS b.val c.val 3) 3 ∧ bothS (a.val : Int) b.val 3 = bothS b.val a.val 3 ∧ bothS 7 (a.val : Int) 3 = a.val ∧ bothS (a.val : Int) a.val 3 = a.val := by decide +kernel
theorem fin8 {a : Int} (h : 0 ≤ a ∧ a ≤ 7) : ∃ x : Fin 8, (x.val : Int) = a := ⟨⟨a.toNat, by omega⟩, by show ((a.toNat : Nat) : Int) = a; omega⟩
theorem lboth_assoc {a b c : Int × Int} (ha : labB a = true) (hb : labB b = true) (hc : labB c = true) : lboth (lboth a b) c = lboth a (lboth b c) := by
  rw [lboth_ok (lboth_bd a b) hc, lboth_ok ha (lboth_bd b c), lboth_ok ha hb, lboth_ok hb hc]
  obtain ⟨a1, a2⟩ := a
  obtain ⟨b1, b2⟩ := b
  obtain ⟨c1, c2⟩ := c
  obtain ⟨x1, rfl⟩ := fin8 (labB_i.1 ha).1
  obtain ⟨x2, rfl⟩ := fin8 (labB_i.1 ha).2
  obtain ⟨y1, rfl⟩ := fin8 (labB_i.1 hb).1
  obtain ⟨y2, rfl⟩ := fin8 (labB_i.1 hb).2
  obtain ⟨z1, rfl⟩ := fin8 (labB_i.1 hc).1
  obtain ⟨z2, rfl⟩ := fin8 (labB_i.1 hc).2
  simp only [(bothS_all x1 y1 z1).1, (bothS_all x2 y2 z2).1]
theorem lboth_comm {a b : Int × Int} (ha : labB a = true) (hb : labB b = true) : lboth a b = lboth b a := by
  rw [lboth_ok ha hb, lboth_ok hb ha]
  obtain ⟨a1, a2⟩ := a
  obtain ⟨b1, b2⟩ := b
  obtain ⟨x1, rfl⟩ := fin8 (labB_i.1 ha).1
  obtain ⟨x2, rfl⟩ := fin8 (labB_i.1 ha).2
  obtain ⟨y1, rfl⟩ := fin8 (labB_i.1 hb).1
  obtain ⟨y2, rfl⟩ := fin8 (labB_i.1 hb).2
  simp only [(bothS_all x1 y1 0).2.1, (bothS_all x2 y2 0).2.1]
theorem lboth_any {a : Int × Int} (ha : labB a = true) : lboth (7, 7) a = a := by
  rw [lboth_ok rfl ha]
  obtain ⟨a1, a2⟩ := a
  obtain ⟨x1, rfl⟩ := fin8 (labB_i.1 ha).1
  obtain ⟨x2, rfl⟩ := fin8 (labB_i.1 ha).2
  simp only [(bothS_all x1 0 0).2.2.1, (bothS_all x2 0 0).2.2.1]
theorem lab_getD {ls : List (Int × Int)} (h : ls.all labB = true) (i : Nat) : labB (ls.getD i (0, 0)) = true := by
  rw [List.getD_eq_getElem?_getD]
  cases hi : ls[i]? with
  | none => rfl
  | some a => exact List.all_eq_true.1 h a (List.mem_of_getElem? hi)
/-- The label of what is set, as the program makes it. -/
def srcL (ls : List (Int × Int)) (v : Int × Int × Int) (h : Int × Int) : Int × Int := (varsL v).foldl (fun o x => lboth o (ls.getD x.toNat (0, 0))) h
theorem srcL_val {ls : List (Int × Int)} {v : Int × Int × Int} {h : Int × Int} (hl : ls.all labB = true) (hh : labB h = true) (hv : valB ls.length v = true) : srcL ls v h = lboth h (valL ls v) := by
  obtain ⟨k, a, b⟩ := v
  have la := lab_getD hl a.toNat
  have lb := lab_getD hl b.toNat
  have l7 : labB ((7, 7) : Int × Int) = true := rfl
  unfold valB at hv
  simp only at hv
  unfold srcL valL varsL
  simp only
  by_cases k1 : k = 1
  · subst k1
    show h = lboth h (7, 7)
    rw [lboth_comm hh l7, lboth_any hh]
  rw [if_neg k1] at hv ⊢
  by_cases k2 : k = 2
  · subst k2
    simp only [if_true, List.foldl_cons, List.foldl_nil]
    rw [if_neg (by omega), lboth_any la]
  rw [if_neg k2] at hv
  rw [if_neg k2]
  by_cases k3 : k = 3 ∨ k = 4
  · rw [if_pos k3, if_pos k3, lboth_any la]
    show lboth (lboth h _) _ = _
    rw [lboth_assoc hh la lb]
  · rw [if_neg k3] at hv; cases hv
theorem srcL_lab {ls : List (Int × Int)} {v : Int × Int × Int} {h : Int × Int} (hh : labB h = true) : labB (srcL ls v h) = true := by
  unfold srcL
  induction varsL v generalizing h with
  | nil => exact hh
  | cons x l ih => exact ih (lboth_bd _ _)
def ISource (F : Nat → Option IFn) (f : Nat) : Prop := ∀ (H : Heap) (lv sv tv ev : Value) (ls : List (Int × Int)) (k x a b c g : Int) (h : Int × Int), one sv = true → one tv = true → one ev = true → RgI b → RgI c → SlR Co.p2 (vw 0 H) lv ls → ls.all labB = true → valB ls.length (a, b, c) = true → labB h = true →
  QC F f [.agg #[lv, sv], .agg #[.int .i64 k, .int .i64 x, .int .i64 a, .int .i64 b, .int .i64 c, .int .i64 g, tv, ev], .agg #[.int .i64 h.1, .int .i64 h.2]] H (.agg #[.int .i64 (srcL ls (a, b, c) h).1, .int .i64 (srcL ls (a, b, c) h).2])
theorem varsL_le (v : Int × Int × Int) : (varsL v).length ≤ 2 := by
  unfold varsL
  split
  · simp
  · split <;> simp
theorem gcJ {H : Heap} {v : Value} {l : List Int} (h : SlR Co.int (vw 0 H) v l) {i : Nat} (hi : i < l.length) : ∃ b o, v = .slice (some ⟨b, o, none⟩) l.length l.length ∧ getCells H b (o + i) 1 = some [.int .i64 l[i]] := by
  obtain ⟨_, a, rfl, h2⟩ := h
  rcases h2 with h2 | ⟨b, o, rfl, h2⟩
  · rw [h2] at hi; simp at hi
  · obtain ⟨cs, h3, h4⟩ := h2 i hi
    have h5 := rng_gc h3
    rw [h4.1, show Co.int.w = 1 from rfl, Nat.mul_one] at h5
    exact ⟨b, o, rfl, h5⟩
theorem iSource_ok {F : Nat → Option IFn} {f : Nat} (hf : F f = some c_iSource) (gv : F 143 = some c_vars) (gb : ILBoth F 135) : ISource F f := by
  intro H lv sv tv ev ls k x a b c g h osv otv oev rb rc r1 hlab hv hh
  obtain ⟨_, la, rfl, _⟩ := id r1
  refine QC.mk hf rfl ?_
  refine seq_reg ?_
  simp only [go_sem, binC, osv, otv, oev]
  refine wpc_gen fun H1 hH1 => ?_
  have hx1 : AgX [] H H1 := hH1 ▸ AgX.app [] _ _
  have hb3 : H1[H.length]? = some ⟨[.slice la ls.length ls.length, sv], 0, 0, false, true⟩ := hH1 ▸ get_new0 _ _
  have hb4 : H1[H.length + 1]? = some ⟨[.int .i64 k, .int .i64 x, .int .i64 a, .int .i64 b, .int .i64 c, .int .i64 g, tv, ev], 0, 0, false, true⟩ := hH1 ▸ get_new _ _ 1
  have hb5 : H1[H.length + 2]? = some ⟨[.int .i64 h.1, .int .i64 h.2], 0, 0, false, true⟩ := hH1 ▸ get_new _ _ 2
  have hb6 : H1[H.length + 3]? = some ⟨[.int .i64 0, .int .i64 0], 0, 0, false, true⟩ := hH1 ▸ get_new _ _ 3
  clear hH1
  refine seq_assoc (seq_reg ?_)
  simp only [go_sem, binC, gc_of hb4, inBlk_some]
  obtain ⟨vw_, L, k2, hvs⟩ := vars_okV gv H1 a b c rb rc
  refine op_callK (by simp only [go_sem, binC]; exact k2) ?_
  have hvl := varsL_le (a, b, c)
  have hvi := varsL_in hv
  generalize hvL : varsL (a, b, c) = vs at *
  obtain ⟨_, va, rfl, _⟩ := id hvs
  generalize hHb : H1 ++ L = Hb at *
  have hx2 : AgX [] H1 Hb := hHb ▸ AgX.app [] _ _
  clear hHb k2
  simp only [go_sem, binC]
  have hb32 := hx2.get hb3 (by simp)
  have hb52 := hx2.get hb5 (by simp)
  have hb62 := hx2.get hb6 (by simp)
  have hx02 := hx1.tr hx2
  have hbl5 := (List.getElem?_eq_some_iff.1 hb52).1
  have hb6l1 := (List.getElem?_eq_some_iff.1 hb6).1
  refine seq_block (wpc_loop ?_)
  suffices hl : ∀ (m i : Nat) (e : Env) (Hc : Heap) (o : Int × Int), i + m = vs.length → AgX [H.length + 2] Hb Hc → Hc[H.length + 2]? = some ⟨[.int .i64 o.1, .int .i64 o.2], 0, 0, false, true⟩ → labB o = true → o = (vs.take i).foldl (fun o x => lboth o (ls.getD x.toNat (0, 0))) h → e 3 = ptr H.length 0 → e 5 = ptr (H.length + 2) 0 → e 6 = ptr (H.length + 3) 0 → e 11 = .slice va vs.length vs.length → e 12 = .int .i64 vs.length → e 13 = .int .i64 i → W F H.length _ e Hc _ from
    hl vs.length 0 _ Hb h (by omega) (AgX.refl _ _) hb52 hh rfl (by simp only [go_sem, binC]) (by simp only [go_sem, binC]) (by simp only [go_sem, binC]) (by simp only [go_sem, binC]) (by simp only [go_sem, binC]) (by (simp only [go_sem, binC]) <;> rfl)
  intro m
  induction m with
  | zero =>
    intro i e Hc o hi hxc hbo ho hof e3 e5 e6 e11 e12 e13
    have hb6c := hxc.get hb62 (by simp)
    have hb6l := (List.getElem?_eq_some_iff.1 hb6c).1
    refine lp_step ?_
    refine seq_reg ?_
    simp only [go_sem, binC, e12, e13]
    refine seq_cond (t := false) (by simp only [go_sem, binC]; rw [decide_eq_false (by omega)]) ?_
    simp only [go_sem, binC]
    refine seq_exit ?_
    simp only [go_sem, binC, thenX_e, out_e, thenX_n]
    refine seq_reg ?_
    simp only [go_sem, binC, e5, e6, gc_of hbo, inBlk_some, hb6c]
    rw [List.take_of_length_le (by omega)] at hof
    refine wpc_ret ⟨Or.inr rfl, .agg #[.int .i64 o.1, .int .i64 o.2], ?_, ?_, rfl⟩
    · simp [resV, resL, res1, putE_get, e6, ptr, gc_set hb6l, inBlk_some, valOf]
    · have : o = srcL ls (a, b, c) h := by rw [hof]; unfold srcL; rw [hvL]
      rw [this]
  | succ m ih =>
    intro i e Hc o hi hxc hbo ho hof e3 e5 e6 e11 e12 e13
    have hil : i < vs.length := by omega
    have hw1 : IntKind.i64.wrap ((i : Int) + 1) = ((i + 1 : Nat) : Int) := by rw [wrap_id (by omega) (by omega)]; omega
    have hvx := hvi _ (List.getElem_mem hil)
    have hbol := (List.getElem?_eq_some_iff.1 hbo).1
    have hSc : Sub (vw 0 H) (vw 0 Hc) := agx_sub (hx02.trans hxc (fun _ h _ => h) (fun b' h1 h2 => by simp only [List.mem_singleton] at h1; omega) : AgX [] H Hc)
    have hb3c := hxc.get hb32 (by simp)
    obtain ⟨lb, lo', hlvE, hga, rr1, rr2⟩ := lab_at (r1.mono hSc) (H := Hc) (fun _ _ h => h) hvx.1 hvx.2
    simp only [Value.slice.injEq, and_true] at hlvE
    subst hlvE
    have hga0 := hga []
    rw [List.append_nil] at hga0
    have hlx := lab_getD hlab vs[i].toNat
    obtain ⟨b9, o9, hv9, hg9⟩ := gcJ ((hvs.mono (vwl_sub hxc (Nat.le_refl _) (xs' := []) fun b' h1 h2 _ => ⟨by simp; omega, by simp⟩)).mono (vwl0 _ _ _)) hil
    simp only [Value.slice.injEq, and_true] at hv9
    subst hv9
    refine lp_step ?_
    refine seq_reg ?_
    simp only [go_sem, binC, e12, e13]
    refine seq_cond (t := true) (by simp only [go_sem, binC]; rw [decide_eq_true (by omega)]) ?_
    simp only [go_sem, binC]
    refine seq_skip (seq_block (seq_reg ?_))
    simp only [go_sem, binC, e11, e13]
    refine ⟨⟨by omega, by omega⟩, ?_⟩
    simp only [go_sem, binC, Int.toNat_natCast, Nat.mul_one, hg9]
    refine wpc_regD ?_
    simp only [go_sem, binC, e3, e5, gc_of hbo, gc_of hb3c, inBlk_some]
    refine ⟨⟨by omega, by omega⟩, ?_⟩
    simp only [go_sem, binC, hga0]
    refine op_callQ (by simp only [go_sem, binC]; exact gb Hc o _ ho hlx) ?_
    simp only [go_sem, binC, e5, hbo]
    simp only [go_sem, binC, out_n, thenX_n]
    refine wpc_reg ?_
    simp only [go_sem, binC, e13, hw1]
    simp only [go_sem, binC, thenX_n]
    refine ih (i + 1) _ _ (lboth o (ls.getD vs[i].toNat (0, 0))) (by omega) (hxc.trans (AgX.set _ _ _) (fun _ h _ => h) (fun _ h _ => h)) (List.getElem?_set_self hbol) (lboth_bd _ _) ?_ (by simp only [go_sem, binC, e3]) (by simp only [go_sem, binC, e5]) (by simp only [go_sem, binC, e6]) (by simp only [go_sem, binC, e11]) (by simp only [go_sem, binC, e12]) (by simp only [go_sem, binC])
    rw [List.take_add_one, List.getElem?_eq_getElem hil, List.foldl_append, ← hof]
    rfl
end Go.Proofs.YtbjeldblaclpnaaI
end
section
/- The program's labels of steps being done, and all its steps. -/
set_option linter.unusedVariables false
set_option linter.unusedSimpArgs false
namespace Go.Proofs.YtbjeldblaclpnaaI
open Go Go.RowKit
def c_iAll : IFn := ⟨1, 28, [.t 2],
 .seq (.reg none [
    ⟨(some 2), none, .mov (.c (.slice none 0 0))⟩])
 (.seq (.reg none [
    ⟨(some 3), none, .mov (.c (.slice none 0 0))⟩])
 (.seq (.seq (.reg none [
     ⟨(some 6), none, .mov (.t 0)⟩,
     ⟨(some 7), none, .len (.t 6)⟩,
     ⟨(some 8), none, .mov (.c (.int .i64 0))⟩])
  (.block 0 (.loop (.seq (.reg none [
       ⟨(some 9), none, .bin .lss (.t 8) (.t 7)⟩])
    (.seq (.cond (.t 9) (.skip) (.exit 0))
    (.seq (.block 1 (.seq (.reg none [
         ⟨(some 10), none, .iad 8 (.t 6) (.t 8)⟩,
         ⟨(some 11), none, .load true 8 (.t 10)⟩,
         ⟨(some 5), none, .new [(.int .i64 0), (.int .i64 0), (.int .i64 0), (.int .i64 0), (.int .i64 0), (.int .i64 0), (.slice none 0 0), (.slice none 0 0)]⟩,
         ⟨none, none, .store 8 (.t 5) (.t 11)⟩])
      (.seq (.reg none [
         ⟨(some 12), none, .mov (.t 3)⟩,
         ⟨(some 13), none, .load true 8 (.t 5)⟩,
         ⟨(some 14), none, .lit 8 85 1 [(.int .i64 0), (.int .i64 0), (.int .i64 0), (.int .i64 0), (.int .i64 0), (.int .i64 0), (.slice none 0 0), (.slice none 0 0)] [(0, 8, (.t 13))]⟩,
         ⟨(some 15), none, .app 8 85 96 false (.t 12) (.t 14)⟩,
         ⟨(some 3), none, .mov (.t 15)⟩])
      (.seq (.reg none [
         ⟨(some 16), none, .mov (.t 3)⟩,
         ⟨(some 17), none, .fad 6 (.t 5)⟩,
         ⟨(some 18), none, .load false 1 (.t 17)⟩,
         ⟨(some 19), none, .call .k (.f 55) [(.t 18)]⟩,
         ⟨(some 20), none, .app 8 85 96 false (.t 16) (.t 19)⟩,
         ⟨(some 3), none, .mov (.t 20)⟩])
      (.reg none [
        ⟨(some 21), none, .mov (.t 3)⟩,
        ⟨(some 22), none, .fad 7 (.t 5)⟩,
        ⟨(some 23), none, .load false 1 (.t 22)⟩,
        ⟨(some 24), none, .call .k (.f 55) [(.t 23)]⟩,
        ⟨(some 25), none, .app 8 85 96 false (.t 21) (.t 24)⟩,
        ⟨(some 3), none, .mov (.t 25)⟩])))))
    (.reg none [
      ⟨(some 26), none, .bin .add (.t 8) (.c (.int .i64 1))⟩,
      ⟨(some 8), none, .mov (.t 26)⟩])))))))
 (.seq (.reg none [
    ⟨(some 27), none, .mov (.t 3)⟩,
    ⟨(some 2), none, .mov (.t 27)⟩])
 (.ret))))⟩
theorem atL_len' : ∀ (n : Nat) (ls : List (Int × Int)) (h : Int × Int) (s : TStep n), (atT n ls h s).length = (allT n s).length
  | 0, _, _, s => s.elim
  | n + 1, ls, h, (k, x, v, g, th, el) => by
    have go : ∀ (h : Int × Int) (l : List (TStep n)), (atL n ls h l).length = (allL n l).length := fun h l => by
      unfold atL allL
      rw [List.length_flatten, List.length_flatten, List.map_map, List.map_map]
      congr 1
      exact List.map_congr_left fun a _ => atL_len' n ls h a
    rw [atT_succ, allT_succ, List.length_cons, List.length_cons, List.length_append, List.length_append, go, go]
theorem atL_len {n : Nat} (ls : List (Int × Int)) (h : Int × Int) (l : List (TStep n)) : (atL n ls h l).length = (allL n l).length := by
  unfold atL allL
  rw [List.length_flatten, List.length_flatten, List.map_map, List.map_map]
  congr 1
  exact List.map_congr_left fun a _ => atL_len' n ls h a
theorem varB_i {k : Nat} {x : Int} : varB k x = true ↔ 0 ≤ x ∧ x < k := by
  unfold varB
  rw [inB_iff]
  omega
/-- One step of a list, read in any view. -/
theorem step_atW {n : Nat} {V : Vw} {v : Value} {l : List (TStep (n + 1))} (h : SlR (Co.step (n + 1)) V v l) {i : Nat} (hi : i < l.length) : ∃ (b o : Nat) (k x a bb c g : Int) (tv ev : Value) (tl el : List (TStep n)), v = .slice (some ⟨b, o, none⟩) l.length l.length ∧ l[i] = (k, x, (a, bb, c), g, tl, el) ∧
    (RgI k ∧ RgI x ∧ RgI a ∧ RgI bb ∧ RgI c ∧ RgI g) ∧ one tv = true ∧ one ev = true ∧ (∀ H', Sub V (vw 0 H') → getCells H' b (o + i * 8) 8 = some [.int .i64 k, .int .i64 x, .int .i64 a, .int .i64 bb, .int .i64 c, .int .i64 g, tv, ev]) ∧ SlR (Co.step n) V tv tl ∧ SlR (Co.step n) V ev el := by
  obtain ⟨_, a, rfl, h2⟩ := h
  obtain ⟨b, o, rfl, h3⟩ := h2.resolve_left (fun h => by rw [h] at hi; simp at hi)
  obtain ⟨cs, h4, h5⟩ := h3 i hi
  generalize hs : l[i] = s at h5
  obtain ⟨k, x, ⟨a, bb, c⟩, g, tl, el⟩ := s
  obtain ⟨_, _, rfl, ⟨rfl, r1⟩, _, _, rfl, ⟨rfl, r2⟩, _, _, rfl, ⟨_, _, rfl, ⟨rfl, r3⟩, _, _, rfl, ⟨rfl, r4⟩, ⟨rfl, r5⟩⟩, _, _, rfl, ⟨rfl, r6⟩, _, _, rfl, ⟨tv, rfl, h6⟩, ⟨ev, rfl, h7⟩⟩ := h5
  have o6 : Go.Proofs.YtbjeldblaclpnaaI.one tv = true := by obtain ⟨_, _, rfl, _⟩ := h6; rfl
  have o7 : Go.Proofs.YtbjeldblaclpnaaI.one ev = true := by obtain ⟨_, _, rfl, _⟩ := h7; rfl
  exact ⟨b, o, k, x, a, bb, c, g, tv, ev, tl, el, rfl, rfl, ⟨r1, r2, r3, r4, r5, r6⟩, o6, o7, fun H' hs => rng_gc (rng_sub hs h4), h6, h7⟩
def AtI (F : Nat → Option IFn) (f n : Nat) : Prop := ∀ (V : Vw) (H : Heap) (lo lo1 : Nat) (lv sv v w : Value) (ls : List (Int × Int)) (l : List (TStep n)) (here : Int × Int) (out : List (Int × Int)), Sub V (vwl 0 (blkOf w) H) → lo ≤ lo1 → lo1 ≤ H.length → one sv = true → SlR Co.p2 V lv ls → SlR (Co.step n) V v l → LsV V Co.p2 2 38 lo1 H w out → (∀ s ∈ allL n l, varB ls.length s.2.1 = true) → ls.all labB = true → labB here = true → out.length + (allL n l).length ≤ 1000 →
  ∃ w' H', NC F lo f [.agg #[lv, sv], v, .agg #[.int .i64 here.1, .int .i64 here.2], w] H w' H' ∧ (AgX (blkOf w) H H' ∧ BlkN H w w' ∧ LsV V Co.p2 2 38 lo1 H' w' (out ++ atL n ls here l))
theorem sub_keep {V : Vw} {H H' : Heap} {w w' : Value} (h : Sub V (vwl 0 (blkOf w) H)) (hx : AgX (blkOf w) H H') (hn : BlkN H w w') : Sub V (vwl 0 (blkOf w') H') := by
  intro b cs hb
  have h1 := h b cs hb
  unfold vwl at h1 ⊢
  split at h1
  · rename_i h2
    cases hk : H[b]? with
    | none => rw [hk] at h1; cases h1
    | some k =>
      have hl := (List.getElem?_eq_some_iff.1 hk).1
      rw [if_pos ⟨Nat.zero_le _, fun hm => by rcases hn b hm with h3 | h3; exact h2.2 h3; omega⟩, hx.2 b hl h2.2]
      exact h1
  · cases h1
theorem sub_vw {V : Vw} {H : Heap} {xs : List Nat} (h : Sub V (vwl 0 xs H)) : Sub V (vw 0 H) := h.trans (vwl0 _ _ _)
theorem blkN_refl (H : Heap) (v : Value) : BlkN H v v := fun _ h => .inl h
theorem agx_app_w {H : Heap} (w : Value) (L : Heap) : AgX (blkOf w) H (H ++ L) := AgX.app _ _ _
theorem iLabels_ok {F : Nat → Option IFn} {f n : Nat} (hf : F f = some c_iLabels) (gb : ILBoth F 135) (ih : ∀ m, n = m + 1 → AtI F 100 m) : AtI F f n := by
  intro V H lo lo1 lv sv v w0 ls l here out0 hV hlo hlo1 hsv hlv hv ho0 hvar hlab hhere hcnt
  obtain ⟨_, la, rfl, _⟩ := id hlv
  have hv0 := hv
  obtain ⟨h0, av, rfl, hv1⟩ := hv
  suffices h : ∃ w' H', NC F lo f [.agg #[.slice la ls.length ls.length, sv], .slice av l.length l.length, .agg #[.int .i64 here.1, .int .i64 here.2], w0] H w' H' ∧ (AgX (blkOf w0) H H' ∧ BlkN H w0 w' ∧ LsV V Co.p2 2 38 lo1 H' w' (out0 ++ atL n ls here l)) from h
  refine NC.mk hf rfl ?_
  refine seq_reg ?_
  simp only [go_sem, binC, hsv]
  refine wpc_gen fun Hb hHb => ?_
  have ht0 : AgX (blkOf w0) H Hb := hHb ▸ agx_app_w _ _
  have hp0 : Hb[H.length]? = some ⟨[.slice la ls.length ls.length, sv], 0, 0, false, true⟩ := hHb ▸ get_new0 _ _
  have hh0 : Hb[H.length + 1]? = some ⟨[.int .i64 here.1, .int .i64 here.2], 0, 0, false, true⟩ := hHb ▸ get_new _ _ 1
  have hob : LsV V Co.p2 2 38 lo1 Hb w0 out0 := hHb ▸ ho0.keep (Nat.le_refl _) (AgX.app [] H _) (fun _ _ => by simp)
  clear hHb
  refine seq_assoc (seq_reg ?_)
  simp only [go_sem, binC]
  refine seq_block (wpc_loop ?_)
  suffices h : ∀ (k i : Nat) (e : Env) (Hc : Heap) (w : Value), i + k = l.length → AgX (blkOf w0) H Hc → BlkN H w0 w → LsV V Co.p2 2 38 lo1 Hc w (out0 ++ atL n ls here (l.take i)) → Hc[H.length]? = some ⟨[.slice la ls.length ls.length, sv], 0, 0, false, true⟩ → Hc[H.length + 1]? = some ⟨[.int .i64 here.1, .int .i64 here.2], 0, 0, false, true⟩ →
      e 3 = w → e 4 = ptr H.length 0 → e 6 = ptr (H.length + 1) 0 → e 12 = .slice av l.length l.length → e 13 = .int .i64 l.length → e 14 = .int .i64 i → W F lo _ e Hc _ from
    h l.length 0 _ Hb w0 (by omega) ht0 (blkN_refl _ _) (by simpa [atL] using hob) hp0 hh0 (by simp only [go_sem, binC]) (by simp only [go_sem, binC]) (by simp only [go_sem, binC]) (by simp only [go_sem, binC]) (by simp only [go_sem, binC]) (by (simp only [go_sem, binC]) <;> rfl)
  intro k
  induction k with
  | zero =>
    intro i e Hc w hi ht hbn ho hp hh e3 e4 e6 e12 e13 e14
    refine lp_step ?_
    refine seq_reg ?_
    simp only [go_sem, binC, e13, e14]
    refine seq_cond (t := false) (by simp only [go_sem, binC]; rw [decide_eq_false (by omega)]) ?_
    simp only [go_sem, binC]
    refine seq_exit ?_
    simp only [go_sem, binC, thenX_e, out_e, thenX_n]
    refine seq_reg ?_
    simp only [go_sem, binC, e3]
    rw [List.take_of_length_le (by omega)] at ho
    exact wpc_ret ⟨Or.inr rfl, _, (by (simp only [go_sem, binC]) <;> rfl), ht, hbn, ho⟩
  | succ k ihk =>
    intro i e Hc w hi ht hbn ho hp hh e3 e4 e6 e12 e13 e14
    have hil : i < l.length := by omega
    cases n with
    | zero => exact (l[i]).elim
    | succ n =>
    have hw1 : IntKind.i64.wrap ((i : Int) + 1) = ((i + 1 : Nat) : Int) := by rw [wrap_id (by omega) (by omega)]; omega
    obtain ⟨vb, vo, sk, sx, sa, sbb, sc, sg, tv, ev, tl, el, hav, hs, rg, otv, oev, hgc, htl, hel⟩ := step_atW hv0 hil
    simp only [Value.slice.injEq, and_true] at hav
    subst hav
    have htake := allL_take l i hil
    rw [hs, allT_succ] at htake
    have hle := allL_take_le l (i + 1)
    rw [htake, List.length_append, List.length_cons, List.length_append] at hle
    have hmem : ∀ s, s ∈ allT (n + 1) l[i] → varB ls.length s.2.1 = true := fun s hs' => hvar s (mem_allL hil hs')
    rw [hs, allT_succ] at hmem
    have hvx := varB_i.1 (hmem _ (List.mem_cons_self))
    simp only at hvx
    have hatl : (atL (n + 1) ls here (l.take i)).length = (allL (n + 1) (l.take i)).length := atL_len _ _ _
    have hVc : ∀ {H' : Heap} {w' : Value}, AgX (blkOf w0) H H' → BlkN H w0 w' → Sub V (vwl 0 (blkOf w') H') := fun h1 h2 => sub_keep hV h1 h2
    have hlx := lab_getD hlab sx.toNat
    have hgl : ∀ {H' : Heap}, AgX (blkOf w0) H H' → ∃ lb lo', la = some ⟨lb, lo', none⟩ ∧ getCells H' lb (lo' + sx.toNat * 2) 2 = some [.int .i64 (ls.getD sx.toNat (0, 0)).1, .int .i64 (ls.getD sx.toNat (0, 0)).2] := by
      intro H' hx
      obtain ⟨b2, o2, h1, h2, _⟩ := lab_at hlv (H := H') (sub_vw (hVc hx (blkN_refl _ _))) hvx.1 hvx.2
      simp only [Value.slice.injEq, and_true] at h1
      have := h2 []
      rw [List.append_nil] at this
      exact ⟨b2, o2, h1, this⟩
    have hgp : ∀ {H' : Heap} (_ : AgX (blkOf w0) H H') (off kk : Nat), off + kk ≤ 8 → getCells H' vb (vo + i * 8 + off) kk = some (([.int .i64 sk, .int .i64 sx, .int .i64 sa, .int .i64 sbb, .int .i64 sc, .int .i64 sg, tv, ev].drop off).take kk) := fun hs off kk h => gc_part (hgc _ (sub_vw (hVc hs (blkN_refl _ _)))) h
    have htl0 := ht.1
    refine lp_step ?_
    refine seq_reg ?_
    simp only [go_sem, binC, e13, e14]
    refine seq_cond (t := true) (by simp only [go_sem, binC]; rw [decide_eq_true (by omega)]) ?_
    simp only [go_sem, binC]
    refine seq_skip (seq_block ?_)
    refine seq_reg ?_
    have hg8 := hgc _ (sub_vw (hVc ht (blkN_refl _ _)))
    simp only [go_sem, binC, e12, e14]
    refine ⟨⟨by omega, by omega⟩, ?_⟩
    simp only [go_sem, binC, Int.toNat_natCast, hg8, otv, oev]
    refine ⟨by omega, ?_⟩
    refine wpc_gen fun H1 hH1 => ?_
    have hx1 : AgX (blkOf w) Hc H1 := hH1 ▸ agx_app_w _ _
    have ht1 : AgX (blkOf w0) H H1 := hH1 ▸ ht.trans (AgX.app [] _ _) (fun _ h _ => h) (fun _ h _ => by cases h)
    have hs1 : H1[Hc.length]? = some ⟨[.int .i64 sk, .int .i64 sx, .int .i64 sa, .int .i64 sbb, .int .i64 sc, .int .i64 sg, tv, ev], 0, 0, false, true⟩ := hH1 ▸ get_new0 _ _
    have hxn1 : AgX [] Hc H1 := hH1 ▸ AgX.app [] _ _
    have hl1 : H1.length = Hc.length + 1 := by rw [hH1, List.length_append]; rfl
    clear hH1
    have ho1 := ho.keep (Nat.le_refl _) hxn1 (fun _ _ => by simp)
    have hp1 := hxn1.get hp (by simp)
    have hh1 := hxn1.get hh (by simp)
    refine seq_reg ?_
    simp only [go_sem, binC, e3, e6, gc_of hh1, inBlk_some]
    refine op_app_ls1 (a := here) ho1 (by simp only [go_sem, binC, e3]) (by (simp only [go_sem, binC]) <;> rfl) rfl ⟨[.int .i64 here.1], [.int .i64 here.2], rfl, ⟨rfl, (labB_rg hhere).1⟩, ⟨rfl, (labB_rg hhere).2⟩⟩ hlo (by omega) (by rw [List.length_append, hatl]; omega) (by omega) fun H2 w2 hx2 _ hn2 ho2 => ?_
    simp only [go_sem, binC]
    have hbnX : ∀ {Hx : Heap} {wa wb : Value}, BlkN H w0 wa → H.length ≤ Hx.length → BlkN Hx wa wb → BlkN H w0 wb := fun h1 h2 h3 b hb => by
      rcases h3 b hb with h | h
      · exact h1 b h
      · exact .inr (by omega)
    have htX : ∀ {Hx Hy : Heap} {wa : Value}, AgX (blkOf w0) H Hx → BlkN H w0 wa → AgX (blkOf wa) Hx Hy → AgX (blkOf w0) H Hy := fun h1 h2 h3 => h1.trans h3 (fun _ h _ => h) (fun b hb hl => by
      rcases h2 b hb with h | h
      · exact h
      · omega)
    have hbn2 : BlkN H w0 w2 := hbnX hbn (by omega) hn2
    have ht2 : AgX (blkOf w0) H H2 := htX ht1 hbn hx2
    have hp2 := hx2.get hp1 (ho1.nbox hp1)
    have hh2 := hx2.get hh1 (ho1.nbox hh1)
    have hs2 := hx2.get hs1 (ho1.nbox hs1)
    have hx2l := hx2.1
    refine seq_regD ?_
    obtain ⟨lb, lo', hla, hgl2⟩ := hgl ht2
    subst hla
    simp only [go_sem, binC, e4, e6, gc_of hp2, gc_of hh2, gc_of hs2, inBlk_some]
    refine ⟨⟨by omega, by omega⟩, ?_⟩
    simp only [go_sem, binC, hgl2]
    refine op_callQ (by simp only [go_sem, binC]; exact gb H2 here _ hhere hlx) ?_
    simp only [go_sem, binC]
    refine ⟨by omega, ?_⟩
    have hin := lboth_bd here (ls.getD sx.toNat (0, 0))
    refine wpc_gen fun H3 hH3 => ?_
    have hxn3 : AgX [] H2 H3 := hH3 ▸ AgX.app [] _ _
    have hin3 : H3[H2.length]? = some ⟨[.int .i64 (lboth here (ls.getD sx.toNat (0, 0))).1, .int .i64 (lboth here (ls.getD sx.toNat (0, 0))).2], 0, 0, false, true⟩ := hH3 ▸ get_new0 _ _
    have hl3 : H3.length = H2.length + 1 := by rw [hH3, List.length_append]; rfl
    clear hH3
    have ht3 : AgX (blkOf w0) H H3 := ht2.trans hxn3 (fun _ h _ => h) (fun _ h _ => by cases h)
    have ho3 := ho2.keep (Nat.le_refl _) hxn3 (fun _ _ => by simp)
    have hp3 := hxn3.get hp2 (by simp)
    have hh3 := hxn3.get hh2 (by simp)
    have hs3 := hxn3.get hs2 (by simp)
    have hlen2 : (out0 ++ atL (n + 1) ls here (l.take i) ++ [here]).length = out0.length + (allL (n + 1) (l.take i)).length + 1 := by rw [List.length_append, List.length_append, hatl]; rfl
    refine seq_reg ?_
    simp only [go_sem, binC, e4, gc_of hp3, gc_of hs3, gc_of hin3, inBlk_some, hsv, otv]
    obtain ⟨w4, H4, k4, hx4, hn4, ho4⟩ := ih n rfl V H3 lo lo1 _ sv tv w2 ls tl (lboth here (ls.getD sx.toNat (0, 0))) _ (hVc ht3 hbn2) hlo (by omega) hsv hlv htl ho3 (fun s hs' => hmem s (List.mem_cons_of_mem _ (List.mem_append_left _ hs'))) hlab hin (by omega)
    refine op_callN (by simp only [go_sem, binC]; exact k4) ?_
    simp only [go_sem, binC]
    have hbn4 : BlkN H w0 w4 := hbnX hbn2 (by omega) hn4
    have ht4 : AgX (blkOf w0) H H4 := htX ht3 hbn2 hx4
    have hp4 := hx4.get hp3 (ho3.nbox hp3)
    have hh4 := hx4.get hh3 (ho3.nbox hh3)
    have hs4 := hx4.get hs3 (ho3.nbox hs3)
    have hin4 := hx4.get hin3 (ho3.nbox hin3)
    have hx4l := hx4.1
    have hlen4 : (out0 ++ atL (n + 1) ls here (l.take i) ++ [here] ++ atL n ls (lboth here (ls.getD sx.toNat (0, 0))) tl).length = out0.length + (allL (n + 1) (l.take i)).length + 1 + (allL n tl).length := by rw [List.length_append, hlen2, atL_len]
    refine wpc_reg ?_
    simp only [go_sem, binC, e4, gc_of hp4, gc_of hs4, gc_of hin4, inBlk_some, hsv, oev]
    obtain ⟨w5, H5, k5, hx5, hn5, ho5⟩ := ih n rfl V H4 lo lo1 _ sv ev w4 ls el (lboth here (ls.getD sx.toNat (0, 0))) _ (hVc ht4 hbn4) hlo (by omega) hsv hlv hel ho4 (fun s hs' => hmem s (List.mem_cons_of_mem _ (List.mem_append_right _ hs'))) hlab hin (by omega)
    refine op_callN (by simp only [go_sem, binC]; exact k5) ?_
    simp only [go_sem, binC, out_n, thenX_n]
    have hbn5 : BlkN H w0 w5 := hbnX hbn4 (by omega) hn5
    have ht5 : AgX (blkOf w0) H H5 := htX ht4 hbn4 hx5
    have hp5 := hx5.get hp4 (ho4.nbox hp4)
    have hh5 := hx5.get hh4 (ho4.nbox hh4)
    refine wpc_reg ?_
    simp only [go_sem, binC, e14, hw1]
    simp only [go_sem, binC, thenX_n]
    refine ihk (i + 1) _ H5 w5 (by omega) ht5 hbn5 ?_ hp5 hh5 (by simp only [go_sem, binC]) (by simp only [go_sem, binC, e4]) (by simp only [go_sem, binC, e6]) (by simp only [go_sem, binC, e12]) (by simp only [go_sem, binC, e13]) (by simp only [go_sem, binC])
    rw [atL_take ls here l i hil, hs, atT_succ]
    simpa only [List.append_assoc, List.cons_append, List.nil_append] using ho5
theorem iLabels_all {F : Nat → Option IFn} (hf : F 100 = some c_iLabels) (gb : ILBoth F 135) : ∀ n, AtI F 100 n
  | 0 => iLabels_ok hf gb fun m h => by omega
  | n + 1 => iLabels_ok hf gb fun m h => by cases h; exact iLabels_all hf gb n
def AtP (F : Nat → Option IFn) (f : Nat) : Prop := ∀ (H : Heap) (n : Nat) (lv sv : Value) (ls : List (Int × Int)) (l : List (TStep n)), SlR Co.p2 (vw 0 H) lv ls → SlR (Co.step n) (vw 0 H) sv l → (Co.prog n).sm (ls, l) → progB n (ls, l) = true →
  ∃ w H', KC F f [.agg #[lv, sv]] H w H' ∧ (AgX [] H H' ∧ LsV (vw 0 H) Co.p2 2 38 H.length H' w (atL n ls (7, 7) l))
theorem iAt_ok {F : Nat → Option IFn} {f : Nat} (hf : F f = some c_iAt) (gl : ∀ n, AtI F 100 n) (ge : ∀ H, QC F 101 [] H (.agg #[.int .i64 7, .int .i64 7])) : AtP F f := by
  intro H n lv sv ls l r1 r2 hsm hP
  have osv : one sv = true := by obtain ⟨_, a, rfl, _⟩ := r2; rfl
  obtain ⟨_, la, rfl, _⟩ := id r1
  have hcnt := progB_cnt hP hsm
  simp only at hcnt
  refine KC.mk hf rfl ?_
  refine seq_reg ?_
  simp only [go_sem, binC, osv]
  refine wpc_gen fun H1 hH1 => ?_
  have hx1 : AgX [] H H1 := hH1 ▸ AgX.app [] _ _
  have hb : H1[H.length]? = some ⟨[.slice la ls.length ls.length, sv], 0, 0, false, true⟩ := hH1 ▸ get_new0 _ _
  clear hH1
  refine seq_regD ?_
  simp only [go_sem, binC, gc_of hb, inBlk_some, osv]
  refine op_callQ (by simp only [go_sem, binC]; exact ge H1) ?_
  simp only [go_sem, binC]
  obtain ⟨w, H2, k2, hx2, hn2, ho2⟩ := gl n (vw 0 H) H1 H.length H.length _ sv sv nilS ls l (7, 7) [] (fun b cs hb => by
    have := agx_sub hx1 b cs hb
    unfold vw at this
    unfold vwl
    simpa [blkOf, nilS] using this) (Nat.le_refl _) hx1.1 osv r1 r2 LsV.nil (fun s hs => by
      have := progB_sh hP s hs
      simp only [shB, Bool.and_eq_true] at this
      exact this.1) (progB_lab hP) rfl (by simp; omega)
  refine op_callN (by simp only [go_sem, binC]; exact k2) ?_
  simp only [go_sem, binC]
  exact wpc_ret ⟨Or.inr rfl, _, (by (simp only [go_sem, binC]) <;> rfl), hx1.trans hx2 (fun _ h _ => h) (fun b h _ => by simp [blkOf, nilS] at h), by simpa using ho2⟩
end Go.Proofs.YtbjeldblaclpnaaI
end
section
/- All steps of a program; the first step that is not fine (the program's). -/
set_option linter.unusedVariables false
set_option linter.unusedSimpArgs false
namespace Go.Proofs.YtbjeldblaclpnaaI
open Go Go.RowKit
def c_iWhy0 : IFn := ⟨1, 61, [.t 2, .t 3],
 .seq (.reg none [
    ⟨(some 1), none, .box (.t 0)⟩,
    ⟨(some 2), none, .mov (.c (.int .i64 0))⟩,
    ⟨(some 3), none, .mov (.c (.bool false))⟩])
 (.seq (.reg none [
    ⟨(some 8), none, .load true 2 (.t 1)⟩,
    ⟨(some 9), none, .call .k (.f 53) [(.t 8)]⟩,
    ⟨(some 4), none, .mov (.t 9)⟩])
 (.seq (.seq (.reg none [
     ⟨(some 10), none, .fad 1 (.t 1)⟩,
     ⟨(some 11), none, .load false 1 (.t 10)⟩,
     ⟨(some 12), none, .call .k (.f 55) [(.t 11)]⟩,
     ⟨(some 13), none, .len (.t 12)⟩,
     ⟨(some 14), none, .mov (.c (.int .i64 0))⟩])
  (.block 0 (.loop (.seq (.reg none [
       ⟨(some 15), none, .bin .lss (.t 14) (.t 13)⟩])
    (.seq (.cond (.t 15) (.skip) (.exit 0))
    (.seq (.block 1 (.seq (.reg none [
         ⟨(some 16), none, .mov (.t 14)⟩,
         ⟨(some 17), none, .iad 8 (.t 12) (.t 14)⟩,
         ⟨(some 18), none, .load true 8 (.t 17)⟩,
         ⟨(some 6), none, .new [(.int .i64 0), (.int .i64 0), (.int .i64 0), (.int .i64 0), (.int .i64 0), (.int .i64 0), (.slice none 0 0), (.slice none 0 0)]⟩,
         ⟨(some 5), none, .mov (.t 16)⟩,
         ⟨none, none, .store 8 (.t 6) (.t 18)⟩])
      (.seq (.reg none [
         ⟨(some 19), none, .fad 0 (.t 1)⟩,
         ⟨(some 20), none, .load false 1 (.t 19)⟩,
         ⟨(some 21), none, .fad 1 (.t 6)⟩,
         ⟨(some 22), none, .load false 1 (.t 21)⟩,
         ⟨(some 23), none, .iad 2 (.t 20) (.t 22)⟩,
         ⟨(some 24), none, .load true 2 (.t 23)⟩,
         ⟨(some 7), none, .new [(.int .i64 0), (.int .i64 0)]⟩,
         ⟨none, none, .store 2 (.t 7) (.t 24)⟩])
      (.seq (.reg none [
         ⟨(some 25), none, .fad 0 (.t 6)⟩,
         ⟨(some 26), none, .load false 1 (.t 25)⟩])
      (.block 2 (.seq (.reg none [
          ⟨(some 28), none, .bin .eql (.t 26) (.c (.int .i64 1))⟩,
          ⟨(some 27), none, .mov (.t 28)⟩])
       (.cond (.t 27) (.seq (.reg (some 8) [
           ⟨(some 29), none, .load true 2 (.t 1)⟩,
           ⟨(some 30), none, .load true 8 (.t 6)⟩,
           ⟨(some 31), none, .mov (.t 4)⟩,
           ⟨(some 32), none, .mov (.t 5)⟩,
           ⟨(some 33), none, .iad 2 (.t 31) (.t 32)⟩,
           ⟨(some 34), none, .load true 2 (.t 33)⟩,
           ⟨(some 35), none, .call .q (.f 124) [(.t 29), (.t 30), (.t 34)]⟩,
           ⟨(some 36), none, .load true 2 (.t 7)⟩,
           ⟨(some 37), none, .call .q (.f 125) [(.t 35), (.t 36)]⟩,
           ⟨(some 38), none, .un .not (.t 37)⟩])
        (.cond (.t 38) (.seq (.reg none [
            ⟨(some 39), none, .mov (.t 5)⟩,
            ⟨(some 2), none, .mov (.t 39)⟩,
            ⟨(some 3), none, .mov (.c (.bool true))⟩])
         (.ret)) (.skip))) (.seq (.reg none [
           ⟨(some 41), none, .bin .eql (.t 26) (.c (.int .i64 3))⟩,
           ⟨(some 40), none, .mov (.t 41)⟩])
        (.cond (.t 40) (.seq (.reg (some 14) [
            ⟨(some 42), none, .mov (.t 4)⟩,
            ⟨(some 43), none, .mov (.t 5)⟩,
            ⟨(some 44), none, .iad 2 (.t 42) (.t 43)⟩,
            ⟨(some 45), none, .fad 0 (.t 44)⟩,
            ⟨(some 46), none, .load false 1 (.t 45)⟩,
            ⟨(some 47), none, .fad 5 (.t 6)⟩,
            ⟨(some 48), none, .load false 1 (.t 47)⟩,
            ⟨(some 49), none, .call .q (.f 99) [(.t 46), (.t 48)]⟩,
            ⟨(some 50), none, .un .not (.t 49)⟩,
            ⟨(some 51), none, .mov (.t 50)⟩,
            ⟨(some 52), (some (51, false)), .fad 0 (.t 7)⟩,
            ⟨(some 53), (some (51, false)), .load false 1 (.t 52)⟩,
            ⟨(some 54), (some (51, false)), .fad 5 (.t 6)⟩,
            ⟨(some 55), (some (51, false)), .load false 1 (.t 54)⟩,
            ⟨(some 56), (some (51, false)), .call .q (.f 99) [(.t 53), (.t 55)]⟩,
            ⟨(some 57), (some (51, false)), .un .not (.t 56)⟩,
            ⟨(some 58), none, .pick (.t 51) (.c (.bool true)) (.t 57)⟩])
         (.cond (.t 58) (.seq (.reg none [
             ⟨(some 59), none, .mov (.t 5)⟩,
             ⟨(some 2), none, .mov (.t 59)⟩,
             ⟨(some 3), none, .mov (.c (.bool true))⟩])
          (.ret)) (.skip))) (.skip))))))))))
    (.reg none [
      ⟨(some 60), none, .bin .add (.t 14) (.c (.int .i64 1))⟩,
      ⟨(some 14), none, .mov (.t 60)⟩])))))))
 (.seq (.reg none [
    ⟨(some 2), none, .mov (.c (.int .i64 0))⟩,
    ⟨(some 3), none, .mov (.c (.bool false))⟩])
 (.ret))))⟩
def c_iTypeOk : IFn := ⟨1, 15, [.t 2],
 .seq (.reg none [
    ⟨(some 1), none, .box (.t 0)⟩,
    ⟨(some 2), none, .mov (.c (.bool false))⟩])
 (.seq (.seq (.reg none [
     ⟨(some 5), none, .load true 2 (.t 1)⟩,
     ⟨(some 6), none, .call .q (.f 61) [(.t 5)]⟩,
     ⟨(some 7), none, .un .not (.t 6)⟩])
  (.cond (.t 7) (.seq (.reg none [
      ⟨(some 2), none, .mov (.c (.bool false))⟩])
   (.ret)) (.skip)))
 (.seq (.reg none [
    ⟨(some 9), none, .load true 2 (.t 1)⟩,
    ⟨(some 10), none, .call .q (.f 86) [(.t 9)]⟩,
    ⟨(some 8), none, .mov (.t 10)⟩,
    ⟨(some 11), none, .ext (.t 8) 0⟩,
    ⟨(some 12), none, .ext (.t 8) 1⟩,
    ⟨(some 3), none, .mov (.t 11)⟩,
    ⟨(some 4), none, .mov (.t 12)⟩])
 (.seq (.reg none [
    ⟨(some 13), none, .mov (.t 4)⟩,
    ⟨(some 14), none, .un .not (.t 13)⟩,
    ⟨(some 2), none, .mov (.t 14)⟩])
 (.ret))))⟩
/-- A step of any depth. -/
def AnyS : Type := Σ n : Nat, TStep (n + 1)
def Co.anyS : Co AnyS := ⟨8, fun V cs s => (Co.step (s.1 + 1)).rd V cs s.2, fun s => (Co.step (s.1 + 1)).sm s.2, fun h h' => (Co.step _).mono h h', fun h => by rw [(Co.step _).len h, step_w], fun h => (Co.step _).ones h⟩
def mkA (n : Nat) (k x : Int) (v : Int × Int × Int) (h : Int) (th el : List (TStep n)) : AnyS := ⟨n, (k, x, v, h, th, el)⟩
def shA (s : AnyS) : Shal := (s.2.1, s.2.2.1, s.2.2.2.1, s.2.2.2.2.1)
def allS : (n : Nat) → TStep n → List AnyS
  | 0, _ => []
  | n + 1, (k, x, v, h, th, el) => mkA n k x v h th el :: ((th.map (allS n)).flatten ++ (el.map (allS n)).flatten)
def allSL (n : Nat) (l : List (TStep n)) : List AnyS := (l.map (allS n)).flatten
theorem allS_succ (n : Nat) (k x : Int) (v : Int × Int × Int) (h : Int) (th el : List (TStep n)) : allS (n + 1) (k, x, v, h, th, el) = mkA n k x v h th el :: (allSL n th ++ allSL n el) := rfl
theorem allS_sh : ∀ (n : Nat) (s : TStep n), (allS n s).map shA = allT n s
  | 0, s => s.elim
  | n + 1, (k, x, v, g, th, el) => by
    have go : ∀ l : List (TStep n), (allSL n l).map shA = allL n l := fun l => by
      unfold allSL allL
      rw [List.map_flatten, List.map_map]
      congr 1
      exact List.map_congr_left fun a _ => allS_sh n a
    rw [allS_succ, allT_succ, List.map_cons, List.map_append, go, go]
    rfl
theorem allSL_sh {n : Nat} (l : List (TStep n)) : (allSL n l).map shA = allL n l := by
  unfold allSL allL
  rw [List.map_flatten, List.map_map]
  congr 1
  exact List.map_congr_left fun a _ => allS_sh n a
theorem allSL_len {n : Nat} (l : List (TStep n)) : (allSL n l).length = (allL n l).length := by rw [← allSL_sh, List.length_map]
theorem allSL_take {n : Nat} (l : List (TStep n)) (i : Nat) (h : i < l.length) : allSL n (l.take (i + 1)) = allSL n (l.take i) ++ allS n l[i] := by
  unfold allSL
  rw [List.take_add_one, List.getElem?_eq_getElem h, List.map_append, List.flatten_append]
  congr 1
  simp
theorem allSL_at {n : Nat} (l : List (TStep n)) {i : Nat} (h : i < (allSL n l).length) (h' : i < (allL n l).length) : shA (allSL n l)[i] = (allL n l)[i] := by
  have e := allSL_sh l
  have : ((allSL n l).map shA)[i]? = (allL n l)[i]? := by rw [e]
  rw [List.getElem?_map, List.getElem?_eq_getElem h, List.getElem?_eq_getElem h', Option.map_some, Option.some.injEq] at this
  exact this
/-- The cells of a step of any depth. -/
theorem anyS_rd {V : Vw} {cs : List Value} {s : AnyS} (h : Co.anyS.rd V cs s) : ∃ (k x a b c g : Int) (tv ev : Value) (tl el : List (TStep s.1)), s.2 = (k, x, (a, b, c), g, tl, el) ∧ cs = [.int .i64 k, .int .i64 x, .int .i64 a, .int .i64 b, .int .i64 c, .int .i64 g, tv, ev] ∧ (RgI k ∧ RgI x ∧ RgI a ∧ RgI b ∧ RgI c ∧ RgI g) ∧ Go.Proofs.YtbjeldblaclpnaaI.one tv = true ∧ Go.Proofs.YtbjeldblaclpnaaI.one ev = true ∧ SlR (Co.step s.1) V tv tl ∧ SlR (Co.step s.1) V ev el := by
  obtain ⟨m, s⟩ := s
  obtain ⟨k, x, ⟨a, bb, c⟩, g, tl, el⟩ := s
  obtain ⟨_, _, rfl, ⟨rfl, r1⟩, _, _, rfl, ⟨rfl, r2⟩, _, _, rfl, ⟨_, _, rfl, ⟨rfl, r3⟩, _, _, rfl, ⟨rfl, r4⟩, ⟨rfl, r5⟩⟩, _, _, rfl, ⟨rfl, r6⟩, _, _, rfl, ⟨tv, rfl, h6⟩, ⟨ev, rfl, h7⟩⟩ := h
  have o6 : Go.Proofs.YtbjeldblaclpnaaI.one tv = true := by obtain ⟨_, _, rfl, _⟩ := h6; rfl
  have o7 : Go.Proofs.YtbjeldblaclpnaaI.one ev = true := by obtain ⟨_, _, rfl, _⟩ := h7; rfl
  exact ⟨k, x, a, bb, c, g, tv, ev, tl, el, rfl, rfl, ⟨r1, r2, r3, r4, r5, r6⟩, o6, o7, h6, h7⟩
def AllP (F : Nat → Option IFn) (f n : Nat) : Prop := ∀ (V : Vw) (H : Heap) (v : Value) (l : List (TStep n)), Sub V (vw 0 H) → SlR (Co.step n) V v l → (allL n l).length ≤ 1000 → ∃ w H', KC F f [v] H w H' ∧ (AgX [] H H' ∧ LsV V Co.anyS 8 85 H.length H' w (allSL n l))
theorem iAll_ok {F : Nat → Option IFn} {f n : Nat} (hf : F f = some c_iAll) (ih : ∀ m, n = m + 1 → AllP F 55 m) : AllP F f n := by
  intro V H v l hV hv hcnt
  have hv0 := hv
  obtain ⟨h0, av, rfl, hv1⟩ := hv
  refine KC.mk hf rfl ?_
  refine seq_reg ?_
  simp only [go_sem, binC]
  refine seq_reg ?_
  simp only [go_sem, binC]
  refine seq_assoc (seq_reg ?_)
  simp only [go_sem, binC]
  refine seq_block (wpc_loop ?_)
  suffices h : ∀ (k i : Nat) (e : Env) (Hc : Heap) (w : Value), i + k = l.length → AgX [] H Hc → LsV V Co.anyS 8 85 H.length Hc w (allSL n (l.take i)) → e 3 = w → e 6 = .slice av l.length l.length → e 7 = .int .i64 l.length → e 8 = .int .i64 i → W F H.length _ e Hc _ from
    h l.length 0 _ H nilS (by omega) (AgX.refl _ _) (by simpa [allSL] using LsV.nil) (by simp only [go_sem, binC]) (by simp only [go_sem, binC]) (by simp only [go_sem, binC]) (by (simp only [go_sem, binC]) <;> rfl)
  intro k
  induction k with
  | zero =>
    intro i e Hc w hi ht ho e3 e6 e7 e8
    refine lp_step ?_
    refine seq_reg ?_
    simp only [go_sem, binC, e7, e8]
    refine seq_cond (t := false) (by simp only [go_sem, binC]; rw [decide_eq_false (by omega)]) ?_
    simp only [go_sem, binC]
    refine seq_exit ?_
    simp only [go_sem, binC, thenX_e, out_e, thenX_n]
    refine seq_reg ?_
    simp only [go_sem, binC, e3]
    rw [List.take_of_length_le (by omega)] at ho
    exact wpc_ret ⟨Or.inr rfl, _, (by (simp only [go_sem, binC]) <;> rfl), ht, ho⟩
  | succ k ihk =>
    intro i e Hc w hi ht ho e3 e6 e7 e8
    have hil : i < l.length := by omega
    cases n with
    | zero => exact (l[i]).elim
    | succ n =>
    have hw1 : IntKind.i64.wrap ((i : Int) + 1) = ((i + 1 : Nat) : Int) := by rw [wrap_id (by omega) (by omega)]; omega
    obtain ⟨vb, vo, sk, sx, sa, sbb, sc, sg, tv, ev, tl, el, hav, hs, rg, otv, oev, hgc, htl, hel⟩ := step_atW hv0 hil
    simp only [Value.slice.injEq, and_true] at hav
    subst hav
    have htake := allL_take l i hil
    rw [hs, allT_succ] at htake
    have hle := allL_take_le l (i + 1)
    rw [htake, List.length_append, List.length_cons, List.length_append] at hle
    have htk := allSL_len (l.take i)
    have htl0 := ht.1
    refine lp_step ?_
    refine seq_reg ?_
    simp only [go_sem, binC, e7, e8]
    refine seq_cond (t := true) (by simp only [go_sem, binC]; rw [decide_eq_true (by omega)]) ?_
    simp only [go_sem, binC]
    refine seq_skip (seq_block ?_)
    refine seq_reg ?_
    have hg8 := hgc _ (hV.trans (agx_sub ht))
    simp only [go_sem, binC, e6, e8]
    refine ⟨⟨by omega, by omega⟩, ?_⟩
    simp only [go_sem, binC, Int.toNat_natCast, hg8, otv, oev]
    refine ⟨by omega, ?_⟩
    refine wpc_gen fun H1 hH1 => ?_
    have hx1 : AgX [] Hc H1 := hH1 ▸ AgX.app [] _ _
    have hs1 : H1[Hc.length]? = some ⟨[.int .i64 sk, .int .i64 sx, .int .i64 sa, .int .i64 sbb, .int .i64 sc, .int .i64 sg, tv, ev], 0, 0, false, true⟩ := hH1 ▸ get_new0 _ _
    have hl1 : H1.length = Hc.length + 1 := by rw [hH1, List.length_append]; rfl
    clear hH1
    have ho1 := ho.keep (Nat.le_refl _) hx1 (fun _ _ => by simp)
    have ht1 := ht.tr hx1
    refine seq_reg ?_
    simp only [go_sem, binC, e3, gc_of hs1, inBlk_some, otv, oev]
    have htX : ∀ {Hx Hy : Heap} {wa : Value} {la : List AnyS}, AgX [] H Hx → LsV V Co.anyS 8 85 H.length Hx wa la → AgX (blkOf wa) Hx Hy → AgX [] H Hy := fun h1 h2 h3 => h1.trans h3 (fun _ h _ => h) (fun b hb hl => by have := (h2.blk hb).1; omega)
    refine op_app_ls1 (a := mkA n sk sx (sa, sbb, sc) sg tl el) ho1 (by simp only [go_sem, binC, e3]) (by (simp only [go_sem, binC]) <;> rfl) rfl (step_rd rg.1 rg.2.1 rg.2.2.1 rg.2.2.2.1 rg.2.2.2.2.1 rg.2.2.2.2.2 htl hel) (Nat.le_refl _) (by omega) (by omega) (by omega) fun H2 w2 hx2 _ hn2 ho2 => ?_
    simp only [go_sem, binC]
    have ht2 : AgX [] H H2 := htX ht1 ho1 hx2
    have hs2 := hx2.get hs1 (ho1.nbox hs1)
    have hx2l := hx2.1
    refine seq_reg ?_
    simp only [go_sem, binC, gc_of hs2, inBlk_some, otv]
    obtain ⟨w3, H3, k3, hx3, ho3'⟩ := ih n rfl V H2 tv tl (hV.trans (agx_sub ht2)) htl (by omega)
    refine op_callK (by simp only [go_sem, binC]; exact k3) ?_
    simp only [go_sem, binC]
    have ho3 := ho2.keep (Nat.le_refl _) hx3 (fun _ _ => by simp)
    have ht3 := ht2.tr hx3
    have hs3 := hx3.get hs2 (by simp)
    have hx3l := hx3.1
    have htl2 := allSL_len tl
    have hel2 := allSL_len el
    have hc2 : (allSL (n + 1) (l.take i) ++ [mkA n sk sx (sa, sbb, sc) sg tl el]).length = (allL (n + 1) (l.take i)).length + 1 := by rw [List.length_append, htk]; rfl
    refine op_app_lsN ho3 (by simp only [go_sem, binC]) (by simp only [go_sem, binC]) ho3' (Nat.le_refl _) (by omega) (by omega) (by omega) fun H4 w4 hx4 _ hn4 ho4 => ?_
    simp only [go_sem, binC]
    have ht4 : AgX [] H H4 := htX ht3 ho3 hx4
    have hs4 := hx4.get hs3 (ho3.nbox hs3)
    have hx4l := hx4.1
    refine wpc_reg ?_
    simp only [go_sem, binC, gc_of hs4, inBlk_some, oev]
    obtain ⟨w5, H5, k5, hx5, ho5'⟩ := ih n rfl V H4 ev el (hV.trans (agx_sub ht4)) hel (by omega)
    refine op_callK (by simp only [go_sem, binC]; exact k5) ?_
    simp only [go_sem, binC]
    have ho5 := ho4.keep (Nat.le_refl _) hx5 (fun _ _ => by simp)
    have ht5 := ht4.tr hx5
    have hx5l := hx5.1
    have hc4 : (allSL (n + 1) (l.take i) ++ [mkA n sk sx (sa, sbb, sc) sg tl el] ++ allSL n tl).length = (allL (n + 1) (l.take i)).length + 1 + (allL n tl).length := by rw [List.length_append, hc2, htl2]
    refine op_app_lsN ho5 (by simp only [go_sem, binC]) (by simp only [go_sem, binC]) ho5' (Nat.le_refl _) (by omega) (by omega) (by omega) fun H6 w6 hx6 _ hn6 ho6 => ?_
    simp only [go_sem, binC, out_n, thenX_n]
    refine wpc_reg ?_
    simp only [go_sem, binC, e8, hw1]
    simp only [go_sem, binC, thenX_n]
    refine ihk (i + 1) _ H6 w6 (by omega) (htX ht5 ho5 hx6) ?_ (by simp only [go_sem, binC]) (by simp only [go_sem, binC, e6]) (by simp only [go_sem, binC, e7]) (by simp only [go_sem, binC])
    rw [allSL_take l i hil, hs, allS_succ]
    simpa only [List.append_assoc, List.cons_append, List.nil_append] using ho6
theorem iAll_all {F : Nat → Option IFn} (hf : F 55 = some c_iAll) : ∀ n, AllP F 55 n
  | 0 => iAll_ok hf fun m h => by omega
  | n + 1 => iAll_ok hf fun m h => by cases h; exact iAll_all hf n
theorem has_both : ∀ a b : Fin 8, ∀ h : Fin 3, hasB (bothS (a.val : Int) b.val 3) h.val = (hasB a.val h.val && hasB b.val h.val) := by decide +kernel
theorem hasB_both {a b h : Int} (ha : 0 ≤ a ∧ a ≤ 7) (hb : 0 ≤ b ∧ b ≤ 7) : hasB (bothS a b 3) h = (hasB a h && hasB b h) := by
  by_cases hh : 0 ≤ h ∧ h ≤ 2
  · obtain ⟨x, rfl⟩ := fin8 ha
    obtain ⟨y, rfl⟩ := fin8 hb
    have := has_both x y ⟨h.toNat, by omega⟩
    rwa [show ((⟨h.toNat, by omega⟩ : Fin 3).val : Int) = h by show ((h.toNat : Nat) : Int) = h; omega] at this
  · have q : ∀ s : Int, hasB s h = false := fun s => by
      cases hs : hasB s h with
      | false => rfl
      | true => exact absurd (hasB_in hs) hh
    rw [q, q, q]
    rfl
theorem gcK {H H' : Heap} {b o m : Nat} {cs : List Value} (h : getCells H b o m = some cs) (hx : AgX [] H H') : getCells H' b o m = some cs := by
  unfold getCells at h ⊢
  split at h
  · rename_i k hk
    rw [hx.get hk (by simp)]
    exact h
  · cases h
theorem atT_lab {ls : List (Int × Int)} (hl : ls.all labB = true) : ∀ (n : Nat) (h : Int × Int) (s : TStep n), labB h = true → (atT n ls h s).all labB = true
  | 0, _, s, _ => s.elim
  | n + 1, h, (k, x, v, g, th, el), hh => by
    have go : ∀ (h : Int × Int) (l : List (TStep n)), labB h = true → (atL n ls h l).all labB = true := fun h l hh => by
      unfold atL
      rw [List.all_eq_true]
      intro a ha
      obtain ⟨aq, h1, h2⟩ := List.mem_flatten.1 ha
      obtain ⟨t, _, rfl⟩ := List.mem_map.1 h1
      exact List.all_eq_true.1 (atT_lab hl n h t hh) a h2
    rw [atT_succ, List.all_cons, List.all_append, hh, go _ _ (lboth_bd _ _), go _ _ (lboth_bd _ _)]
    rfl
theorem atL_lab {n : Nat} {ls : List (Int × Int)} {h : Int × Int} (hl : ls.all labB = true) (hh : labB h = true) (l : List (TStep n)) : (atL n ls h l).all labB = true := by
  unfold atL
  rw [List.all_eq_true]
  intro a ha
  obtain ⟨aq, h1, h2⟩ := List.mem_flatten.1 ha
  obtain ⟨t, _, rfl⟩ := List.mem_map.1 h1
  exact List.all_eq_true.1 (atT_lab hl n h t hh) a h2
/-- Why, of a program that is ok. -/
def WhyI (F : Nat → Option IFn) (f : Nat) : Prop := ∀ (H : Heap) (n : Nat) (lv sv : Value) (ls : List (Int × Int)) (l : List (TStep n)), SlR Co.p2 (vw 0 H) lv ls → SlR (Co.step n) (vw 0 H) sv l → (Co.prog n).sm (ls, l) → progB n (ls, l) = true → QC F f [.agg #[lv, sv]] H (.tuple #[.int .i64 (whyV n (ls, l)).1, .bool (whyV n (ls, l)).2])
theorem iWhy0_ok {F : Nat → Option IFn} {f : Nat} (hf : F f = some c_iWhy0) (ga : AtP F 53) (gl : ∀ n, AllP F 55 n) (gs : ISource F 124) (gf : IFlows F 125) (gh : HasOk F 99) : WhyI F f := by
  intro H n lv sv ls l r1 r2 hsm hP
  have osv : one sv = true := by obtain ⟨_, a, rfl, _⟩ := r2; rfl
  obtain ⟨_, la, rfl, _⟩ := id r1
  have hcnt : (allL n l).length ≤ 8 := progB_cnt hP hsm
  have hlab : ls.all labB = true := progB_lab hP
  have hok : ∀ t ∈ allL n l, shB ls.length t = true := progB_sh hP
  refine QC.mk hf rfl ?_
  refine seq_reg ?_
  simp only [go_sem, binC, osv]
  refine wpc_gen fun H1 hH1 => ?_
  have hx1 : AgX [] H H1 := hH1 ▸ AgX.app [] _ _
  have hb1 : H1[H.length]? = some ⟨[.slice la ls.length ls.length, sv], 0, 0, false, true⟩ := hH1 ▸ get_new0 _ _
  clear hH1
  refine seq_reg ?_
  simp only [go_sem, binC, gc_of hb1, inBlk_some, osv]
  obtain ⟨wa, H2, k2, hx2, oa⟩ := ga H1 n _ sv ls l (r1.mono (agx_sub hx1)) (r2.mono (agx_sub hx1)) hsm hP
  refine op_callK (by simp only [go_sem, binC]; exact k2) ?_
  simp only [go_sem, binC]
  have hb2 := hx2.get hb1 (by simp)
  have hx02 := hx1.tr hx2
  refine seq_assoc (seq_reg ?_)
  simp only [go_sem, binC, gc_of hb2, inBlk_some, osv]
  obtain ⟨wl, H3, k3, hx3, ol⟩ := gl n (vw 0 H) H2 sv l (agx_sub hx02) r2 (by omega)
  refine op_callK (by simp only [go_sem, binC]; exact k3) ?_
  obtain ⟨al, hal⟩ := ol.shape
  have hsl := allSL_len l
  rw [hsl] at hal
  rw [hal]
  simp only [go_sem, binC]
  have hb3 := hx3.get hb2 (by simp)
  have hx03 := hx02.tr hx3
  have oa3 := oa.keep (Nat.le_refl _) hx3 (fun _ _ => by simp)
  have hatl := atL_len ls (7, 7) l
  have hall : (atL n ls (7, 7) l).all labB = true := atL_lab hlab rfl l
  refine seq_block (wpc_loop ?_)
  suffices h : ∀ (k i : Nat) (e : Env) (Hc : Heap), i + k = (allL n l).length → AgX [] H3 Hc → e 1 = ptr H.length 0 → e 4 = wa → e 12 = .slice al (allL n l).length (allL n l).length → e 13 = .int .i64 (allL n l).length → e 14 = .int .i64 i → whyV n (ls, l) = why0 ls ((allL n l).drop i) ((atL n ls (7, 7) l).drop i) i → W F H.length _ e Hc _ from
    h (allL n l).length 0 _ H3 (by omega) (AgX.refl _ _) (by simp only [go_sem, binC]) (by simp only [go_sem, binC]) (by simp only [go_sem, binC]) (by simp only [go_sem, binC]) (by (simp only [go_sem, binC]) <;> rfl) (by rw [whyV_yes hP, List.drop_zero, List.drop_zero])
  intro k
  induction k with
  | zero =>
    intro i e Hc hi hxc e1 e4 e12 e13 e14 hw
    refine lp_step ?_
    refine seq_reg ?_
    simp only [go_sem, binC, e13, e14]
    refine seq_cond (t := false) (by simp only [go_sem, binC]; rw [decide_eq_false (by omega)]) ?_
    simp only [go_sem, binC]
    refine seq_exit ?_
    simp only [go_sem, binC, thenX_e, out_e, thenX_n]
    refine seq_reg ?_
    simp only [go_sem, binC]
    refine wpc_ret ⟨Or.inr rfl, .tuple #[.int .i64 0, .bool false], by simp [resV, resL, res1, putE_get, notT], ?_, rfl⟩
    rw [hw, List.drop_of_length_le (by omega)]
    rfl
  | succ k ih =>
    intro i e Hc hi hxc e1 e4 e12 e13 e14 hw
    have hil : i < (allL n l).length := by omega
    have hia : i < (atL n ls (7, 7) l).length := by omega
    have hw1 : IntKind.i64.wrap ((i : Int) + 1) = ((i + 1 : Nat) : Int) := by rw [wrap_id (by omega) (by omega)]; omega
    have hx0c := hx03.tr hxc
    have hbc := hxc.get hb3 (by simp)
    obtain ⟨ba, ca, hwa, gca, rda⟩ := (oa3.keep (Nat.le_refl _) hxc (fun _ _ => by simp)).at hia
    obtain ⟨bs, cs, hws, gcs, rds⟩ := (ol.keep (Nat.le_refl _) hxc (fun _ _ => by simp)).at (show i < (allSL n l).length by omega)
    rw [hal, hsl] at hws
    simp only [Value.slice.injEq, and_true] at hws
    subst hws
    have hsame := allSL_at l (show i < (allSL n l).length by omega) hil
    obtain ⟨sk, sx, sa, sbb, sc, sg, tv, ev, tl, el, hs2, hcs, rg, otv, oev, _, _⟩ := anyS_rd rds
    have hsh' : shA (allSL n l)[i] = (sk, sx, (sa, sbb, sc), sg) := by unfold shA; rw [hs2]
    rw [hsh'] at hsame
    subst hcs
    have hoki := hok _ (List.getElem_mem hil)
    rw [List.drop_eq_getElem_cons hil, List.drop_eq_getElem_cons hia, why0, ← hsame] at hw
    rw [← hsame] at hoki
    have hoi : labB (atL n ls (7, 7) l)[i] = true := List.all_eq_true.1 hall _ (List.getElem_mem _)
    generalize (atL n ls (7, 7) l)[i] = hr at rda hoi hw
    obtain ⟨ra, rb⟩ := hr
    obtain ⟨_, _, rfl, ⟨hq1, _⟩, ⟨hq2, _⟩⟩ := rda
    simp only at hq1 hq2
    subst hq1 hq2
    simp only [shB, Bool.and_eq_true] at hoki
    have hvx : 0 ≤ sx ∧ sx < ls.length := varB_i.1 hoki.1
    obtain ⟨lb, lo', hla, hgl0, _⟩ := lab_at (r1.mono (agx_sub hx0c)) (H := Hc) (fun _ _ h => h) hvx.1 hvx.2
    simp only [Value.slice.injEq, and_true] at hla
    subst hla
    have hlx := lab_getD hlab sx.toNat
    rw [hatl] at hwa
    have hxcl := hxc.1
    have hx03l := hx03.1
    refine lp_step ?_
    refine seq_reg ?_
    simp only [go_sem, binC, e13, e14]
    refine seq_cond (t := true) (by simp only [go_sem, binC]; rw [decide_eq_true (by omega)]) ?_
    simp only [go_sem, binC]
    refine seq_skip (seq_block ?_)
    refine seq_reg ?_
    simp only [go_sem, binC, e12, e14]
    refine ⟨⟨by omega, by omega⟩, ?_⟩
    simp only [go_sem, binC, Int.toNat_natCast, Nat.zero_add, gcs, otv, oev]
    refine ⟨by omega, ?_⟩
    refine wpc_gen fun H4 hH4 => ?_
    have hx4 : AgX [] Hc H4 := hH4 ▸ AgX.app [] _ _
    have hs4 : H4[Hc.length]? = some ⟨[.int .i64 sk, .int .i64 sx, .int .i64 sa, .int .i64 sbb, .int .i64 sc, .int .i64 sg, tv, ev], 0, 0, false, true⟩ := hH4 ▸ get_new0 _ _
    have hl4 : H4.length = Hc.length + 1 := by rw [hH4, List.length_append]; rfl
    have hgl4 : getCells H4 lb (lo' + sx.toNat * 2) 2 = some [.int .i64 (ls.getD sx.toNat (0, 0)).1, .int .i64 (ls.getD sx.toNat (0, 0)).2] := hH4 ▸ hgl0 _
    clear hH4
    have hb4 := hx4.get hbc (by simp)
    refine seq_reg ?_
    simp only [go_sem, binC, e1, gc_of hb4, gc_of hs4, inBlk_some]
    refine ⟨⟨by omega, by omega⟩, ?_⟩
    simp only [go_sem, binC, hgl4]
    refine ⟨by omega, ?_⟩
    refine wpc_gen fun H5 hH5 => ?_
    have hx5 : AgX [] H4 H5 := hH5 ▸ AgX.app [] _ _
    have ht5 : H5[H4.length]? = some ⟨[.int .i64 (ls.getD sx.toNat (0, 0)).1, .int .i64 (ls.getD sx.toNat (0, 0)).2], 0, 0, false, true⟩ := hH5 ▸ get_new0 _ _
    clear hH5
    have hb5 := hx5.get hb4 (by simp)
    have hs5 := hx5.get hs4 (by simp)
    have hxc5 := hx4.tr hx5
    have hx35 := hxc.tr hxc5
    have gca5 := gcK gca hxc5
    have r15 := r1.mono (agx_sub (hx0c.tr hxc5))
    refine seq_reg ?_
    simp only [go_sem, binC, gc_of hs5, inBlk_some]
    refine wpc_block ?_
    refine seq_reg ?_
    by_cases k1 : sk = 1
    · simp only [go_sem, binC, beq_t k1]
      refine wpc_cond (t := true) rfl ?_
      simp only [go_sem, binC]
      have hval : valB ls.length (sa, sbb, sc) = true := by have := hoki.2; rwa [if_pos k1] at this
      have hsrc := srcL_val hlab hoi hval
      have hfin : fineB ls (sk, sx, (sa, sbb, sc), sg) (ra, rb) = flowsB (srcL ls (sa, sbb, sc) (ra, rb)) (ls.getD sx.toNat (0, 0)) := by
        unfold fineB
        rw [if_pos k1, hsrc]
      refine seq_regD ?_
      simp only [go_sem, binC, e1, e4, hwa, gc_of hb5, gc_of hs5, gc_of ht5, inBlk_some, osv, otv, oev]
      refine ⟨⟨by omega, by omega⟩, ?_⟩
      simp only [go_sem, binC, Int.toNat_natCast, Nat.zero_add, gca5]
      refine op_callQ (by simp only [go_sem, binC]; exact gs H5 _ sv tv ev ls sk sx sa sbb sc sg (ra, rb) osv otv oev rg.2.2.2.1 rg.2.2.2.2.1 r15 hlab hval hoi) ?_
      simp only [go_sem, binC, gc_of ht5, inBlk_some]
      refine op_callQ (by simp only [go_sem, binC]; exact gf H5 _ _ (srcL_lab hoi) hlx) ?_
      rw [← hfin]
      cases hfi : fineB ls (sk, sx, (sa, sbb, sc), sg) (ra, rb) with
      | true =>
        simp only [go_sem, binC]
        refine wpc_cond (t := false) rfl ?_
        simp only [go_sem, binC]
        refine wpc_skip ?_
        simp only [go_sem, binC, out_n, thenX_n]
        refine wpc_reg ?_
        simp only [go_sem, binC, e14, hw1]
        simp only [go_sem, binC, thenX_n]
        rw [hfi, if_pos rfl] at hw
        exact ih (i + 1) _ H5 (by omega) hx35 (by simp only [go_sem, binC, e1]) (by simp only [go_sem, binC, e4]) (by simp only [go_sem, binC, e12]) (by simp only [go_sem, binC, e13]) (by simp only [go_sem, binC]) hw
      | false =>
        simp only [go_sem, binC]
        refine wpc_cond (t := true) rfl ?_
        simp only [go_sem, binC]
        refine seq_reg ?_
        simp only [go_sem, binC]
        refine wpc_ret ?_
        simp only [go_sem, binC, out_r, thenX_r]
        rw [hfi, if_neg (by simp)] at hw
        exact ⟨Or.inr rfl, .tuple #[.int .i64 i, .bool true], by simp [resV, resL, res1, putE_get, notT], by rw [hw], rfl⟩
    simp only [go_sem, binC, beq_f k1]
    refine wpc_cond (t := false) rfl ?_
    simp only [go_sem, binC]
    refine seq_reg ?_
    by_cases k3 : sk = 3
    · simp only [go_sem, binC, beq_t k3]
      refine wpc_cond (t := true) rfl ?_
      simp only [go_sem, binC]
      have hoiB := labB_i.1 hoi
      have hlxB := labB_i.1 hlx
      simp only at hoiB
      have hfin : fineB ls (sk, sx, (sa, sbb, sc), sg) (ra, rb) = (hasB ra sg && hasB (ls.getD sx.toNat (0, 0)).1 sg) := by
        unfold fineB
        rw [if_neg k1, if_pos k3, hasB_both hoiB.1 hlxB.1]
      refine seq_regD ?_
      simp only [go_sem, binC, e4, hwa, gc_of hs5, inBlk_some]
      refine ⟨⟨by omega, by omega⟩, ?_⟩
      have gca50 : getCells H5 ba (i * 2) 1 = some [.int .i64 ra] := by have := gc_part (off := 0) (k := 1) gca5 (by omega); simpa using this
      simp only [go_sem, binC, Int.toNat_natCast, Nat.zero_add, gca50]
      refine op_callQ (by simp only [go_sem, binC]; exact gh H5 ra sg hoiB.1.1 hoiB.1.2) ?_
      cases ha1 : hasB ra sg with
      | false =>
        rw [ha1, Bool.false_and] at hfin
        have hfi := hfin
        simp only [go_sem, binC]
        refine wpc_cond (t := true) rfl ?_
        simp only [go_sem, binC]
        refine seq_reg ?_
        simp only [go_sem, binC]
        refine wpc_ret ?_
        simp only [go_sem, binC, out_r, thenX_r]
        rw [hfi, if_neg (by simp)] at hw
        exact ⟨Or.inr rfl, .tuple #[.int .i64 i, .bool true], by simp [resV, resL, res1, putE_get, notT], by rw [hw], rfl⟩
      | true =>
        rw [ha1, Bool.true_and] at hfin
        simp only [go_sem, binC, gc_of ht5, gc_of hs5, inBlk_some]
        refine op_callQ (by simp only [go_sem, binC]; exact gh H5 _ sg hlxB.1.1 hlxB.1.2) ?_
        rw [← hfin]
        cases hfi : fineB ls (sk, sx, (sa, sbb, sc), sg) (ra, rb) with
        | true =>
          simp only [go_sem, binC]
          refine wpc_cond (t := false) rfl ?_
          simp only [go_sem, binC]
          refine wpc_skip ?_
          simp only [go_sem, binC, out_n, thenX_n]
          refine wpc_reg ?_
          simp only [go_sem, binC, e14, hw1]
          simp only [go_sem, binC, thenX_n]
          rw [hfi, if_pos rfl] at hw
          exact ih (i + 1) _ H5 (by omega) hx35 (by simp only [go_sem, binC, e1]) (by simp only [go_sem, binC, e4]) (by simp only [go_sem, binC, e12]) (by simp only [go_sem, binC, e13]) (by simp only [go_sem, binC]) hw
        | false =>
          simp only [go_sem, binC]
          refine wpc_cond (t := true) rfl ?_
          simp only [go_sem, binC]
          refine seq_reg ?_
          simp only [go_sem, binC]
          refine wpc_ret ?_
          simp only [go_sem, binC, out_r, thenX_r]
          rw [hfi, if_neg (by simp)] at hw
          exact ⟨Or.inr rfl, .tuple #[.int .i64 i, .bool true], by simp [resV, resL, res1, putE_get, notT], by rw [hw], rfl⟩
    · simp only [go_sem, binC, beq_f k3]
      refine wpc_cond (t := false) rfl ?_
      simp only [go_sem, binC]
      refine wpc_skip ?_
      simp only [go_sem, binC, out_n, thenX_n]
      have hfi : fineB ls (sk, sx, (sa, sbb, sc), sg) (ra, rb) = true := by
        unfold fineB
        rw [if_neg k1, if_neg k3]
      refine wpc_reg ?_
      simp only [go_sem, binC, e14, hw1]
      simp only [go_sem, binC, thenX_n]
      rw [hfi, if_pos rfl] at hw
      exact ih (i + 1) _ H5 (by omega) hx35 (by simp only [go_sem, binC, e1]) (by simp only [go_sem, binC, e4]) (by simp only [go_sem, binC, e12]) (by simp only [go_sem, binC, e13]) (by simp only [go_sem, binC]) hw
def typeP (n : Nat) (p : TProg n) : Bool := progB n p && !(whyV n p).2
def TypeP (F : Nat → Option IFn) (f : Nat) : Prop := ∀ (H : Heap) (n : Nat) (lv sv : Value) (ls : List (Int × Int)) (l : List (TStep n)), SlR Co.p2 (vw 0 H) lv ls → SlR (Co.step n) (vw 0 H) sv l → (Co.prog n).sm (ls, l) → QC F f [.agg #[lv, sv]] H (.bool (typeP n (ls, l)))
theorem iTypeOk_ok {F : Nat → Option IFn} {f : Nat} (hf : F f = some c_iTypeOk) (gp : ProgOk F 61) (gw : WhyI F 86) : TypeP F f := by
  intro H n lv sv ls l r1 r2 hsm
  have olv : one lv = true := by obtain ⟨_, a, rfl, _⟩ := r1; rfl
  have osv : one sv = true := by obtain ⟨_, a, rfl, _⟩ := r2; rfl
  refine QC.mk hf rfl ?_
  refine seq_reg ?_
  simp only [go_sem, binC, olv, osv]
  refine wpc_gen fun H1 hH1 => ?_
  have hx1 : AgX [] H H1 := hH1 ▸ AgX.app [] _ _
  have hb : H1[H.length]? = some ⟨[lv, sv], 0, 0, false, true⟩ := hH1 ▸ get_new0 _ _
  clear hH1
  have hS := agx_sub hx1
  unfold typeP
  refine seq_assoc (seq_reg ?_)
  simp only [go_sem, binC, gc_of hb, inBlk_some, olv, osv]
  refine op_callQ (by simp only [go_sem, binC]; exact gp H1 n _ (ls, l) (prog_rd (r1.mono hS) (r2.mono hS)) hsm) ?_
  cases hP : progB n (ls, l) with
  | false =>
    simp only [go_sem, binC]
    refine seq_cond (t := true) rfl ?_
    simp only [go_sem, binC]
    refine seq_assoc (seq_reg ?_)
    simp only [go_sem, binC]
    exact seq_ret ⟨Or.inr rfl, _, (by (simp only [go_sem, binC]) <;> rfl), rfl, rfl⟩
  | true =>
    simp only [go_sem, binC]
    refine seq_cond (t := false) rfl ?_
    simp only [go_sem, binC]
    refine seq_skip (seq_reg ?_)
    simp only [go_sem, binC, gc_of hb, inBlk_some, olv, osv]
    refine op_callQ (by simp only [go_sem, binC]; exact gw H1 n _ _ ls l (r1.mono hS) (r2.mono hS) hsm hP) ?_
    simp only [go_sem, binC]
    refine seq_reg ?_
    simp only [go_sem, binC]
    exact wpc_ret ⟨Or.inr rfl, _, (by (simp only [go_sem, binC]) <;> rfl), rfl, rfl⟩
end Go.Proofs.YtbjeldblaclpnaaI
end
