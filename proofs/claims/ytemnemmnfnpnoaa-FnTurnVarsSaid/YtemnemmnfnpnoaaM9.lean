/- Texts of this proof, merged: Q5, Q5b, I19, Q4. -/
import Derived.Test.YtemnemmnfnpnoaaM5
import Derived.Test.YtemnemmnfnpnoaaM6
import Derived.Test.YtemnemmnfnpnoaaM8
section
/- The program's test of steps: the loop. -/
set_option linter.unusedVariables false
set_option linter.unusedSimpArgs false
namespace Go.Proofs.YtemnemmnfnpnoaaI
open Go Go.RowKit
attribute [local irreducible] optP wpo wpp wpc binI Kc Kp wpOp thenX eqsV
theorem step_bad {k n : Nat} {d a0 a1 a2 a3 a4 a5 : Int} {a6 a7 : List (TStep n)} (h : (decide (d < 1) || !varB k a1 || (!decide (a0 = 1) && !decide ((a2, a3, a4) = (0, 0, 0))) || (!decide (a0 = 3) && !decide (a5 = 0)) || (!decide (a0 = 2) && decide (0 < (a6.length : Int) + a7.length))) = true) : stepB k (n + 1) d (a0, a1, (a2, a3, a4), a5, a6, a7) = false := by
  simp only [stepB]
  generalize (a6.length : Int) + (a7.length : Int) = X at *
  generalize List.all a6 (stepB k n (d - 1)) = A6 at *
  generalize List.all a7 (stepB k n (d - 1)) = A7 at *
  by_cases h1 : d < 1
  · rw [decide_eq_false (show ¬ 1 ≤ d by omega)]; rfl
  cases hv : varB k a1 with
  | false => simp
  | true =>
    by_cases hX : 0 < X
    · have hX0 : ¬ X = 0 := by omega
      by_cases k1 : a0 = 1 <;> by_cases k3 : a0 = 3 <;> by_cases k2 : a0 = 2 <;> simp_all <;> (intros; simp_all) <;> (try omega)
    · by_cases k1 : a0 = 1 <;> by_cases k3 : a0 = 3 <;> by_cases k2 : a0 = 2 <;> simp_all <;> (intros; simp_all) <;> (try omega)
theorem step_bad2 {k n : Nat} {d a0 a1 a2 a3 a4 a5 : Int} {a6 a7 : List (TStep n)} (h : (if a0 = 1 then valB k (a2, a3, a4) else if a0 = 2 then a6.all (stepB k n (d - 1)) && a7.all (stepB k n (d - 1)) else if a0 = 3 then inB a5 0 2 else false) = false) : stepB k (n + 1) d (a0, a1, (a2, a3, a4), a5, a6, a7) = false := by
  simp only [stepB]
  generalize List.all a6 (stepB k n (d - 1)) = A6 at *
  generalize List.all a7 (stepB k n (d - 1)) = A7 at *
  by_cases k1 : a0 = 1 <;> by_cases k3 : a0 = 3 <;> by_cases k2 : a0 = 2 <;> simp_all <;> (intros; simp_all)
theorem step_good {k n : Nat} {d a0 a1 a2 a3 a4 a5 : Int} {a6 a7 : List (TStep n)} (ht : (decide (d < 1) || !varB k a1 || (!decide (a0 = 1) && !decide ((a2, a3, a4) = (0, 0, 0))) || (!decide (a0 = 3) && !decide (a5 = 0)) || (!decide (a0 = 2) && decide (0 < (a6.length : Int) + a7.length))) = false) (h : (if a0 = 1 then valB k (a2, a3, a4) else if a0 = 2 then a6.all (stepB k n (d - 1)) && a7.all (stepB k n (d - 1)) else if a0 = 3 then inB a5 0 2 else false) = true) : stepB k (n + 1) d (a0, a1, (a2, a3, a4), a5, a6, a7) = true := by
  have hX : (0 : Int) ≤ (a6.length : Int) + (a7.length : Int) := by omega
  simp only [stepB]
  generalize (a6.length : Int) + (a7.length : Int) = X at *
  generalize List.all a6 (stepB k n (d - 1)) = A6 at *
  generalize List.all a7 (stepB k n (d - 1)) = A7 at *
  by_cases k1 : a0 = 1 <;> by_cases k3 : a0 = 3 <;> by_cases k2 : a0 = 2 <;> simp_all <;> omega
set_option maxHeartbeats 4000000 in
theorem iSteps_lp {F : Nat → Option IFn} {n m : Nat} (g1 : VarOk F 87) (g2 : ValOk F 88) (g4 : ∀ (H : Heap) (a : Int), QC F 89 [.int .i64 a] H (.bool (inB a 0 2))) (g3 : StepsOk F 59 n) {H : Heap} {v0 v1 : Value} {p0 : List (Int × Int)} {p1 : List (TStep m)} {d : Int}
    (hp : ∀ L, Rd (Co.prog m) true (vw 0 (H ++ L)) (.agg #[v0, v1]) (p0, p1)) {l : List (TStep (n + 1))} {a : Option Addr} (hu : SlR (Co.step (n + 1)) (vw 0 H) (.slice a l.length l.length) l) (hs : (Co.sl (Co.step (n + 1))).sm l) (hd0 : 0 ≤ d) (hd3 : d ≤ 3)
    {K : X → Env → Heap → Prop} (hK1 : ∀ e1 M, l.all (stepB p0.length (n + 1) d) = true → K (.e 0) e1 (H ++ ⟨[v0, v1], 0, 0, false, true⟩ :: M)) (hK2 : ∀ e1 M, e1 6 = .bool false → l.all (stepB p0.length (n + 1) d) = false → K .r e1 (H ++ ⟨[v0, v1], 0, 0, false, true⟩ :: M)) :
    ∀ (k i : Nat) (e : Env) (M : Heap), i + k = l.length → e 2 = .int .i64 d → e 3 = ptr H.length 0 → e 10 = .slice a l.length l.length → e 11 = .int .i64 l.length → e 12 = .int .i64 i → l.all (stepB p0.length (n + 1) d) = (l.drop i).all (stepB p0.length (n + 1) d) →
      W F H.length (.lp c_iStepsB) e (H ++ ⟨[v0, v1], 0, 0, false, true⟩ :: M) K := by
  obtain ⟨h0, a', ha', h2⟩ := hu
  cases ha'
  have hd : IntKind.i64.wrap (d - 1) = d - 1 := wrap_id (by omega) (by omega)
  intro k
  induction k with
  | zero =>
    intro i e M hi e2 e3 e10 e11 e12 hall
    refine lp_step ?_
    refine seq_reg ?_
    simp only [go_sem, binC, e11, e12]
    refine seq_cond (t := false) (by simp only [go_sem, binC]; rw [decide_eq_false (by omega)]) ?_
    simp only [go_sem, binC]
    refine seq_exit ?_
    simp only [go_sem, binC, thenX_e]
    refine hK1 _ _ ?_
    rw [hall, List.drop_of_length_le (by omega)]
    rfl
  | succ k ih =>
    intro i e M hi e2 e3 e10 e11 e12 hall
    have hil : i < l.length := by omega
    rcases h2 with h2 | ⟨b, o, hab, h2⟩
    · rw [h2] at hil; simp at hil
    subst hab
    obtain ⟨cs, h3, h4⟩ := h2 i hil
    have hsm := hs.2 _ (List.getElem_mem hil)
    rw [List.drop_eq_getElem_cons hil, List.all_cons] at hall
    generalize l[i] = x at h4 hsm hall
    obtain ⟨a0, a1, ⟨a2, a3, a4⟩, a5, a6, a7⟩ := x
    obtain ⟨_, _, rfl, ⟨rfl, b0⟩, _, _, rfl, ⟨rfl, b1⟩, _, _, rfl, ⟨_, _, rfl, ⟨rfl, b2⟩, _, _, rfl, ⟨rfl, b3⟩, ⟨rfl, b4⟩⟩, _, _, rfl, ⟨rfl, b5⟩, _, _, rfl, ⟨v6, rfl, r6⟩, ⟨v7, rfl, r7⟩⟩ := h4
    obtain ⟨s0, s1, s2, s3, s6, s7⟩ := hsm
    have r6c := r6
    have r7c := r7
    obtain ⟨u6, x6⟩ := r6.shape
    subst x6
    obtain ⟨u7, x7⟩ := r7.shape
    subst x7
    have ha : IntKind.i64.wrap ((a6.length : Int) + (a7.length : Int)) = (a6.length : Int) + (a7.length : Int) := by
      have h6 : a6.length ≤ 1048576 := s6.1
      have h7 : a7.length ≤ 1048576 := s7.1
      exact wrap_id (by omega) (by omega)
    have g3c := fun L => rng_gc (rng_sub (vw_app 0 H L) h3)
    rw [step_w] at g3c
    simp only [go_sem, binC] at g3c
    have hw1 : IntKind.i64.wrap ((i : Int) + 1) = ((i + 1 : Nat) : Int) := by rw [wrap_id (by omega) (by omega)]; omega
    refine lp_step ?_
    refine seq_reg ?_
    simp only [go_sem, binC, e11, e12]
    refine seq_cond (t := true) (by simp only [go_sem, binC]; rw [decide_eq_true (by omega)]) ?_
    simp only [go_sem, binC]
    refine seq_skip (seq_block (seq_reg ?_))
    simp only [go_sem, binC, e10, e12, g3c]
    refine ⟨⟨by omega, by omega⟩, ?_⟩
    have hE : ∀ L, getCells (H ++ L) H.length 0 2 = inBlk L[0]? 0 2 := fun L => gc_new0 H L 0 2
    refine seq_assoc (seq_reg ?_)
    unfold c_tests
    refine seg1 (c := H.length + (M.length + 1)) (b := H.length) (m := m) (d := d) (a1 := a1) g1 (hp _) (by simp only [go_sem, binC, e2]) (by simp only [go_sem, binC, e3]) (by simp only [go_sem, binC]) (by simp only [go_sem, binC]) (by simp only [go_sem, binC]) (fun x1 m1 t1 => ?_)
    refine seg2 (c := H.length + (M.length + 1)) (a0 := a0) (a2 := a2) (a3 := a3) (a4 := a4) t1 (by rw [m1.2.2.1]; simp only [go_sem, binC]) (by simp only [go_sem, binC]) (by simp only [go_sem, binC]) (fun x2 m2 t2 => ?_)
    refine seg3 (c := H.length + (M.length + 1)) (a0 := a0) (a5 := a5) t2 (by rw [m2.2.2.1, m1.2.2.1]; simp only [go_sem, binC]) (by simp only [go_sem, binC]) (by simp only [go_sem, binC]) (fun x3 m3 t3 => ?_)
    refine seg4 (c := H.length + (M.length + 1)) (a0 := a0) (n6 := a6.length) (n7 := a7.length) (u6 := u6) (u7 := u7) t3 (by rw [m3.2.2.1, m2.2.2.1, m1.2.2.1]; simp only [go_sem, binC]) (by simp only [go_sem, binC]) (by simp only [go_sem, binC]) (by simp only [go_sem, binC]) ha (fun x4 m4 t4 => ?_)
    have mm := (m1.trans m2).trans (m3.trans m4)
    obtain ⟨y2, y3, y8, y10, y11, y12⟩ := mm
    simp only [go_sem, binC] at y2 y3 y8 y10 y11 y12
    rw [e2] at y2
    rw [e3] at y3
    rw [e10] at y10
    rw [e11] at y11
    rw [e12] at y12
    simp only [go_sem, binC]
    obtain ⟨T, hT, t5⟩ : ∃ T, T = _ ∧ x4 60 = .bool T := ⟨_, rfl, t4⟩
    cases T with
    | true =>
      refine seq_cond (t := true) (by simp only [go_sem, binC, t5]) ?_
      simp only [go_sem, binC]
      refine seq_assoc (seq_reg ?_)
      simp only [go_sem, binC]
      refine seq_ret ?_
      simp only [go_sem, binC, out_r, thenX_r]
      refine hK2 _ _ (by simp only [go_sem, binC]) ?_
      rw [hall, step_bad hT.symm, Bool.false_and]
    | false =>
      refine seq_cond (t := false) (by simp only [go_sem, binC, t5]) ?_
      simp only [go_sem, binC]
      refine seq_skip ?_
      have hd1 : 1 ≤ d := by
        by_cases h1 : d < 1
        · rw [decide_eq_true h1] at hT; simp at hT
        · omega
      refine rest_ok (m := m) (p := (p0, p1)) (b := H.length) (c := H.length + (M.length + 1)) (d := d) (a0 := a0) (a1 := a1) (a2 := a2) (a3 := a3) (a4 := a4) (a5 := a5) (a6 := a6) (a7 := a7) g2 g4 g3 (hp _) ⟨_, rfl, _, _, rfl, ⟨rfl, b2⟩, _, _, rfl, ⟨rfl, b3⟩, ⟨rfl, b4⟩⟩ (r6c.mono (vw_app 0 H _)) (r7c.mono (vw_app 0 H _)) s6 s7 hd1 hd3 hd y2 y3 y8 (by simp only [go_sem, binC]) (by simp only [go_sem, binC]) (by simp only [go_sem, binC]) (by simp only [go_sem, binC]) (by simp only [go_sem, binC]) (by simp only [go_sem, binC]) ?_ ?_
      · intro e5 m5 hg
        obtain ⟨z2, z3, z8, z10, z11, z12⟩ := m5
        simp only [go_sem, binC, out_n, thenX_n]
        refine wpc_reg ?_
        simp only [go_sem, binC, z12, y12, hw1, thenX_n]
        refine ih (i + 1) _ _ (by omega) ?_ ?_ ?_ ?_ ?_ ?_
        · simp only [go_sem, binC, z2, y2]
        · simp only [go_sem, binC, z3, y3]
        · simp only [go_sem, binC, z10, y10]
        · simp only [go_sem, binC, z11, y11]
        · simp only [go_sem, binC]
        · rw [hall, step_good hT.symm hg, Bool.true_and]
      · intro e5 h6 hg
        simp only [go_sem, binC, out_r, thenX_r]
        refine hK2 _ _ h6 ?_
        rw [hall, step_bad2 hg, Bool.false_and]
end Go.Proofs.YtemnemmnfnpnoaaI
end
section
/- The program's test of steps, for steps of any depth. -/
set_option linter.unusedVariables false
set_option linter.unusedSimpArgs false
namespace Go.Proofs.YtemnemmnfnpnoaaI
open Go Go.RowKit
theorem iSteps_succ {F : Nat → Option IFn} {f n : Nat} (hf : F f = some c_iSteps) (g1 : VarOk F 87) (g2 : ValOk F 88) (g4 : ∀ (H : Heap) (a : Int), QC F 89 [.int .i64 a] H (.bool (inB a 0 2))) (g3 : StepsOk F 59 n) : StepsOk F f (n + 1) := by
  rintro H m v u ⟨p0, p1⟩ l d hp0 hu hs hd0 hd3
  obtain ⟨pc, hpc, _, _, rfl, ⟨v0, rfl, r0⟩, ⟨v1, rfl, r1⟩⟩ := hp0
  have hp : ∀ L, Rd (Co.prog m) true (vw 0 (H ++ L)) (.agg #[v0, v1]) (p0, p1) := fun L => ⟨_, rfl, _, _, rfl, ⟨_, rfl, r0.mono (vw_app 0 H L)⟩, ⟨_, rfl, r1.mono (vw_app 0 H L)⟩⟩
  simp only [go_sem, binC, Option.some.injEq] at hpc
  subst hpc
  have r0c := r0
  have r1c := r1
  obtain ⟨_, x0⟩ := r0.shape
  subst x0
  obtain ⟨_, x1⟩ := r1.shape
  subst x1
  obtain ⟨a, xa⟩ := hu.shape
  subst xa
  refine QC.mk hf rfl ?_
  refine seq_reg ?_
  simp only [go_sem, binC]
  refine seq_assoc (seq_reg ?_)
  simp only [go_sem, binC]
  refine seq_block (wpc_loop ?_)
  refine iSteps_lp g1 g2 g4 g3 hp hu hs hd0 hd3 ?_ ?_ l.length 0 _ [] (by omega) (by simp only [go_sem, binC]) (by simp only [go_sem, binC]) (by simp only [go_sem, binC]) (by simp only [go_sem, binC]) (by simp only [go_sem, binC]; rfl) rfl
  · intro e1 M hall
    simp only [go_sem, binC, out_e, thenX_n]
    refine seq_reg ?_
    simp only [go_sem, binC]
    exact wpc_ret ⟨Or.inr rfl, .bool true, by simp only [go_sem, binC], by rw [hall], rfl⟩
  · intro e1 M h6 hall
    simp only [go_sem, binC, out_r, thenX_r]
    exact ⟨Or.inr rfl, .bool false, by simp only [go_sem, binC, h6], by rw [hall], rfl⟩
theorem iSteps_z {F : Nat → Option IFn} {f : Nat} (hf : F f = some c_iSteps) : StepsOk F f 0 := by
  rintro H m v u ⟨p0, p1⟩ l d hp0 hu hs hd0 hd3
  obtain ⟨pc, hpc, _, _, rfl, ⟨v0, rfl, r0⟩, ⟨v1, rfl, r1⟩⟩ := hp0
  have hp : ∀ L, Rd (Co.prog m) true (vw 0 (H ++ L)) (.agg #[v0, v1]) (p0, p1) := fun L => ⟨_, rfl, _, _, rfl, ⟨_, rfl, r0.mono (vw_app 0 H L)⟩, ⟨_, rfl, r1.mono (vw_app 0 H L)⟩⟩
  simp only [go_sem, binC, Option.some.injEq] at hpc
  subst hpc
  have r0c := r0
  have r1c := r1
  obtain ⟨_, x0⟩ := r0.shape
  subst x0
  obtain ⟨_, x1⟩ := r1.shape
  subst x1
  obtain ⟨a, xa⟩ := hu.shape
  subst xa
  have hl : l = [] := by
    cases l with
    | nil => rfl
    | cons x r => exact x.elim
  subst hl
  refine QC.mk hf rfl ?_
  refine seq_reg ?_
  simp only [go_sem, binC]
  refine seq_assoc (seq_reg ?_)
  simp only [go_sem, binC]
  refine seq_block (wpc_loop (lp_step ?_))
  refine seq_reg ?_
  simp only [go_sem, binC]
  refine seq_cond (t := false) (by simp only [go_sem, binC]; rw [decide_eq_false (by simp)]) ?_
  simp only [go_sem, binC]
  refine seq_exit ?_
  simp only [go_sem, binC, thenX_e, out_e, thenX_n]
  refine seq_reg ?_
  simp only [go_sem, binC]
  exact wpc_ret ⟨Or.inr rfl, .bool true, by simp only [go_sem, binC], rfl, rfl⟩
theorem iSteps_all {F : Nat → Option IFn} (hf : F 59 = some c_iSteps) (g1 : VarOk F 87) (g2 : ValOk F 88) (g4 : ∀ (H : Heap) (a : Int), QC F 89 [.int .i64 a] H (.bool (inB a 0 2))) : ∀ n, StepsOk F 59 n := by
  intro n
  induction n with
  | zero => exact iSteps_z hf
  | succ n ih => exact iSteps_succ hf g1 g2 g4 ih
end Go.Proofs.YtemnemmnfnpnoaaI
end
section
/- Slices of what is opened with one fuel less. -/
set_option linter.unusedVariables false
set_option linter.unusedSimpArgs false
namespace Go.Proofs.YtemnemmnfnpnoaaI
open Go Go.RowKit Go.ChangeShapes
section
variable {T : Type} {enc : TypeId × Value → T} {P : Program} {w : World} {spare : Nat → Bool} {held : Bool}
theorem Good.slF {α : Type} {A : Co α} {fuel : Nat} {t e : TypeId} {cs : List Value} {x : DataW T × List MemPlace} (ht : P.underlying t = some (.slice e)) (hw : P.cellsOf e = A.w) (h0 : 0 < A.w)
    (h : DataW.trod enc P w 0 spare held fuel t cs = some x) (he : ∀ n cs x, fuel = n + 1 → DataW.trod enc P w 0 spare held n e cs = some x → Good A w cs) : Good (Co.sl A) w cs := by
  rcases DataW.trod_slice ht h with ⟨rfl, _⟩ | ⟨a, len, cap, elems, rest, n, rfl, rfl, _, _, hl, hm, hlen, hel, _, _⟩
  · exact fun H m s => ⟨[], [], m, [.slice none 0 0], by simpa using s, sub_refl m, ⟨_, rfl, by simp, none, rfl, .inl rfl⟩, All2.cons (.inl ⟨rfl, rfl⟩) All2.nil⟩
  intro H m s
  rcases Nat.eq_zero_or_pos len with hz | hpos
  · subst hz
    exact ⟨[], [], m, [.slice (some ⟨0, 1, none⟩) 0 0], by simpa using s, sub_refl m, ⟨_, rfl, by simp, _, rfl, .inl rfl⟩, All2.cons (.inl (.inr ⟨rfl, by simp, _, _, rfl⟩)) All2.nil⟩
  have key : ∀ k, k ≤ len → ∃ (l : List α) (L : Heap) (m' : MM) (big : List Value), l.length = k ∧ big.length = k * A.w ∧ SL m' (H ++ L) w.heap ∧ m.sub m' ∧
      (∀ i (h : i < l.length), A.rd (vw 0 (H ++ L)) ((big.drop (i * A.w)).take A.w) l[i]) ∧ (∀ j v, big[j]? = some v → ∃ v', w.cell? (a.add j) = some v' ∧ VR1 m' v v') := by
    intro k
    induction k with
    | zero => exact fun _ => ⟨[], [], m, [], rfl, by simp, by simpa using s, sub_refl m, fun i h => by simp at h, fun j v h => by simp at h⟩
    | succ k ih =>
      intro hk
      obtain ⟨l, L, m1, big, h1, h2, h3, h4, h5, h6⟩ := ih (by omega)
      have hk' := hel k (by omega)
      have hke : k < elems.length := by omega
      rw [List.getElem?_eq_getElem hke, Option.bind_eq_some_iff, hw] at hk'
      obtain ⟨ck, hc, hd⟩ := hk'
      obtain ⟨b, L2, m2, c2, s2, q2, r2, e2⟩ := he n ck _ rfl hd (H ++ L) m1 h3
      have hcl := A.len r2
      rw [List.append_assoc] at s2 r2
      refine ⟨l ++ [b], L ++ L2, m2, big ++ c2, by simp [h1], by rw [List.length_append, h2, hcl, Nat.succ_mul], s2, sub_trans h4 q2, ?_, ?_⟩
      · intro i hi
        simp only [List.length_append, List.length_cons, List.length_nil, Nat.zero_add] at hi
        by_cases hik : i < l.length
        · have hb : i * A.w + A.w ≤ big.length := by rw [h2, ← Nat.succ_mul]; exact Nat.mul_le_mul_right _ (by omega)
          rw [List.getElem_append_left hik, List.drop_append_of_le_length (by omega), List.take_append_of_le_length (by rw [List.length_drop]; omega)]
          exact A.mono (by rw [← List.append_assoc]; exact vw_app 0 _ _) (h5 i hik)
        · have hik' : i = k := by omega
          subst hik'
          rw [List.getElem_append_right (by omega)]
          have : big.length = i * A.w := h2
          rw [← this, List.drop_left, List.take_of_length_le (by omega)]
          simpa [h1] using r2
      · intro j v hj
        rcases Nat.lt_or_ge j big.length with hjl | hjl
        · rw [List.getElem?_append_left hjl] at hj
          obtain ⟨v', g1, g2⟩ := h6 j v hj
          exact ⟨v', g1, VR1.mono q2 g2⟩
        · rw [List.getElem?_append_right hjl] at hj
          have hj2 : j - big.length < c2.length := (List.getElem?_eq_some_iff.1 hj).1
          obtain ⟨_, _, hcell⟩ := World.cells?_some hc
          have hj3 := hcell (j - big.length) (by omega)
          rw [add_add, ← h2, show big.length + (j - big.length) = j by omega] at hj3
          have hl2 : c2.length = ck.length := e2.1
          have hj4 : j - big.length < ck.length := by omega
          obtain ⟨y, hy, hr⟩ := e2.2 (j - big.length) v hj
          exact ⟨y, hj3.trans hy, hr⟩
  obtain ⟨l, L, m1, big, h1, h2, h3, h4, h5, h6⟩ := key len (Nat.le_refl _)
  have hbig : 0 < big.length := by rw [h2]; exact Nat.mul_pos hpos h0
  obtain ⟨v0, hv0, _⟩ := h6 0 _ (List.getElem?_eq_getElem hbig)
  obtain ⟨cs0, t0, fr0, g1, _, g3⟩ := cell_at hv0
  have hsp := g3 rfl
  have hblt : a.block < w.heap.size := (Array.getElem?_eq_some_iff.1 g1).1
  have hsub : m1.sub (m1.put (H ++ L).length ⟨a.block, a.off, 0, 0, 0⟩) := by
    intro b x hb
    have := h3.dom b x hb
    simp only [MM.put]
    rw [if_neg (by omega)]
    exact hb
  refine ⟨l, L ++ [⟨big, 0, 0, false, false⟩], m1.put (H ++ L).length ⟨a.block, a.off, 0, 0, 0⟩, [.slice (some ⟨(H ++ L).length, 0, none⟩) l.length l.length], ?_, sub_trans h4 hsub, ?_, ?_⟩
  · rw [← List.append_assoc]
    refine ⟨?_, ?_, ?_, ?_⟩
    · intro b x hb
      rcases MM.put_eq hb with ⟨rfl, _⟩ | ⟨_, hb⟩
      · simp
      · have := h3.dom b x hb
        rw [List.length_append]; omega
    · intro b x k hb hk
      rcases MM.put_eq hb with ⟨rfl, rfl⟩ | ⟨_, hb⟩
      · rw [List.getElem?_append_right (Nat.le_refl _)] at hk
        simp only [Nat.sub_self, List.getElem?_cons_zero, Option.some.injEq] at hk
        subst hk
        refine ⟨cs0, t0, fr0, g1, fun j v hj => ?_⟩
        obtain ⟨v', u1, u2⟩ := h6 j v hj
        obtain ⟨cs1, t1, fr1, y1, y2, _⟩ := cell_at u1
        rw [g1] at y1
        cases y1
        exact ⟨v', y2, VR1.mono hsub u2⟩
      · rw [List.getElem?_append_left (h3.dom b x hb)] at hk
        obtain ⟨c1, t1, f1, y1, y2⟩ := h3.cell b x k hb hk
        exact ⟨c1, t1, f1, y1, fun j v hj => let ⟨v', z1, z2⟩ := y2 j v hj; ⟨v', z1, VR1.mono hsub z2⟩⟩
    · intro b x hb
      rcases MM.put_eq hb with ⟨rfl, rfl⟩ | ⟨_, hb⟩
      · exact hblt
      · exact h3.lt b x hb
    · intro b k hk
      rcases get_snoc hk with ⟨_, hk⟩ | ⟨_, rfl⟩
      · exact h3.na b k hk
      · rfl
  · refine ⟨_, rfl, ?_, _, rfl, .inr ⟨_, _, rfl, fun i hi => ⟨_, ?_, A.mono (by rw [← List.append_assoc]; exact vw_app 0 _ _) (h5 i hi)⟩⟩⟩
    · have : maxLen = 9223372036854775807 := by decide
      omega
    · have hb : i * A.w + A.w ≤ big.length := by rw [h2, ← Nat.succ_mul]; exact Nat.mul_le_mul_right _ (by omega)
      unfold rng vw
      rw [if_pos (Nat.zero_le _), ← List.append_assoc, get_new0]
      simp only [List.getElem?_cons_zero, Option.map_some, Nat.zero_add]
      rw [if_pos hb]
  · refine All2.cons (.inl (.inl ⟨_, MM.put_self _ _ _, rfl, cap, ?_, by omega, fun _ => by simp⟩)) All2.nil
    obtain ⟨ab, ao, asp⟩ := a
    simp only at hsp
    subst hsp
    rw [h1]
    rfl
end
def dF : Nat → Nat
  | 0 => 0
  | 1 => 0
  | n + 2 => dF n + 1
end Go.Proofs.YtemnemmnfnpnoaaI
end
section
/- Lists of steps in form: the loops. -/
set_option linter.unusedVariables false
set_option linter.unusedSimpArgs false
namespace Go.Proofs.YtemnemmnfnpnoaaI
open Go Go.RowKit
theorem step_false {V : Vw} {cs : List Value} {a : TStep 0} (h : (Co.step 0).rd V cs a) : False := h
theorem sSteps_ok {F : Nat → Option IFn} {f n : Nat} (hf : F f = some c_sSteps) (g0 : StepOk F 93 n) : StepsOk F f n := by
  rintro H m v u ⟨p0, p1⟩ l d hp0 hu hs hd0 hd3
  obtain ⟨pc, hpc, _, _, rfl, ⟨v0, rfl, r0⟩, ⟨v1, rfl, r1⟩⟩ := hp0
  have hp : ∀ L, Rd (Co.prog m) true (vw 0 (H ++ L)) (.agg #[v0, v1]) (p0, p1) := fun L => ⟨_, rfl, _, _, rfl, ⟨_, rfl, r0.mono (vw_app 0 H L)⟩, ⟨_, rfl, r1.mono (vw_app 0 H L)⟩⟩
  simp only [go_sem, binC, Option.some.injEq] at hpc
  subst hpc
  obtain ⟨_, x0⟩ := r0.shape
  subst x0
  obtain ⟨_, x1⟩ := r1.shape
  subst x1
  have hu' := hu
  obtain ⟨h0, a, rfl, h2⟩ := hu
  refine QC.mk hf rfl ?_
  refine seq_reg ?_
  simp only [go_sem, binC]
  refine seq_assoc (seq_reg ?_)
  simp only [go_sem, binC]
  refine seq_block (wpc_loop ?_)
  suffices h : ∀ (k i : Nat) (e : Env), i + k = l.length → e 1 = .slice a l.length l.length → e 2 = .int .i64 d → e 3 = ptr H.length 0 → e 7 = .int .i64 i → l.all (stepB p0.length n d) = (l.drop i).all (stepB p0.length n d) → W F H.length _ e _ _ from
    h l.length 0 _ (by omega) (by simp only [go_sem, binC]) (by simp only [go_sem, binC]) (by simp only [go_sem, binC]) (by simp only [go_sem, binC]; rfl) rfl
  intro k
  induction k with
  | zero =>
    intro i e hi e1 e2 e3 e7 hall
    refine lp_step ?_
    refine seq_assoc (seq_reg ?_)
    simp only [go_sem, binC, e1, e7]
    refine seq_cond (t := false) (by simp only [go_sem, binC]; rw [decide_eq_false (by omega)]) ?_
    simp only [go_sem, binC]
    refine seq_exit ?_
    simp only [go_sem, binC, thenX_e, out_e, thenX_n]
    refine seq_reg ?_
    simp only [go_sem, binC]
    refine wpc_ret ⟨Or.inr rfl, .bool true, by simp only [go_sem, binC], ?_, rfl⟩
    rw [hall, List.drop_of_length_le (by omega)]
    rfl
  | succ k ih =>
    intro i e hi e1 e2 e3 e7 hall
    have hil : i < l.length := by omega
    rcases h2 with h2 | ⟨b, o, rfl, h2⟩
    · rw [h2] at hil; simp at hil
    obtain ⟨cs, h3, h4⟩ := h2 i hil
    have g3 := fun L => rng_gc (rng_sub (vw_app 0 H L) h3)
    rw [step_w] at g3
    refine lp_step ?_
    refine seq_assoc (seq_reg ?_)
    simp only [go_sem, binC, e1, e7]
    refine seq_cond (t := true) (by simp only [go_sem, binC]; rw [decide_eq_true (by omega)]) ?_
    simp only [go_sem, binC]
    refine seq_skip (seq_block (seq_regD ?_))
    simp only [go_sem, binC, e1, e2, e3, e7, g3]
    refine ⟨⟨by omega, by omega⟩, ?_⟩
    refine op_callB (by simp only [go_sem, binC, e2]; exact g0 _ m _ _ (p0, p1) l[i] d (hp _) ⟨cs, rfl, (Co.step n).mono (vw_app 0 H _) h4⟩ (hs.2 _ (List.getElem_mem _)) hd0 hd3) (fun hb => ?_) (fun hb => ?_)
    · simp only [go_sem, binC]
      refine wpc_cond (t := false) (by simp only [go_sem, binC]) ?_
      simp only [go_sem, binC]
      refine wpc_skip ?_
      simp only [go_sem, binC, out_n, thenX_n]
      refine wpc_reg ?_
      simp only [go_sem, binC, e7]
      have hw1 : IntKind.i64.wrap ((i : Int) + 1) = ((i + 1 : Nat) : Int) := by rw [wrap_id (by omega) (by omega)]; omega
      rw [hw1]
      refine ih (i + 1) _ (by omega) (by simp only [go_sem, binC, e1]) (by simp only [go_sem, binC, e2]) (by simp only [go_sem, binC, e3]) (by simp only [go_sem, binC]) ?_
      rw [hall, List.drop_eq_getElem_cons hil, List.all_cons, hb, Bool.true_and]
    · simp only [go_sem, binC]
      refine wpc_cond (t := true) (by simp only [go_sem, binC]) ?_
      simp only [go_sem, binC]
      refine seq_reg ?_
      simp only [go_sem, binC]
      refine wpc_ret ?_
      simp only [go_sem, binC, out_r, thenX_r]
      refine ⟨Or.inr rfl, .bool false, by simp only [go_sem, binC], ?_, rfl⟩
      rw [hall, List.drop_eq_getElem_cons hil, List.all_cons, hb, Bool.false_and]
theorem sSteps_all {F : Nat → Option IFn} (hf : F 93 = some c_sStep) (hfs : F 66 = some c_sSteps) (g0 : InOk F 110) (g1 : VarOk F 112) (g2 : ValOk F 113) : ∀ n, StepsOk F 66 n ∧ StepOk F 93 n := by
  intro n
  induction n with
  | zero =>
    have z : StepOk F 93 0 := by
      rintro H m v u p a d _ ⟨_, _, h⟩
      exact h.elim
    exact ⟨sSteps_ok hfs z, z⟩
  | succ n ih =>
    have z := sStep_ok hf g0 g1 g2 ih.1
    exact ⟨sSteps_ok hfs z, z⟩
end Go.Proofs.YtemnemmnfnpnoaaI
end
