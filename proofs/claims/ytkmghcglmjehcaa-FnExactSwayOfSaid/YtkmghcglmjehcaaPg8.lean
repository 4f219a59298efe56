/- Texts of this proof, merged: V3, V4, H1, H2, V6, U2, V7, V8, W3, W4, U5, J1, J2, J3, N1, N2, N3, N4, N5, N6, N7, N8, U1, U4, U6, U7, U8, H10, U10, U11, U9, U12, U13, W5. -/
import Derived.Test.YtkmghcglmjehcaaPg6
import Derived.Test.YtkmghcglmjehcaaPg7
section
/- Copies of programs in blocks of one's own, and marks on them. -/
set_option linter.unusedVariables false
set_option linter.unusedSimpArgs false
namespace Go.Proofs.YtkmghcglmjehcaaI
open Go Go.RowKit
theorem toLabel_okS {F : Nat → Option IFn} {f : Nat} (hf : F f = some c_toLabel) : ToOkS F Co.p2 true .q f := by
  refine ToOkS.ofQ ?_
  rintro H v ⟨a0, a1⟩ ⟨cs, hc, _, _, rfl, ⟨rfl, b0⟩, ⟨rfl, b1⟩⟩ hs
  simp only [go_sem, binC, Option.some.injEq] at hc
  subst hc
  refine ⟨_, QC.mk hf rfl ?_, ⟨_, rfl, _, _, rfl, ⟨rfl, b0⟩, ⟨rfl, b1⟩⟩⟩
  repeat (refine seq_reg ?_; simp only [go_sem, binC])
  refine wpc_ret ⟨Or.inr rfl, _, ?_, rfl, rfl⟩
  simp only [go_sem, binC]
theorem toVal_okS {F : Nat → Option IFn} {f : Nat} (hf : F f = some c_toVal) : ToOkS F Co.val true .q f := by
  refine ToOkS.ofQ ?_
  rintro H v ⟨a0, a1, a2⟩ ⟨cs, hc, _, _, rfl, ⟨rfl, b0⟩, _, _, rfl, ⟨rfl, b1⟩, ⟨rfl, b2⟩⟩ hs
  simp only [go_sem, binC, Option.some.injEq] at hc
  subst hc
  refine ⟨_, QC.mk hf rfl ?_, ⟨_, rfl, _, _, rfl, ⟨rfl, b0⟩, _, _, rfl, ⟨rfl, b1⟩, ⟨rfl, b2⟩⟩⟩
  repeat (refine seq_reg ?_; simp only [go_sem, binC])
  refine wpc_ret ⟨Or.inr rfl, _, ?_, rfl, rfl⟩
  simp only [go_sem, binC]
theorem toStep_okS {n : Nat} {F : Nat → Option IFn} {f : Nat} (hf : F f = some c_toStep) (g2 : ToOkS F Co.val true .q 148) (g4 : ToOkS F (Co.sl (Co.step n)) false .k 78) (g5 : ToOkS F (Co.sl (Co.step n)) false .k 78) : ToOkS F (Co.step (n + 1)) true .k f := by
  refine ToOkS.ofK ?_
  rintro H v ⟨a0, a1, ⟨a2, a3, a4⟩, a5, a6, a7⟩ ⟨cs, hc, _, _, rfl, ⟨rfl, b0⟩, _, _, rfl, ⟨rfl, b1⟩, _, _, rfl, ⟨_, _, rfl, ⟨rfl, b2⟩, _, _, rfl, ⟨rfl, b3⟩, ⟨rfl, b4⟩⟩, _, _, rfl, ⟨rfl, b5⟩, _, _, rfl, ⟨v6, rfl, r6⟩, ⟨v7, rfl, r7⟩⟩ ⟨s0, s1, ⟨s2, s3, s4⟩, s5, s6, s7⟩
  simp only [go_sem, binC, Option.some.injEq] at hc
  subst hc
  obtain ⟨_, x6⟩ := r6.shape
  subst x6
  obtain ⟨_, x7⟩ := r7.shape
  subst x7
  refine KC.mk hf rfl ?_
  refine seq_reg ?_
  simp only [go_sem, binC]
  refine seq_reg ?_
  simp only [go_sem, binC]
  refine seq_reg ?_
  simp only [go_sem, binC]
  refine seq_reg ?_
  simp only [go_sem, binC]
  refine seq_reg ?_
  simp only [go_sem, binC]
  refine g2 _ _ ⟨a2, a3, a4⟩ ⟨_, rfl, ⟨_, _, rfl, ⟨rfl, b2⟩, _, _, rfl, ⟨rfl, b3⟩, ⟨rfl, b4⟩⟩⟩ ⟨s2, s3, s4⟩ _ _ _ _ (by simp only [go_sem, binC]) ?_
  rintro w2 L2 ⟨_, hc, _, _, rfl, ⟨rfl, bq2⟩, _, _, rfl, ⟨rfl, bq3⟩, ⟨rfl, bq4⟩⟩
  simp only [go_sem, binC, Option.some.injEq] at hc
  subst hc
  simp only [go_sem, binC]
  refine seq_reg ?_
  simp only [go_sem, binC]
  refine seq_reg ?_
  simp only [go_sem, binC]
  refine g4 _ _ a6 ⟨_, rfl, ⟨_, rfl, r6.mono (vw_app 0 H _)⟩⟩ s6 _ _ _ _ (by simp only [go_sem, binC]) ?_
  rintro w4 L4 ⟨_, hc, vq6, rfl, rq6⟩
  simp only [go_sem, binC, Option.some.injEq] at hc
  subst hc
  obtain ⟨_, xq6⟩ := rq6.shape
  subst xq6
  simp only [go_sem, binC]
  refine seq_reg ?_
  simp only [go_sem, binC]
  refine g5 _ _ a7 ⟨_, rfl, ⟨_, rfl, r7.mono (vw_app 0 H _)⟩⟩ s7 _ _ _ _ (by simp only [go_sem, binC]) ?_
  rintro w5 L5 ⟨_, hc, vq7, rfl, rq7⟩
  simp only [go_sem, binC, Option.some.injEq] at hc
  subst hc
  obtain ⟨_, xq7⟩ := rq7.shape
  subst xq7
  simp only [go_sem, binC]
  refine seq_reg ?_
  simp only [go_sem, binC]
  refine wpc_ret ⟨Or.inr rfl, _, by simp only [go_sem, binC], _, rfl, _, rfl, _, _, rfl, ⟨rfl, b0⟩, _, _, rfl, ⟨rfl, b1⟩, _, _, rfl, ⟨_, _, rfl, ⟨rfl, b2⟩, _, _, rfl, ⟨rfl, b3⟩, ⟨rfl, b4⟩⟩, _, _, rfl, ⟨rfl, b5⟩, _, _, rfl, ⟨_, rfl, rq6.mono (vws_in (H.length + 3) (L2 ++ L4) L5 (by simp only [go_sem, binC]; try omega) (by omega) (by simp only [go_sem, binC]) (by simp only [go_sem, binC]))⟩, ⟨_, rfl, rq7.mono (vws_in (H.length + 3) (L2 ++ (L4 ++ L5)) [] (by simp only [go_sem, binC]; try omega) (by omega) (by simp only [go_sem, binC]) (by simp only [go_sem, binC]))⟩⟩
theorem toProg_okS {n : Nat} {F : Nat → Option IFn} {f : Nat} (hf : F f = some c_toProg) (g0 : ToOkS F (Co.sl Co.p2) false .k 77) (g1 : ToOkS F (Co.sl (Co.step n)) false .k 78) : ToOkS F (Co.prog n) true .k f := by
  refine ToOkS.ofK ?_
  rintro H v ⟨a0, a1⟩ ⟨cs, hc, _, _, rfl, ⟨v0, rfl, r0⟩, ⟨v1, rfl, r1⟩⟩ ⟨s0, s1⟩
  simp only [go_sem, binC, Option.some.injEq] at hc
  subst hc
  obtain ⟨_, x0⟩ := r0.shape
  subst x0
  obtain ⟨_, x1⟩ := r1.shape
  subst x1
  refine KC.mk hf rfl ?_
  refine seq_reg ?_
  simp only [go_sem, binC]
  refine seq_reg ?_
  simp only [go_sem, binC]
  refine seq_reg ?_
  simp only [go_sem, binC]
  refine g0 _ _ a0 ⟨_, rfl, ⟨_, rfl, r0.mono (vw_app 0 H _)⟩⟩ s0 _ _ _ _ (by simp only [go_sem, binC]) ?_
  rintro w0 L0 ⟨_, hc, vq0, rfl, rq0⟩
  simp only [go_sem, binC, Option.some.injEq] at hc
  subst hc
  obtain ⟨_, xq0⟩ := rq0.shape
  subst xq0
  simp only [go_sem, binC]
  refine seq_reg ?_
  simp only [go_sem, binC]
  refine g1 _ _ a1 ⟨_, rfl, ⟨_, rfl, r1.mono (vw_app 0 H _)⟩⟩ s1 _ _ _ _ (by simp only [go_sem, binC]) ?_
  rintro w1 L1 ⟨_, hc, vq1, rfl, rq1⟩
  simp only [go_sem, binC, Option.some.injEq] at hc
  subst hc
  obtain ⟨_, xq1⟩ := rq1.shape
  subst xq1
  simp only [go_sem, binC]
  refine seq_reg ?_
  simp only [go_sem, binC]
  refine wpc_ret ⟨Or.inr rfl, _, by simp only [go_sem, binC], _, rfl, _, rfl, _, _, rfl, ⟨_, rfl, rq0.mono (vws_in (H.length + 3) L0 L1 (by simp only [go_sem, binC]; try omega) (by omega) (by simp only [go_sem, binC]) (by simp only [go_sem, binC]))⟩, ⟨_, rfl, rq1.mono (vws_in (H.length + 3) (L0 ++ L1) [] (by simp only [go_sem, binC]; try omega) (by omega) (by simp only [go_sem, binC]) (by simp only [go_sem, binC]))⟩⟩
theorem toStepsS_all {F : Nat → Option IFn} (h1 : F 124 = some c_toStep) (h2 : F 78 = some (toCall .k 124 8 83 96 [(.int .i64 0), (.int .i64 0), (.int .i64 0), (.int .i64 0), (.int .i64 0), (.int .i64 0), (.slice none 0 0), (.slice none 0 0)] true)) (gv : ToOkS F Co.val true .q 148) : ∀ n, ToOkS F (Co.step n) true .k 124 ∧ ToOkS F (Co.sl (Co.step n)) false .k 78 := by
  intro n
  induction n with
  | zero =>
    have z : ToOkS F (Co.step 0) true .k 124 := by
      rintro H v a ⟨cs, _, h⟩
      exact h.elim
    exact ⟨z, toCallS_ok h2 rfl (by omega) z (step_w 0) (va_t (Co.step 0))⟩
  | succ n ih =>
    have z : ToOkS F (Co.step (n + 1)) true .k 124 := toStep_okS h1 gv ih.2 ih.2
    exact ⟨z, toCallS_ok h2 rfl (by omega) z (step_w (n + 1)) (va_t (Co.step (n + 1)))⟩
theorem szStepsT_all {F : Nat → Option IFn} (h1 : F 122 = some c_szStep) (h2 : F 76 = some (szNest 122 8 true)) : ∀ n, SzT F (Co.step n) true 122 (tT n) ∧ SzT F (Co.sl (Co.step n)) false 76 (tS n) := by
  intro n
  induction n with
  | zero =>
    have z : SzT F (Co.step 0) true 122 (tT 0) := by
      rintro H v a left ⟨cs, _, h⟩
      exact h.elim
    exact ⟨z, szNestT_ok h2 z (step_w 0) (va_t (Co.step 0))⟩
  | succ n ih =>
    have z : SzT F (Co.step (n + 1)) true 122 (tT (n + 1)) := szStepT_ok h1 ih.2 ih.2
    exact ⟨z, szNestT_ok h2 z (step_w (n + 1)) (va_t (Co.step (n + 1)))⟩
theorem markProg_ok {n : Nat} {F : Nat → Option IFn} {f : Nat} (hf : F f = some c_markProg) (g0 : MkOk F (Co.sl Co.p2) false 81 nLab) (s0 : CoSim (Co.sl Co.p2) nLab) (g1 : MkOk F (Co.sl (Co.step n)) false 82 (cS n)) (s1 : CoSim (Co.sl (Co.step n)) (cS n)) : MkOk F (Co.prog n) true f (fun a => nLab a.1 + (cS n) a.2) := by
  rintro H v ⟨a0, a1⟩ lo hi lo0 k ⟨cs, hc, _, _, rfl, ⟨v0, rfl, r0⟩, ⟨v1, rfl, r1⟩⟩ hhi hlo hk hkn
  simp only [go_sem, binC, Option.some.injEq] at hc hkn
  subst hc
  have q0 := r0
  have q1 := r1
  obtain ⟨_, x0⟩ := r0.shape
  subst x0
  obtain ⟨_, x1⟩ := r1.shape
  subst x1
  suffices h : ∃ w H', NC F lo0 f [_, .int .i64 k] H w H' ∧ (w = .int .i64 (k + (((nLab a0 + (cS n) a1 : Nat)) : Int)) ∧ FrI lo hi H H') by
    obtain ⟨w, H', h1, rfl, h2⟩ := h
    exact ⟨H', h1, h2⟩
  refine NC.mk hf rfl ?_
  refine seq_reg ?_
  simp only [go_sem, binC]
  refine wpc_gen fun Hb hHb => ?_
  have hab : Ag 0 H.length H Hb := hHb ▸ ag_app _ _
  have hlb : Hb.length = H.length + 1 := by rw [hHb, List.length_append]; rfl
  have hbx := fun o n => hHb ▸ gc_new0 H _ o n
  simp only [go_sem, binC] at hbx
  have hsb : Sub (vwb lo hi H) (vwb lo hi Hb) := vwb_same fun b _ h => hab b (Nat.zero_le _) (by omega)
  have fr : FrI lo hi H Hb := hHb ▸ FrI.grow _ _
  have fr0 : FrI lo hi Hb Hb := FrI.refl _ _ _
  refine seq_reg ?_
  simp only [go_sem, binC, hbx]
  obtain ⟨d0, x0, y0⟩ := s0 _ _ _ _ a0 fr0.vsim (CsSim.refl _) (show (Co.sl Co.p2).rd (vwb lo hi Hb) _ a0 from ⟨_, rfl, r0.mono hsb⟩)
  obtain ⟨H0, m0, f0⟩ := g0 Hb _ d0 lo hi lo0 (k) ⟨_, (by simp only [go_sem, binC]; rfl), x0⟩ (Nat.le_trans (by omega) fr0.1) hlo (by omega) (by rw [y0]; omega)
  rw [y0] at m0
  refine op_callN (by simp only [go_sem, binC]; exact m0) ?_
  simp only [go_sem, binC]
  have fr00 := fr0.trans f0
  refine seq_reg ?_
  simp only [go_sem, binC, hbx, fun o n => (fr00.gc (b := H.length) (by omega) (.inr hhi) o n).trans (hbx o n)]
  obtain ⟨d1, x1, y1⟩ := s1 _ _ _ _ a1 fr00.vsim (CsSim.refl _) (show (Co.sl (Co.step n)).rd (vwb lo hi Hb) _ a1 from ⟨_, rfl, r1.mono hsb⟩)
  obtain ⟨H1, m1, f1⟩ := g1 H0 _ d1 lo hi lo0 (k + (nLab a0 : Nat)) ⟨_, (by simp only [go_sem, binC]; rfl), x1⟩ (Nat.le_trans (by omega) fr00.1) hlo (by omega) (by rw [y1]; omega)
  rw [y1] at m1
  refine op_callN (by simp only [go_sem, binC]; exact m1) ?_
  simp only [go_sem, binC]
  have fr11 := fr00.trans f1
  refine seq_reg ?_
  simp only [go_sem, binC]
  refine wpc_ret ⟨Or.inr rfl, _, (by simp only [go_sem, binC]; rfl), ?_, fr.trans fr11⟩
  congr 1
  omega
theorem mkLabs_ok {F : Nat → Option IFn} {f : Nat} (hf : F f = some c_mark2) : MkOk F (Co.sl Co.p2) false f nLab := MkOk.flat (AllI.pair AllI.int AllI.int) rfl (by omega) (mark2_ok hf)
end Go.Proofs.YtkmghcglmjehcaaI
end
section
/- Lemmas for laws with marks. -/
set_option linter.unusedVariables false
set_option linter.unusedSimpArgs false
namespace Go.Proofs.YtkmghcglmjehcaaI
open Go Go.RowKit
theorem prog_un {n : Nat} {V : Vw} {v : Value} {ls : List (Int × Int)} {l : List (TStep n)} (h : Rd (Co.prog n) true V v (ls, l)) : ∃ lv sv, v = .agg #[lv, sv] ∧ SlR Co.p2 V lv ls ∧ SlR (Co.step n) V sv l := by
  obtain ⟨cs, hc, _, _, rfl, ⟨v0, rfl, r0⟩, ⟨v1, rfl, r1⟩⟩ := h
  simp only [go_sem, binC, Option.some.injEq] at hc
  exact ⟨v0, v1, hc.symm, r0, r1⟩
theorem ToOkS.x {F : Nat → Option IFn} {α : Type} {A : Co α} {agg : Bool} {m : Mode} {f : Nat} (h : ToOkS F A agg m f) {H : Heap} {v : Value} {a : α} (hr : Rd A agg (vw 0 H) v a) (hs : A.sm a) {e : Env} {lo : Nat} {args : List Opd} {K : Value → Heap → Prop} (ha : args.map (·.ev e) = [v])
    (k : ∀ v' H', AgX [] H H' → Rd A agg (vws H.length H') v' a → K v' H') : wpOp F lo (.call m (.f f) args) e H K :=
  h H v a hr hs e lo args K ha fun v' L hv => k v' _ (AgX.app [] _ _) hv
theorem vws_x {lo : Nat} {H H' : Heap} (hx : AgX [] H H') : Sub (vws lo H) (vw 0 H') := (vws_vw lo H).trans (vw_grow (Nat.zero_le _) fun b _ hb => hx.2 b hb (by simp))
theorem vws_b {lo : Nat} {H H' : Heap} (hx : AgX [] H H') : Sub (vws lo H) (vwb lo H.length H') := Ag.vwb (fun b _ hb => hx.2 b hb (by simp)) (Nat.le_refl _)
theorem FrI.agx {lo hi : Nat} {H1 H H' : Heap} (h : FrI lo hi H H') (hx : AgX [] H1 H) (hl : H1.length ≤ lo) : AgX [] H1 H' := ⟨Nat.le_trans hx.1 h.1, fun b hb _ => (h.out (Nat.lt_of_lt_of_le hb hx.1) (.inl (by omega))).trans (hx.2 b hb (by simp))⟩
theorem FlatB.mono {lo hi hi' w n b o : Nat} {H H' : Heap} {v : Value} (h : FlatB lo hi H w v n b o) (hh : hi ≤ hi') (hH : n = 0 ∨ H'[b]? = H[b]?) : FlatB lo hi' H' w v n b o := by
  obtain ⟨h1, a, h2, h3⟩ := h
  refine ⟨h1, a, h2, ?_⟩
  rcases h3 with h3 | ⟨h3, h4, h5, cs, es, et, ap, h6, h7⟩
  · exact .inl h3
  · rcases hH with hH | hH
    · exact .inl hH
    · exact .inr ⟨h3, h4, by omega, cs, es, et, ap, hH.trans h6, h7⟩
/-- What marks leave alone. -/
theorem mark_out {H : Heap} {n b o m b' : Nat} {k : Int} (h : n = 0 ∨ b' ≠ b) : (if n = 0 then H else markB H b o k m)[b']? = H[b']? := by
  split
  · rfl
  · rename_i h0
    exact markB_ne _ _ _ _ (h.resolve_left h0)
end Go.Proofs.YtkmghcglmjehcaaI
end
section
/- Trees of steps in blocks of one's own. -/
set_option linter.unusedVariables false
set_option linter.unusedSimpArgs false
namespace Go.Proofs.YtkmghcglmjehcaaI
open Go Go.RowKit
end Go.Proofs.YtkmghcglmjehcaaI
end
section
/- Steps copied; steps changed in their place. -/
set_option linter.unusedVariables false
set_option linter.unusedSimpArgs false
namespace Go.Proofs.YtkmghcglmjehcaaI
open Go Go.RowKit
end Go.Proofs.YtkmghcglmjehcaaI
end
section
/- Marks on trees of steps of one's own, and their tests. -/
set_option linter.unusedVariables false
set_option linter.unusedSimpArgs false
namespace Go.Proofs.YtkmghcglmjehcaaI
open Go Go.RowKit
end Go.Proofs.YtkmghcglmjehcaaI
end
section
/- Programs in memory of one's own; a program copied. -/
set_option linter.unusedVariables false
set_option linter.unusedSimpArgs false
namespace Go.Proofs.YtkmghcglmjehcaaI
open Go Go.RowKit
theorem p2_rg {V : Vw} {v : Value} {l : List (Int × Int)} (h : SlR Co.p2 V v l) : ∀ w ∈ l, RgI w.1 ∧ RgI w.2 := by
  intro w hw
  obtain ⟨i, hi, rfl⟩ := List.getElem_of_mem hw
  obtain ⟨_, a, rfl, h2⟩ := h
  rcases h2 with h2 | ⟨b, o, _, h2⟩
  · rw [h2] at hi; simp at hi
  · obtain ⟨cs, _, _, _, _, ⟨_, r1⟩, ⟨_, r2⟩⟩ := h2 i hi
    exact ⟨r1, r2⟩
end Go.Proofs.YtkmghcglmjehcaaI
end
section
/- Tests of marked steps; marks and tests of programs of one's own. -/
set_option linter.unusedVariables false
set_option linter.unusedSimpArgs false
namespace Go.Proofs.YtkmghcglmjehcaaI
open Go Go.RowKit
end Go.Proofs.YtkmghcglmjehcaaI
end
section
/- Marks and tests of programs of one's own. -/
set_option linter.unusedVariables false
set_option linter.unusedSimpArgs false
namespace Go.Proofs.YtkmghcglmjehcaaI
open Go Go.RowKit
end Go.Proofs.YtkmghcglmjehcaaI
end
section
/- Rows of bits made; rows the same in some places. -/
set_option linter.unusedVariables false
set_option linter.unusedSimpArgs false
namespace Go.Proofs.YtkmghcglmjehcaaI
open Go Go.RowKit
def c_sBits : IFn := ⟨2, 21, [.t 4],
 .seq (.reg none [
    ⟨(some 4), none, .mov (.c (.slice none 0 0))⟩])
 (.seq (.reg none [
    ⟨(some 7), none, .lit 1 3 0 [] []⟩,
    ⟨(some 5), none, .mov (.t 7)⟩])
 (.seq (.seq (.reg none [
     ⟨(some 6), none, .mov (.c (.int .i64 0))⟩])
  (.block 0 (.loop (.seq (.seq (.reg none [
        ⟨(some 8), none, .mov (.t 6)⟩,
        ⟨(some 9), none, .mov (.t 1)⟩,
        ⟨(some 10), none, .bin .lss (.t 8) (.t 9)⟩])
     (.cond (.t 10) (.skip) (.exit 0)))
    (.seq (.block 1 (.reg none [
        ⟨(some 13), none, .mov (.t 5)⟩,
        ⟨(some 14), none, .mov (.t 0)⟩,
        ⟨(some 15), none, .mov (.t 6)⟩,
        ⟨(some 16), none, .bin .shr (.t 14) (.t 15)⟩,
        ⟨(some 17), none, .bin .rem (.t 16) (.c (.int .i64 2))⟩,
        ⟨(some 18), none, .lit 1 3 1 [(.int .i64 0)] [(0, 1, (.t 17))]⟩,
        ⟨(some 19), none, .app 1 3 8 false (.t 13) (.t 18)⟩,
        ⟨(some 5), none, .mov (.t 19)⟩]))
    (.reg none [
      ⟨(some 11), none, .mov (.t 6)⟩,
      ⟨(some 12), none, .bin .add (.t 11) (.c (.int .i64 1))⟩,
      ⟨(some 6), none, .mov (.t 12)⟩]))))))
 (.seq (.reg none [
    ⟨(some 20), none, .mov (.t 5)⟩,
    ⟨(some 4), none, .mov (.t 20)⟩])
 (.ret))))⟩
def c_iBits : IFn := ⟨2, 20, [.t 4],
 .seq (.reg none [
    ⟨(some 4), none, .mov (.c (.slice none 0 0))⟩])
 (.seq (.reg none [
    ⟨(some 5), none, .mov (.c (.slice none 0 0))⟩])
 (.seq (.seq (.reg none [
     ⟨(some 7), none, .mov (.t 1)⟩,
     ⟨(some 8), none, .mov (.c (.int .i64 0))⟩])
  (.block 0 (.loop (.seq (.reg none [
       ⟨(some 9), none, .bin .lss (.t 8) (.t 7)⟩])
    (.seq (.cond (.t 9) (.skip) (.exit 0))
    (.seq (.block 1 (.seq (.reg none [
         ⟨(some 10), none, .mov (.t 8)⟩,
         ⟨(some 6), none, .mov (.t 10)⟩])
      (.reg none [
        ⟨(some 11), none, .mov (.t 5)⟩,
        ⟨(some 12), none, .mov (.t 0)⟩,
        ⟨(some 13), none, .mov (.t 6)⟩,
        ⟨(some 14), none, .bin .shr (.t 12) (.t 13)⟩,
        ⟨(some 15), none, .bin .and (.t 14) (.c (.int .i64 1))⟩,
        ⟨(some 16), none, .lit 1 3 1 [(.int .i64 0)] [(0, 1, (.t 15))]⟩,
        ⟨(some 17), none, .app 1 3 8 true (.t 11) (.t 16)⟩,
        ⟨(some 5), none, .mov (.t 17)⟩])))
    (.reg none [
      ⟨(some 18), none, .bin .add (.t 8) (.c (.int .i64 1))⟩,
      ⟨(some 8), none, .mov (.t 18)⟩])))))))
 (.seq (.reg none [
    ⟨(some 19), none, .mov (.t 5)⟩,
    ⟨(some 4), none, .mov (.t 19)⟩])
 (.ret))))⟩
def c_sSameV : IFn := ⟨3, 29, [.t 6],
 .seq (.reg none [
    ⟨(some 6), none, .mov (.c (.bool false))⟩])
 (.seq (.seq (.reg none [
     ⟨(some 7), none, .mov (.c (.int .i64 0))⟩])
  (.block 0 (.loop (.seq (.seq (.reg none [
        ⟨(some 8), none, .mov (.t 7)⟩,
        ⟨(some 9), none, .mov (.t 2)⟩,
        ⟨(some 10), none, .len (.t 9)⟩,
        ⟨(some 11), none, .bin .lss (.t 8) (.t 10)⟩])
     (.cond (.t 11) (.skip) (.exit 0)))
    (.seq (.block 1 (.seq (.reg (some 13) [
         ⟨(some 14), none, .mov (.t 2)⟩,
         ⟨(some 15), none, .mov (.t 7)⟩,
         ⟨(some 16), none, .iad 1 (.t 14) (.t 15)⟩,
         ⟨(some 17), none, .load false 1 (.t 16)⟩,
         ⟨(some 18), none, .mov (.t 17)⟩,
         ⟨(some 19), (some (18, true)), .mov (.t 0)⟩,
         ⟨(some 20), (some (18, true)), .mov (.t 7)⟩,
         ⟨(some 21), (some (18, true)), .iad 1 (.t 19) (.t 20)⟩,
         ⟨(some 22), (some (18, true)), .load false 1 (.t 21)⟩,
         ⟨(some 23), (some (18, true)), .mov (.t 1)⟩,
         ⟨(some 24), (some (18, true)), .mov (.t 7)⟩,
         ⟨(some 25), (some (18, true)), .iad 1 (.t 23) (.t 24)⟩,
         ⟨(some 26), (some (18, true)), .load false 1 (.t 25)⟩,
         ⟨(some 27), (some (18, true)), .bin .neq (.t 22) (.t 26)⟩,
         ⟨(some 28), none, .pick (.t 18) (.t 27) (.c (.bool false))⟩])
      (.cond (.t 28) (.seq (.reg none [
          ⟨(some 6), none, .mov (.c (.bool false))⟩])
       (.ret)) (.skip))))
    (.reg none [
      ⟨(some 12), none, .mov (.t 7)⟩,
      ⟨(some 13), none, .bin .add (.t 12) (.c (.int .i64 1))⟩,
      ⟨(some 7), none, .mov (.t 13)⟩]))))))
 (.seq (.reg none [
    ⟨(some 6), none, .mov (.c (.bool true))⟩])
 (.ret)))⟩
theorem bv_nat (x : Nat) : BitVec.ofInt 64 (x : Int) = BitVec.ofNat 64 x := BitVec.ofInt_natCast _ _
theorem binI_shrN {x i : Nat} (hi : i ≤ 64) : binI .shr .i64 (x : Int) (i : Int) = some (.int .i64 ((x / 2 ^ i : Nat) : Int)) := by
  show (if (i : Int) < 0 then none else some (Value.int .i64 ((x : Int).fdiv (2 ^ (min (i : Int).toNat 64))))) = _
  rw [if_neg (by omega), Int.toNat_natCast, Nat.min_eq_left hi, Int.fdiv_eq_ediv_of_nonneg _ (Int.pow_nonneg (by omega))]
  congr 2
theorem binI_remN {x : Nat} : binI .rem .i64 (x : Int) 2 = some (.int .i64 ((x % 2 : Nat) : Int)) := by
  show (if (2 : Int) = 0 then none else some (Value.int .i64 ((x : Int).tmod 2))) = _
  rw [if_neg (by omega)]
  congr 2
theorem binI_shlN {i : Nat} (hi : i ≤ 4) : binI .shl .i64 1 (i : Int) = some (.int .i64 ((2 ^ i : Nat) : Int)) := by
  show (if (i : Int) < 0 then none else some (Value.int .i64 (IntKind.i64.wrap (1 * 2 ^ (min (i : Int).toNat 64))))) = _
  have h1 : (2 : Nat) ^ i ≤ 2 ^ 4 := Nat.pow_le_pow_right (by omega) hi
  have h2 : ((1 : Int) * 2 ^ i) = ((2 ^ i : Nat) : Int) := by simp
  rw [if_neg (by omega), Int.toNat_natCast, Nat.min_eq_left (by omega), h2]
  generalize (2 : Nat) ^ i = m at h1
  rw [wrap_id (by omega) (by omega)]
theorem binI_andN {x y : Nat} (hx : x < 4611686018427387904) (hy : y < 4611686018427387904) : binI .and .i64 (x : Int) (y : Int) = some (.int .i64 ((x &&& y : Nat) : Int)) := by
  show some (Value.int .i64 (IntKind.i64.wrap (((BitVec.ofInt 64 (x : Int) &&& BitVec.ofInt 64 (y : Int)).toNat : Nat) : Int))) = _
  have h : x &&& y ≤ x := Nat.and_le_left
  rw [bv_nat, bv_nat, BitVec.toNat_and, BitVec.toNat_ofNat, BitVec.toNat_ofNat, Nat.mod_eq_of_lt (by omega), Nat.mod_eq_of_lt (by omega), wrap_id (by omega) (by omega)]
theorem binI_orN {x y : Nat} (hx : x < 2 ^ 61) (hy : y < 2 ^ 61) : binI .or .i64 (x : Int) (y : Int) = some (.int .i64 ((x ||| y : Nat) : Int)) := by
  show some (Value.int .i64 (IntKind.i64.wrap (((BitVec.ofInt 64 (x : Int) ||| BitVec.ofInt 64 (y : Int)).toNat : Nat) : Int))) = _
  have h : x ||| y < 2 ^ 61 := Nat.or_lt_two_pow hx hy
  rw [bv_nat, bv_nat, BitVec.toNat_or, BitVec.toNat_ofNat, BitVec.toNat_ofNat, Nat.mod_eq_of_lt (by omega), Nat.mod_eq_of_lt (by omega), wrap_id (by omega) (by omega)]
theorem binI_xorN {x y : Nat} (hx : x < 2 ^ 61) (hy : y < 2 ^ 61) : binI .xor .i64 (x : Int) (y : Int) = some (.int .i64 ((x ^^^ y : Nat) : Int)) := by
  show some (Value.int .i64 (IntKind.i64.wrap (((BitVec.ofInt 64 (x : Int) ^^^ BitVec.ofInt 64 (y : Int)).toNat : Nat) : Int))) = _
  have h : x ^^^ y < 2 ^ 61 := Nat.xor_lt_two_pow hx hy
  rw [bv_nat, bv_nat, BitVec.toNat_xor, BitVec.toNat_ofNat, BitVec.toNat_ofNat, Nat.mod_eq_of_lt (by omega), Nat.mod_eq_of_lt (by omega), wrap_id (by omega) (by omega)]
section
variable {α : Type} {fl : α → List Value} {es et lo : Nat} {H H' : Heap} {v : Value} {l : List α}
/-- A list of flat elements in a block of its own, that only grows. -/
def FlO (fl : α → List Value) (es et lo : Nat) (H : Heap) (v : Value) (l : List α) : Prop := ∃ b so, lo ≤ b ∧ v = sli b 0 l.length ∧ H[b]? = some ⟨l.flatMap fl, es, et, true, so⟩
theorem FlO.nil (h : lo ≤ H.length) : FlO fl es et lo (H ++ [⟨[], es, et, true, true⟩]) (sli H.length 0 0) ([] : List α) := ⟨_, true, h, rfl, get_new0 _ _⟩
theorem FlO.blk (h : FlO fl es et lo H v l) {b : Nat} (hb : b ∈ blkOf v) : lo ≤ b ∧ b < H.length ∧ ∃ cs so, H[b]? = some ⟨cs, es, et, true, so⟩ := by
  obtain ⟨b', so, h1, rfl, h3⟩ := h
  simp only [blkOf, sli, List.mem_singleton] at hb
  subst hb
  exact ⟨h1, (List.getElem?_eq_some_iff.1 h3).1, _, so, h3⟩
theorem FlO.gli (h : FlO fl es et lo H v l) (hl : l ≠ []) : GLi fl es et lo H v l := by
  obtain ⟨b, so, h1, h2, h3⟩ := h
  exact .inr ⟨b, so, h1, h2, hl, h3⟩
theorem FlO.shape (h : FlO fl es et lo H v l) : ∃ a, v = .slice a l.length l.length := by
  obtain ⟨b, so, h1, h2, h3⟩ := h
  exact ⟨_, h2⟩
theorem FlO.slE {β : Type} {A : Co β} {V : Vw} (h : FlO fl es et lo H v ([] : List α)) : SlR A V v [] := by
  obtain ⟨b, so, h1, rfl, h3⟩ := h
  exact ⟨by simp, _, rfl, .inl rfl⟩
theorem FlO.slI {l : List Int} (h : FlO fi es et lo H v l) (hr : ∀ x ∈ l, RgI x) (hl : l.length ≤ 1000) : SlR Co.int (vw 0 H) v l := by
  by_cases h0 : l = []
  · subst h0; exact h.slE
  · exact (h.gli h0).slI (es := es) hr hl
theorem FlO.slP {l : List (Int × Int)} (h : FlO fp 2 et lo H v l) (hr : ∀ p ∈ l, RgI p.1 ∧ RgI p.2) (hl : l.length ≤ 1000) : SlR Co.p2 (vw 0 H) v l := by
  by_cases h0 : l = []
  · subst h0; exact h.slE
  · exact (h.gli h0).slP (es := 1) hr hl
theorem FlO.slB {l : List Bool} (h : FlO fb 1 et lo H v l) (hl : l.length ≤ 1000) : SlR Co.bool (vw 0 H) v l := by
  by_cases h0 : l = []
  · subst h0; exact h.slE
  · exact (h.gli h0).slB (es := 1) hl
theorem op_app_FO {F : Nat → Option IFn} {bytes lo0 : Nat} {x y : Opd} {e : Env} {w : Value} {a : α} {K : Value → Heap → Prop} (hw : ∀ a, (fl a).length = es) (hv : FlO fl es et lo H w l) (hx : x.ev e = w) (hy : y.ev e = sli H.length 0 1) (hlo : lo0 ≤ lo) (hlo2 : lo ≤ H.length) (hl : l.length < 1048576) (hb : bytes ≤ 1048576)
    (k : ∀ H' w', AgX (blkOf w) H H' → FlO fl es et lo H' w' (l ++ [a]) → K w' H') : wpOp F lo0 (.app es et bytes false x y) e (H ++ [⟨fl a, es, et, true, true⟩]) K := by
  have hgl : getCells (H ++ [⟨fl a, es, et, true, true⟩]) H.length 0 (1 * es) = some (fl a) := by
    unfold getCells
    rw [get_new0]
    simp only [List.getElem?_cons_zero, Nat.one_mul, Nat.zero_add]
    rw [if_pos (by rw [hw]; omega), List.drop_zero, List.take_of_length_le (by rw [hw]; omega)]
  obtain ⟨b, so, h1, rfl, h4⟩ := hv
  have hbl := (List.getElem?_eq_some_iff.1 h4).1
  have hbytes : (l.length + 1) * bytes ≤ 1048576 * 1048576 := Nat.mul_le_mul (by omega) hb
  refine op_app _ _ _ _ _ (b := ⟨b, 0, none⟩) (n := l.length) (c := l.length) (a := ⟨H.length, 0, none⟩) (m := 1) (c' := 1) (ys := fl a) (kb := ⟨l.flatMap fl, es, et, true, so⟩) hx hy (by omega) hgl (by show (H ++ [_])[b]? = _; rw [List.getElem?_append_left hbl]; exact h4) ⟨by show lo0 ≤ b; omega, rfl, rfl, rfl, rfl, flat_len hw l, by omega, by omega⟩ ?_
  simp only [Bool.false_eq_true, if_false, Bool.or_false, List.length_append, List.length_cons, List.length_nil, Nat.zero_add]
  rw [List.set_append_left _ _ hbl, List.append_assoc]
  have hag : AgX [b] H (H.set b ⟨l.flatMap fl, es, et, false, so && l.length == 0⟩ ++ ([⟨fl a, es, et, true, true⟩] ++ [⟨l.flatMap fl ++ fl a, es, et, true, so && l.length == 0⟩])) := (AgX.set H b _).trans (AgX.app [] _ _) (fun b h _ => h) (fun b h _ => by cases h)
  refine k _ _ hag ⟨H.length + 1, so && l.length == 0, by omega, by simp, ?_⟩
  have : H.length + 1 = (H.set b ⟨l.flatMap fl, es, et, false, so && l.length == 0⟩).length + 1 := by rw [List.length_set]
  rw [this, get_new]
  simp
/-- A list of flat elements in a block of its own that nobody else has, or nil. -/
def GLs (fl : α → List Value) (es et lo : Nat) (H : Heap) (v : Value) (l : List α) : Prop := (v = nilS ∧ l = []) ∨ ∃ b, lo ≤ b ∧ v = sli b 0 l.length ∧ l ≠ [] ∧ H[b]? = some ⟨l.flatMap fl, es, et, true, true⟩
theorem GLs.gli (h : GLs fl es et lo H v l) : GLi fl es et lo H v l := h.imp id fun ⟨b, h1, h2, h3, h4⟩ => ⟨b, true, h1, h2, h3, h4⟩
theorem GLs.keep {xs : List Nat} (h : GLs fl es et lo H v l) (hx : AgX xs H H') (hn : ∀ b, b ∈ blkOf v → b ∉ xs) : GLs fl es et lo H' v l := by
  rcases h with h | ⟨b, h1, rfl, h3, h4⟩
  · exact .inl h
  · exact .inr ⟨b, h1, rfl, h3, hx.get h4 (hn b (by simp [blkOf, sli]))⟩
theorem GLs.blk (h : GLs fl es et lo H v l) {b : Nat} (hb : b ∈ blkOf v) : lo ≤ b ∧ b < H.length := by
  rcases h with ⟨rfl, _⟩ | ⟨b', h1, rfl, h3, h4⟩
  · simp [blkOf, nilS] at hb
  · simp only [blkOf, sli, List.mem_singleton] at hb
    subst hb
    exact ⟨h1, (List.getElem?_eq_some_iff.1 h4).1⟩
theorem op_app_flK {F : Nat → Option IFn} {bytes lo0 : Nat} {x y : Opd} {e : Env} {w : Value} {a : α} {K : Value → Heap → Prop} (hw : ∀ a, (fl a).length = es) (hv : GLs fl es et lo H w l) (hx : x.ev e = w) (hy : y.ev e = sli H.length 0 1) (hlo : lo0 ≤ lo) (hlo2 : lo ≤ H.length) (hl : l.length < 1048576) (hb : bytes ≤ 1048576)
    (k : ∀ H' w', AgX (blkOf w) H H' → GLs fl es et lo H' w' (l ++ [a]) → K w' H') : wpOp F lo0 (.app es et bytes true x y) e (H ++ [⟨fl a, es, et, true, true⟩]) K := by
  have hgl : getCells (H ++ [⟨fl a, es, et, true, true⟩]) H.length 0 (1 * es) = some (fl a) := by
    unfold getCells
    rw [get_new0]
    simp only [List.getElem?_cons_zero, Nat.one_mul, Nat.zero_add]
    rw [if_pos (by rw [hw]; omega), List.drop_zero, List.take_of_length_le (by rw [hw]; omega)]
  rcases hv with ⟨rfl, rfl⟩ | ⟨b, h1, rfl, h3, h4⟩
  · refine op_app_nil _ _ _ _ _ (a := ⟨H.length, 0, none⟩) (m := 1) hx hy (by omega) hgl (by omega) (by omega) ?_
    rw [List.append_assoc, List.length_append]
    exact k _ _ (AgX.app _ _ _) (.inr ⟨_, by rw [List.length_singleton]; omega, rfl, by simp, by rw [get_new]; simp⟩)
  · have hbl := (List.getElem?_eq_some_iff.1 h4).1
    have hbytes : (l.length + 1) * bytes ≤ 1048576 * 1048576 := Nat.mul_le_mul (by omega) hb
    refine op_app _ _ _ _ _ (b := ⟨b, 0, none⟩) (n := l.length) (c := l.length) (a := ⟨H.length, 0, none⟩) (m := 1) (c' := 1) (ys := fl a) (kb := ⟨l.flatMap fl, es, et, true, true⟩) hx hy (by omega) hgl (by show (H ++ [_])[b]? = _; rw [List.getElem?_append_left hbl]; exact h4) ⟨by show lo0 ≤ b; omega, rfl, rfl, rfl, rfl, flat_len hw l, by omega, by omega⟩ ?_
    simp only [if_true, Bool.or_true, Bool.and_true, Bool.true_and, List.length_append, List.length_cons, List.length_nil, Nat.zero_add]
    rw [List.set_append_left _ _ hbl, List.append_assoc]
    have hag : AgX [b] H (H.set b ⟨[], es, et, false, l.length == 0⟩ ++ ([⟨fl a, es, et, true, true⟩] ++ [⟨l.flatMap fl ++ fl a, es, et, true, true⟩])) := (AgX.set H b _).trans (AgX.app [] _ _) (fun b h _ => h) (fun b h _ => by cases h)
    refine k _ _ hag (.inr ⟨H.length + 1, by omega, by simp, by simp, ?_⟩)
    have : H.length + 1 = (H.set b ⟨[], es, et, false, l.length == 0⟩).length + 1 := by rw [List.length_set]
    rw [this, get_new]
    simp
end
def BitsOk (F : Nat → Option IFn) (f : Nat) : Prop := ∀ (H : Heap) (n k : Nat), n < 4294967296 → k ≤ 4 → ∃ z H', KC F f [.int .i64 n, .int .i64 k] H z H' ∧ AgX [] H H' ∧ SlR Co.int (vw 0 H') z (rowL n k)
def BitsOwn (F : Nat → Option IFn) (f : Nat) : Prop := ∀ (H : Heap) (n k : Nat), n < 4294967296 → k ≤ 4 → ∃ z H', KC F f [.int .i64 n, .int .i64 k] H z H' ∧ AgX [] H H' ∧ GLs fi 1 3 H.length H' z (rowL n k)
theorem rowL_RgI (n k : Nat) : ∀ x ∈ rowL n k, RgI x := fun x hx => by have := rowL_rg n k x hx; unfold RgI; omega
theorem sBits_ok {F : Nat → Option IFn} {f : Nat} (hf : F f = some c_sBits) : BitsOk F f := by
  intro H n k hn hk
  suffices hh : ∃ z H', KC F f [.int .i64 n, .int .i64 k] H z H' ∧ (AgX [] H H' ∧ SlR Co.int (vw 0 H') z (rowL n k)) from hh
  refine KC.mk hf rfl ?_
  refine seq_reg ?_
  simp only [go_sem, binC]
  refine seq_reg ?_
  simp only [go_sem, binC]
  refine wpc_gen fun H1 hH1 => ?_
  have hx1 : AgX [] H H1 := hH1 ▸ AgX.app [] _ _
  have ho1 : FlO fi 1 3 H.length H1 (sli H.length 0 0) [] := hH1 ▸ FlO.nil (Nat.le_refl _)
  clear hH1
  refine seq_assoc (seq_reg ?_)
  simp only [go_sem, binC]
  refine seq_block (wpc_loop ?_)
  suffices hh : ∀ (m i : Nat) (e : Env) (Hc : Heap) (v : Value), i + m = k → AgX [] H Hc → FlO fi 1 3 H.length Hc v (rowL n i) → e 0 = .int .i64 n → e 1 = .int .i64 k → e 5 = v → e 6 = .int .i64 i → W F H.length _ e Hc _ from
    hh k 0 _ H1 _ (by omega) hx1 ho1 (by simp only [go_sem, binC]) (by simp only [go_sem, binC]) (by (simp only [go_sem, binC]) <;> rfl) (by (simp only [go_sem, binC]) <;> rfl)
  intro m
  induction m with
  | zero =>
    intro i e Hc v hi hxc ho e0 e1 e5 e6
    refine lp_step ?_
    refine seq_assoc (seq_reg ?_)
    simp only [go_sem, binC, e1, e6]
    refine seq_cond (t := false) (by simp only [go_sem, binC]; rw [decide_eq_false (by omega)]) ?_
    simp only [go_sem, binC]
    refine seq_exit ?_
    simp only [go_sem, binC, thenX_e, out_e, thenX_n]
    refine seq_reg ?_
    simp only [go_sem, binC, e5]
    obtain rfl : i = k := by omega
    obtain ⟨a, rfl⟩ := ho.shape
    exact wpc_ret ⟨Or.inr rfl, _, (by (simp only [go_sem, binC]) <;> rfl), hxc, ho.slI (rowL_RgI _ _) (by rw [rowL_len]; omega)⟩
  | succ m ih =>
    intro i e Hc v hi hxc ho e0 e1 e5 e6
    have hsh : binI .shr .i64 (n : Int) (i : Int) = some (.int .i64 ((n / 2 ^ i : Nat) : Int)) := binI_shrN (by omega)
    have hrm : binI .rem .i64 ((n / 2 ^ i : Nat) : Int) 2 = some (.int .i64 ((n / 2 ^ i % 2 : Nat) : Int)) := binI_remN
    have hw1 : IntKind.i64.wrap ((i : Int) + 1) = ((i + 1 : Nat) : Int) := by rw [wrap_id (by omega) (by omega)]; omega
    refine lp_step ?_
    refine seq_assoc (seq_reg ?_)
    simp only [go_sem, binC, e1, e6]
    refine seq_cond (t := true) (by simp only [go_sem, binC]; rw [decide_eq_true (by omega)]) ?_
    simp only [go_sem, binC]
    refine seq_skip (seq_block (wpc_reg ?_))
    simp only [go_sem, binC, e5, e0, e6, hsh, hrm]
    have hlc := hxc.1
    have hblk := fun b (hb : b ∈ blkOf v) => (ho.blk hb).1
    refine op_app_FO (fl := fi) (a := ((n / 2 ^ i % 2 : Nat) : Int)) (lo := H.length) (fun _ => rfl) ho (by simp only [go_sem, binC, e5]) (by (simp only [go_sem, binC]) <;> rfl) (Nat.le_refl _) hlc (by rw [rowL_len]; omega) (by omega) fun H3 w3 hx3 q3 => ?_
    simp only [go_sem, binC, out_n, thenX_n]
    refine wpc_reg ?_
    simp only [go_sem, binC, e6, hw1]
    simp only [go_sem, binC, thenX_n]
    rw [← rowL_succ] at q3
    exact ih (i + 1) _ H3 w3 (by omega) (hxc.trans hx3 (fun _ h _ => h) (fun b h1 h2 => by have := hblk b h1; omega)) q3 (by simp only [go_sem, binC, e0]) (by simp only [go_sem, binC, e1]) (by simp only [go_sem, binC]) (by simp only [go_sem, binC])
theorem iBits_ok {F : Nat → Option IFn} {f : Nat} (hf : F f = some c_iBits) : BitsOwn F f := by
  intro H n k hn hk
  suffices hh : ∃ z H', KC F f [.int .i64 n, .int .i64 k] H z H' ∧ (AgX [] H H' ∧ GLs fi 1 3 H.length H' z (rowL n k)) from hh
  refine KC.mk hf rfl ?_
  refine seq_reg ?_
  simp only [go_sem, binC]
  refine seq_reg ?_
  simp only [go_sem, binC]
  refine seq_assoc (seq_reg ?_)
  simp only [go_sem, binC]
  refine seq_block (wpc_loop ?_)
  suffices hh : ∀ (m i : Nat) (e : Env) (Hc : Heap) (v : Value), i + m = k → AgX [] H Hc → GLs fi 1 3 H.length Hc v (rowL n i) → e 0 = .int .i64 n → e 5 = v → e 7 = .int .i64 k → e 8 = .int .i64 i → W F H.length _ e Hc _ from
    hh k 0 _ H _ (by omega) (AgX.refl _ _) (.inl ⟨rfl, rfl⟩) (by simp only [go_sem, binC]) (by (simp only [go_sem, binC]) <;> rfl) (by simp only [go_sem, binC]) (by (simp only [go_sem, binC]) <;> rfl)
  intro m
  induction m with
  | zero =>
    intro i e Hc v hi hxc ho e0 e5 e7 e8
    refine lp_step ?_
    refine seq_reg ?_
    simp only [go_sem, binC, e7, e8]
    refine seq_cond (t := false) (by simp only [go_sem, binC]; rw [decide_eq_false (by omega)]) ?_
    simp only [go_sem, binC]
    refine seq_exit ?_
    simp only [go_sem, binC, thenX_e, out_e, thenX_n]
    refine seq_reg ?_
    simp only [go_sem, binC, e5]
    obtain rfl : i = k := by omega
    have ov := ho.gli.one
    exact wpc_ret ⟨Or.inr rfl, _, (by (simp only [go_sem, binC, ov]) <;> rfl), hxc, ho⟩
  | succ m ih =>
    intro i e Hc v hi hxc ho e0 e5 e7 e8
    have hsh : binI .shr .i64 (n : Int) (i : Int) = some (.int .i64 ((n / 2 ^ i : Nat) : Int)) := binI_shrN (by omega)
    have hdv : n / 2 ^ i ≤ n := Nat.div_le_self _ _
    have hrm : binI .and .i64 ((n / 2 ^ i : Nat) : Int) 1 = some (.int .i64 ((n / 2 ^ i % 2 : Nat) : Int)) := by
      have := binI_andN (x := n / 2 ^ i) (y := 1) (by omega) (by omega)
      rw [Nat.and_one_is_mod] at this
      exact this
    have hw1 : IntKind.i64.wrap ((i : Int) + 1) = ((i + 1 : Nat) : Int) := by rw [wrap_id (by omega) (by omega)]; omega
    refine lp_step ?_
    refine seq_reg ?_
    simp only [go_sem, binC, e7, e8]
    refine seq_cond (t := true) (by simp only [go_sem, binC]; rw [decide_eq_true (by omega)]) ?_
    simp only [go_sem, binC]
    refine seq_skip (seq_block (seq_reg ?_))
    simp only [go_sem, binC, e8]
    refine wpc_reg ?_
    simp only [go_sem, binC, e5, e0, hsh, hrm]
    have hlc := hxc.1
    have hblk := fun b (hb : b ∈ blkOf v) => (ho.blk hb).1
    refine op_app_flK (fl := fi) (a := ((n / 2 ^ i % 2 : Nat) : Int)) (lo := H.length) (fun _ => rfl) ho (by simp only [go_sem, binC, e5]) (by (simp only [go_sem, binC]) <;> rfl) (Nat.le_refl _) hlc (by rw [rowL_len]; omega) (by omega) fun H3 w3 hx3 q3 => ?_
    simp only [go_sem, binC, out_n, thenX_n]
    refine wpc_reg ?_
    simp only [go_sem, binC, e8, hw1]
    simp only [go_sem, binC, thenX_n]
    rw [← rowL_succ] at q3
    exact ih (i + 1) _ H3 w3 (by omega) (hxc.trans hx3 (fun _ h _ => h) (fun b h1 h2 => by have := hblk b h1; omega)) q3 (by simp only [go_sem, binC, e0]) (by simp only [go_sem, binC]) (by simp only [go_sem, binC, e7]) (by simp only [go_sem, binC])
def SameV (F : Nat → Option IFn) (f : Nat) : Prop := ∀ (H : Heap) (v w u : Value) (p q k : Nat) (vs : List Bool), SlR Co.int (vw 0 H) v (rowL p k) → SlR Co.int (vw 0 H) w (rowL q k) → SlR Co.bool (vw 0 H) u vs → vs.length = k → k ≤ 4 → QC F f [v, w, u] H (.bool (sameR vs p q))
theorem sSameV_ok {F : Nat → Option IFn} {f : Nat} (hf : F f = some c_sSameV) : SameV F f := by
  intro H v w u p q k vs hv hw hu hk hk4
  have hlp := rowL_len p k
  have hlq := rowL_len q k
  obtain ⟨_, va, rfl, _⟩ := id hv
  obtain ⟨_, wa, rfl, _⟩ := id hw
  obtain ⟨_, ua, rfl, _⟩ := id hu
  refine QC.mk hf rfl ?_
  refine seq_reg ?_
  simp only [go_sem, binC]
  refine seq_assoc (seq_reg ?_)
  simp only [go_sem, binC]
  refine seq_block (wpc_loop ?_)
  suffices hh : ∀ (m i : Nat) (e : Env), i + m = vs.length → (∀ j, j < i → vs.getD j false = true → p / 2 ^ j % 2 = q / 2 ^ j % 2) → e 0 = .slice va (rowL p k).length (rowL p k).length → e 1 = .slice wa (rowL q k).length (rowL q k).length → e 2 = .slice ua vs.length vs.length → e 7 = .int .i64 i → W F H.length _ e H _ from
    hh vs.length 0 _ (by omega) (fun j h => by omega) (by simp only [go_sem, binC]) (by simp only [go_sem, binC]) (by simp only [go_sem, binC]) (by (simp only [go_sem, binC]) <;> rfl)
  intro m
  induction m with
  | zero =>
    intro i e hi hj e0 e1 e2 e7
    refine lp_step ?_
    refine seq_assoc (seq_reg ?_)
    simp only [go_sem, binC, e2, e7]
    refine seq_cond (t := false) (by simp only [go_sem, binC]; rw [decide_eq_false (by omega)]) ?_
    simp only [go_sem, binC]
    refine seq_exit ?_
    simp only [go_sem, binC, thenX_e, out_e, thenX_n]
    refine seq_reg ?_
    simp only [go_sem, binC]
    refine wpc_ret ⟨Or.inr rfl, _, (by (simp only [go_sem, binC]) <;> rfl), ?_, rfl⟩
    rw [show sameR vs p q = true from sameR_iff.2 fun j h => hj j (by omega)]
  | succ m ih =>
    intro i e hi hj e0 e1 e2 e7
    have hiv : i < vs.length := by omega
    have hw1 : IntKind.i64.wrap ((i : Int) + 1) = ((i + 1 : Nat) : Int) := by rw [wrap_id (by omega) (by omega)]; omega
    obtain ⟨ub, uo, huv, hgu⟩ := gcBo hu hiv
    obtain ⟨vb, vo, hvv, hgv⟩ := gcI0 hv (show i < (rowL p k).length by omega)
    obtain ⟨wb, wo, hwv, hgw⟩ := gcI0 hw (show i < (rowL q k).length by omega)
    simp only [Value.slice.injEq, and_true] at huv hvv hwv
    subst huv hvv hwv
    rw [rowL_get] at hgv hgw
    have hvs : vs.getD i false = vs[i] := by simp [List.getD, hiv]
    refine lp_step ?_
    refine seq_assoc (seq_reg ?_)
    simp only [go_sem, binC, e2, e7]
    refine seq_cond (t := true) (by simp only [go_sem, binC]; rw [decide_eq_true (by omega)]) ?_
    simp only [go_sem, binC]
    refine seq_skip (seq_block (seq_regD ?_))
    simp only [go_sem, binC, e2, e7]
    refine ⟨⟨by omega, by omega⟩, ?_⟩
    simp only [go_sem, binC, Int.toNat_natCast, Nat.mul_one, hgu]
    have hnext : ∀ e' : Env, (vs.getD i false = true → p / 2 ^ i % 2 = q / 2 ^ i % 2) → e' 0 = .slice (some ⟨vb, vo, none⟩) (rowL p k).length (rowL p k).length → e' 1 = .slice (some ⟨wb, wo, none⟩) (rowL q k).length (rowL q k).length → e' 2 = .slice (some ⟨ub, uo, none⟩) vs.length vs.length → e' 7 = .int .i64 ((i + 1 : Nat) : Int) → W F H.length _ e' H _ := fun e' hq q0 q1 q2 q7 => ih (i + 1) e' (by omega) (fun j h1 h2 => by
      rcases Nat.lt_or_ge j i with hl | hl
      · exact hj j hl h2
      · obtain rfl : j = i := by omega
        exact hq h2) q0 q1 q2 q7
    cases hvi : vs[i] with
    | false =>
      simp only [go_sem, binC]
      refine wpc_cond (t := false) rfl ?_
      simp only [go_sem, binC]
      refine wpc_skip ?_
      simp only [go_sem, binC, out_n, thenX_n]
      refine wpc_reg ?_
      simp only [go_sem, binC, e7, hw1]
      simp only [go_sem, binC, thenX_n]
      exact hnext _ (fun h => by rw [hvs, hvi] at h; cases h) (by simp only [go_sem, binC, e0]) (by simp only [go_sem, binC, e1]) (by simp only [go_sem, binC, e2]) (by simp only [go_sem, binC])
    | true =>
      simp only [go_sem, binC, e0, e7]
      refine ⟨⟨by omega, by omega⟩, ?_⟩
      simp only [go_sem, binC, Int.toNat_natCast, Nat.mul_one, hgv, e1, e7]
      refine ⟨⟨by omega, by omega⟩, ?_⟩
      simp only [go_sem, binC, Int.toNat_natCast, Nat.mul_one, hgw]
      by_cases hpq : p / 2 ^ i % 2 = q / 2 ^ i % 2
      · have hne : (((p / 2 ^ i % 2 : Nat) : Int) != ((q / 2 ^ i % 2 : Nat) : Int)) = false := by rw [hpq]; exact bne_self_eq_false _
        simp only [go_sem, binC, hne]
        refine wpc_cond (t := false) rfl ?_
        simp only [go_sem, binC]
        refine wpc_skip ?_
        simp only [go_sem, binC, out_n, thenX_n]
        refine wpc_reg ?_
        simp only [go_sem, binC, e7, hw1]
        simp only [go_sem, binC, thenX_n]
        exact hnext _ (fun _ => hpq) (by simp only [go_sem, binC, e0]) (by simp only [go_sem, binC, e1]) (by simp only [go_sem, binC, e2]) (by simp only [go_sem, binC])
      · have hne : (((p / 2 ^ i % 2 : Nat) : Int) != ((q / 2 ^ i % 2 : Nat) : Int)) = true := by rw [bne_iff_ne]; omega
        simp only [go_sem, binC, hne]
        refine wpc_cond (t := true) rfl ?_
        simp only [go_sem, binC]
        refine seq_reg ?_
        simp only [go_sem, binC]
        refine wpc_ret ?_
        simp only [go_sem, binC, out_r, thenX_r]
        refine ⟨Or.inr rfl, .bool false, by simp only [go_sem, binC], ?_, rfl⟩
        have : sameR vs p q = false := Bool.eq_false_iff.2 fun h => hpq (sameR_iff.1 h i hiv (by rw [hvs, hvi]))
        rw [this]
end Go.Proofs.YtkmghcglmjehcaaI
end
section
/- What is told, what is set, who may know what (the reference's); what differs. -/
set_option linter.unusedVariables false
set_option linter.unusedSimpArgs false
namespace Go.Proofs.YtkmghcglmjehcaaI
open Go Go.RowKit
def c_sRunTo : IFn := ⟨2, 33, [.t 4],
 .seq (.reg none [
    ⟨(some 2), none, .box (.t 0)⟩,
    ⟨(some 4), none, .mov (.c (.slice none 0 0))⟩])
 (.seq (.reg none [
    ⟨(some 7), none, .lit 1 3 0 [] []⟩,
    ⟨(some 5), none, .mov (.t 7)⟩])
 (.seq (.seq (.reg none [
     ⟨(some 6), none, .mov (.c (.int .i64 0))⟩])
  (.block 0 (.loop (.seq (.seq (.reg none [
        ⟨(some 8), none, .mov (.t 6)⟩,
        ⟨(some 9), none, .fad 2 (.t 2)⟩,
        ⟨(some 10), none, .load false 1 (.t 9)⟩,
        ⟨(some 11), none, .len (.t 10)⟩,
        ⟨(some 12), none, .bin .lss (.t 8) (.t 11)⟩])
     (.cond (.t 12) (.skip) (.exit 0)))
    (.seq (.block 1 (.seq (.reg none [
         ⟨(some 15), none, .fad 2 (.t 2)⟩,
         ⟨(some 16), none, .load false 1 (.t 15)⟩,
         ⟨(some 17), none, .mov (.t 6)⟩,
         ⟨(some 18), none, .iad 2 (.t 16) (.t 17)⟩,
         ⟨(some 19), none, .fad 0 (.t 18)⟩,
         ⟨(some 20), none, .load false 1 (.t 19)⟩,
         ⟨(some 21), none, .mov (.t 1)⟩,
         ⟨(some 22), none, .bin .eql (.t 20) (.t 21)⟩])
      (.cond (.t 22) (.reg none [
         ⟨(some 23), none, .mov (.t 5)⟩,
         ⟨(some 24), none, .fad 2 (.t 2)⟩,
         ⟨(some 25), none, .load false 1 (.t 24)⟩,
         ⟨(some 26), none, .mov (.t 6)⟩,
         ⟨(some 27), none, .iad 2 (.t 25) (.t 26)⟩,
         ⟨(some 28), none, .fad 1 (.t 27)⟩,
         ⟨(some 29), none, .load false 1 (.t 28)⟩,
         ⟨(some 30), none, .lit 1 3 1 [(.int .i64 0)] [(0, 1, (.t 29))]⟩,
         ⟨(some 31), none, .app 1 3 8 false (.t 23) (.t 30)⟩,
         ⟨(some 5), none, .mov (.t 31)⟩]) (.skip))))
    (.reg none [
      ⟨(some 13), none, .mov (.t 6)⟩,
      ⟨(some 14), none, .bin .add (.t 13) (.c (.int .i64 1))⟩,
      ⟨(some 6), none, .mov (.t 14)⟩]))))))
 (.seq (.reg none [
    ⟨(some 32), none, .mov (.t 5)⟩,
    ⟨(some 4), none, .mov (.t 32)⟩])
 (.ret))))⟩
def c_sRunSets : IFn := ⟨2, 42, [.t 4],
 .seq (.reg none [
    ⟨(some 2), none, .box (.t 0)⟩,
    ⟨(some 4), none, .mov (.c (.slice none 0 0))⟩])
 (.seq (.reg none [
    ⟨(some 8), none, .lit 2 113 0 [] []⟩,
    ⟨(some 5), none, .mov (.t 8)⟩])
 (.seq (.seq (.reg none [
     ⟨(some 6), none, .mov (.c (.int .i64 0))⟩])
  (.block 0 (.loop (.seq (.seq (.reg none [
        ⟨(some 9), none, .mov (.t 6)⟩,
        ⟨(some 10), none, .fad 1 (.t 2)⟩,
        ⟨(some 11), none, .load false 1 (.t 10)⟩,
        ⟨(some 12), none, .len (.t 11)⟩,
        ⟨(some 13), none, .bin .lss (.t 9) (.t 12)⟩])
     (.cond (.t 13) (.skip) (.exit 0)))
    (.seq (.block 1 (.seq (.reg none [
         ⟨(some 16), none, .fad 1 (.t 2)⟩,
         ⟨(some 17), none, .load false 1 (.t 16)⟩,
         ⟨(some 18), none, .mov (.t 6)⟩,
         ⟨(some 19), none, .iad 2 (.t 17) (.t 18)⟩,
         ⟨(some 20), none, .fad 0 (.t 19)⟩,
         ⟨(some 21), none, .load false 1 (.t 20)⟩,
         ⟨(some 7), none, .mov (.t 21)⟩])
      (.seq (.reg none [
         ⟨(some 22), none, .mov (.t 7)⟩,
         ⟨(some 23), none, .mov (.t 1)⟩,
         ⟨(some 24), none, .len (.t 23)⟩,
         ⟨(some 25), none, .bin .sub (.t 24) (.c (.int .i64 1))⟩,
         ⟨(some 26), none, .call .q (.f 86) [(.t 22), (.c (.int .i64 0)), (.t 25)]⟩,
         ⟨(some 27), none, .mov (.t 26)⟩,
         ⟨(some 28), (some (27, true)), .mov (.t 1)⟩,
         ⟨(some 29), (some (27, true)), .mov (.t 7)⟩,
         ⟨(some 30), (some (27, true)), .iad 1 (.t 28) (.t 29)⟩,
         ⟨(some 31), (some (27, true)), .load false 1 (.t 30)⟩,
         ⟨(some 32), none, .pick (.t 27) (.t 31) (.c (.bool false))⟩])
      (.cond (.t 32) (.reg none [
         ⟨(some 33), none, .mov (.t 5)⟩,
         ⟨(some 34), none, .fad 1 (.t 2)⟩,
         ⟨(some 35), none, .load false 1 (.t 34)⟩,
         ⟨(some 36), none, .mov (.t 6)⟩,
         ⟨(some 37), none, .iad 2 (.t 35) (.t 36)⟩,
         ⟨(some 38), none, .load true 2 (.t 37)⟩,
         ⟨(some 39), none, .lit 2 113 1 [(.int .i64 0), (.int .i64 0)] [(0, 2, (.t 38))]⟩,
         ⟨(some 40), none, .app 2 113 16 false (.t 33) (.t 39)⟩,
         ⟨(some 5), none, .mov (.t 40)⟩]) (.skip)))))
    (.reg none [
      ⟨(some 14), none, .mov (.t 6)⟩,
      ⟨(some 15), none, .bin .add (.t 14) (.c (.int .i64 1))⟩,
      ⟨(some 6), none, .mov (.t 15)⟩]))))))
 (.seq (.reg none [
    ⟨(some 41), none, .mov (.t 5)⟩,
    ⟨(some 4), none, .mov (.t 41)⟩])
 (.ret))))⟩
def c_sTrustsV : IFn := ⟨2, 31, [.t 4],
 .seq (.reg none [
    ⟨(some 2), none, .box (.t 0)⟩,
    ⟨(some 4), none, .mov (.c (.slice none 0 0))⟩])
 (.seq (.reg none [
    ⟨(some 7), none, .lit 1 4 0 [] []⟩,
    ⟨(some 5), none, .mov (.t 7)⟩])
 (.seq (.seq (.reg none [
     ⟨(some 6), none, .mov (.c (.int .i64 0))⟩])
  (.block 0 (.loop (.seq (.seq (.reg none [
        ⟨(some 8), none, .mov (.t 6)⟩,
        ⟨(some 9), none, .fad 0 (.t 2)⟩,
        ⟨(some 10), none, .load false 1 (.t 9)⟩,
        ⟨(some 11), none, .len (.t 10)⟩,
        ⟨(some 12), none, .bin .lss (.t 8) (.t 11)⟩,
        ⟨(some 13), none, .mov (.t 12)⟩,
        ⟨(some 14), (some (13, true)), .load true 2 (.t 2)⟩,
        ⟨(some 15), (some (13, true)), .call .q (.f 19) [(.t 14)]⟩,
        ⟨(some 16), none, .pick (.t 13) (.t 15) (.c (.bool false))⟩])
     (.cond (.t 16) (.skip) (.exit 0)))
    (.seq (.block 1 (.reg none [
        ⟨(some 19), none, .mov (.t 5)⟩,
        ⟨(some 20), none, .fad 0 (.t 2)⟩,
        ⟨(some 21), none, .load false 1 (.t 20)⟩,
        ⟨(some 22), none, .mov (.t 6)⟩,
        ⟨(some 23), none, .iad 2 (.t 21) (.t 22)⟩,
        ⟨(some 24), none, .fad 1 (.t 23)⟩,
        ⟨(some 25), none, .load false 1 (.t 24)⟩,
        ⟨(some 26), none, .mov (.t 1)⟩,
        ⟨(some 27), none, .call .q (.f 135) [(.t 25), (.t 26)]⟩,
        ⟨(some 28), none, .lit 1 4 1 [(.bool false)] [(0, 1, (.t 27))]⟩,
        ⟨(some 29), none, .app 1 4 1 false (.t 19) (.t 28)⟩,
        ⟨(some 5), none, .mov (.t 29)⟩]))
    (.reg none [
      ⟨(some 17), none, .mov (.t 6)⟩,
      ⟨(some 18), none, .bin .add (.t 17) (.c (.int .i64 1))⟩,
      ⟨(some 6), none, .mov (.t 18)⟩]))))))
 (.seq (.reg none [
    ⟨(some 30), none, .mov (.t 5)⟩,
    ⟨(some 4), none, .mov (.t 30)⟩])
 (.ret))))⟩
def c_eqW : IFn := ⟨2, 26, [.t 4],
 .seq (.reg none [
    ⟨(some 4), none, .mov (.c (.bool false))⟩])
 (.seq (.seq (.reg none [
     ⟨(some 6), none, .mov (.t 0)⟩,
     ⟨(some 7), none, .len (.t 6)⟩,
     ⟨(some 8), none, .mov (.t 1)⟩,
     ⟨(some 9), none, .len (.t 8)⟩,
     ⟨(some 10), none, .bin .neq (.t 7) (.t 9)⟩])
  (.cond (.t 10) (.seq (.reg none [
      ⟨(some 4), none, .mov (.c (.bool false))⟩])
   (.ret)) (.skip)))
 (.seq (.seq (.reg none [
     ⟨(some 11), none, .mov (.t 0)⟩,
     ⟨(some 12), none, .len (.t 11)⟩,
     ⟨(some 13), none, .mov (.c (.int .i64 0))⟩])
  (.block 0 (.loop (.seq (.reg none [
       ⟨(some 14), none, .bin .lss (.t 13) (.t 12)⟩])
    (.seq (.cond (.t 14) (.skip) (.exit 0))
    (.seq (.block 1 (.seq (.reg none [
         ⟨(some 15), none, .mov (.t 13)⟩,
         ⟨(some 5), none, .mov (.t 15)⟩])
      (.seq (.reg (some 8) [
         ⟨(some 16), none, .mov (.t 0)⟩,
         ⟨(some 17), none, .mov (.t 5)⟩,
         ⟨(some 18), none, .iad 2 (.t 16) (.t 17)⟩,
         ⟨(some 19), none, .load true 2 (.t 18)⟩,
         ⟨(some 20), none, .mov (.t 1)⟩,
         ⟨(some 21), none, .mov (.t 5)⟩,
         ⟨(some 22), none, .iad 2 (.t 20) (.t 21)⟩,
         ⟨(some 23), none, .load true 2 (.t 22)⟩,
         ⟨(some 24), none, .eqs true 2 (.t 19) (.t 23)⟩])
      (.cond (.t 24) (.seq (.reg none [
          ⟨(some 4), none, .mov (.c (.bool false))⟩])
       (.ret)) (.skip)))))
    (.reg none [
      ⟨(some 25), none, .bin .add (.t 13) (.c (.int .i64 1))⟩,
      ⟨(some 13), none, .mov (.t 25)⟩])))))))
 (.seq (.reg none [
    ⟨(some 4), none, .mov (.c (.bool true))⟩])
 (.ret))))⟩
def c_sway1 : IFn := ⟨3, 14, [.t 5],
 .seq (.reg none [
    ⟨(some 3), none, .box (.t 0)⟩,
    ⟨(some 4), none, .box (.t 1)⟩,
    ⟨(some 5), none, .mov (.c (.bool false))⟩])
 (.seq (.reg (some 5) [
    ⟨(some 6), none, .load true 3 (.t 3)⟩,
    ⟨(some 7), none, .load false 1 (.t 2)⟩,
    ⟨(some 8), none, .call .k (.f 99) [(.t 6), (.t 7)]⟩,
    ⟨(some 9), none, .load true 3 (.t 4)⟩,
    ⟨(some 10), none, .load false 1 (.t 2)⟩,
    ⟨(some 11), none, .call .k (.f 99) [(.t 9), (.t 10)]⟩,
    ⟨(some 12), none, .call .q (.f 98) [(.t 8), (.t 11)]⟩,
    ⟨(some 13), none, .un .not (.t 12)⟩,
    ⟨(some 5), none, .mov (.t 13)⟩])
 (.ret))⟩
theorem sRunTo_ok {F : Nat → Option IFn} {f : Nat} (hf : F f = some c_sRunTo) : ToldOk F f := by
  intro H nv wv sv r h on ow hs hl hrg
  suffices hh : ∃ z H', KC F f [.agg #[nv, wv, sv], .int .i64 h] H z H' ∧ (AgX [] H H' ∧ SlR Co.int (vw 0 H') z (toldL h r.2.2)) from hh
  obtain ⟨_, sa, rfl, _⟩ := id hs
  generalize r.2.2 = ss at hs hl hrg
  refine KC.mk hf rfl ?_
  refine seq_reg ?_
  simp only [go_sem, binC, on, ow]
  refine wpc_gen fun H1 hH1 => ?_
  have hx1 : AgX [] H H1 := hH1 ▸ AgX.app [] _ _
  have hb : H1[H.length]? = some ⟨[nv, wv, .slice sa ss.length ss.length], 0, 0, false, true⟩ := hH1 ▸ get_new0 _ _
  clear hH1
  have hl1 := hx1.1
  have hlt : ∀ l : List (Int × Int), (toldL h l).length ≤ l.length := fun l => by unfold toldL; rw [List.length_map]; exact List.length_filter_le _ _
  refine seq_reg ?_
  simp only [go_sem, binC]
  refine wpc_gen fun H2 hH2 => ?_
  have hx2 : AgX [] H1 H2 := hH2 ▸ AgX.app [] _ _
  have ho2 : FlO fi 1 3 H1.length H2 (sli H1.length 0 0) [] := hH2 ▸ FlO.nil (Nat.le_refl _)
  clear hH2
  refine seq_assoc (seq_reg ?_)
  simp only [go_sem, binC]
  refine seq_block (wpc_loop ?_)
  suffices hh : ∀ (k i : Nat) (e : Env) (Hc : Heap) (v5 : Value), i + k = ss.length → AgX [] H1 Hc → FlO fi 1 3 H1.length Hc v5 (toldL h (ss.take i)) → e 1 = .int .i64 h → e 2 = ptr H.length 0 → e 5 = v5 → e 6 = .int .i64 i → W F H.length _ e Hc _ from
    hh ss.length 0 _ H2 _ (by omega) hx2 ho2 (by simp only [go_sem, binC]) (by simp only [go_sem, binC]) (by (simp only [go_sem, binC]) <;> rfl) (by (simp only [go_sem, binC]) <;> rfl)
  intro k
  induction k with
  | zero =>
    intro i e Hc v5 hi hxc q e1 e2 e5 e6
    have hbc := hxc.get hb (by simp)
    refine lp_step ?_
    refine seq_assoc (seq_reg ?_)
    simp only [go_sem, binC, e2, e6, gc_of hbc, inBlk_some]
    refine seq_cond (t := false) (by simp only [go_sem, binC]; rw [decide_eq_false (by omega)]) ?_
    simp only [go_sem, binC]
    refine seq_exit ?_
    simp only [go_sem, binC, thenX_e, out_e, thenX_n]
    refine seq_reg ?_
    simp only [go_sem, binC, e5]
    rw [List.take_of_length_le (by omega)] at q
    obtain ⟨a, rfl⟩ := q.shape
    refine wpc_ret ⟨Or.inr rfl, _, (by (simp only [go_sem, binC]) <;> rfl), hx1.tr hxc, q.slI (fun x hx => ?_) (Nat.le_trans (hlt _) hl)⟩
    unfold toldL at hx
    obtain ⟨w, hw, rfl⟩ := List.mem_map.1 hx
    exact (hrg w (List.mem_filter.1 hw).1).2
  | succ k ih =>
    intro i e Hc v5 hi hxc q e1 e2 e5 e6
    have hil : i < ss.length := by omega
    have hbc := hxc.get hb (by simp)
    obtain ⟨b, o, hv1, hg⟩ := gcP (hs.mono (agx_sub (hx1.tr hxc))) hil
    simp only [Value.slice.injEq, and_true] at hv1
    subst hv1
    have hg0 : getCells Hc b (o + i * 2) 1 = some [.int .i64 ss[i].1] := gc_part (off := 0) (k := 1) hg (by omega)
    have hg1 : getCells Hc b (o + i * 2 + 1) 1 = some [.int .i64 ss[i].2] := gc_part (off := 1) (k := 1) hg (by omega)
    have hw1 : IntKind.i64.wrap ((i : Int) + 1) = ((i + 1 : Nat) : Int) := by rw [wrap_id (by omega) (by omega)]; omega
    have htk : toldL h (ss.take (i + 1)) = toldL h (ss.take i) ++ (if ss[i].1 = h then [ss[i].2] else []) := by
      unfold toldL
      rw [List.take_add_one, List.getElem?_eq_getElem hil, List.filter_append, List.map_append]
      congr 1
      by_cases hh : ss[i].1 = h <;> simp [hh]
    have hlc := hxc.1
    refine lp_step ?_
    refine seq_assoc (seq_reg ?_)
    simp only [go_sem, binC, e2, e6, gc_of hbc, inBlk_some]
    refine seq_cond (t := true) (by simp only [go_sem, binC]; rw [decide_eq_true (by omega)]) ?_
    simp only [go_sem, binC]
    refine seq_skip (seq_block (seq_reg ?_))
    simp only [go_sem, binC, e1, e2, e6, gc_of hbc, inBlk_some]
    refine ⟨⟨by omega, by omega⟩, ?_⟩
    simp only [go_sem, binC, Int.toNat_natCast, hg0]
    by_cases he : ss[i].1 = h
    · rw [if_pos he] at htk
      simp only [go_sem, binC, beq_t he]
      refine wpc_cond (t := true) (by first | rfl | (simp only [go_sem, binC]; rw [beq_t he])) ?_
      simp only [go_sem, binC]
      refine wpc_reg ?_
      simp only [go_sem, binC, e5, e2, e6, gc_of hbc, inBlk_some]
      refine ⟨⟨by omega, by omega⟩, ?_⟩
      simp only [go_sem, binC, Int.toNat_natCast, hg1]
      have hblk := fun b (hb : b ∈ blkOf v5) => (q.blk hb).1
      refine op_app_FO (fl := fi) (a := ss[i].2) (lo := H1.length) (fun _ => rfl) q (by simp only [go_sem, binC, e5]) (by (simp only [go_sem, binC]) <;> rfl) hl1 (by omega) (by have := hlt (ss.take i); rw [List.length_take] at this; omega) (by omega) fun H3 w3 hx3 q3 => ?_
      rw [← htk] at q3
      simp only [go_sem, binC, out_n, thenX_n]
      refine wpc_reg ?_
      simp only [go_sem, binC, e6, hw1]
      simp only [go_sem, binC, thenX_n]
      exact ih (i + 1) _ H3 w3 (by omega) (hxc.trans hx3 (fun _ h _ => h) (fun b h1 h2 => by have := hblk b h1; omega)) q3 (by simp only [go_sem, binC, e1]) (by simp only [go_sem, binC, e2]) (by simp only [go_sem, binC]) (by simp only [go_sem, binC])
    · rw [if_neg he, List.append_nil] at htk
      simp only [go_sem, binC, beq_f he]
      refine wpc_cond (t := false) (by first | rfl | (simp only [go_sem, binC]; rw [beq_f he])) ?_
      simp only [go_sem, binC]
      refine wpc_skip ?_
      simp only [go_sem, binC, out_n, thenX_n]
      refine wpc_reg ?_
      simp only [go_sem, binC, e6, hw1]
      simp only [go_sem, binC, thenX_n]
      exact ih (i + 1) _ Hc v5 (by omega) hxc (by rw [htk]; exact q) (by simp only [go_sem, binC, e1]) (by simp only [go_sem, binC, e2]) (by simp only [go_sem, binC, e5]) (by simp only [go_sem, binC])
theorem sRunSets_ok {F : Nat → Option IFn} {f : Nat} (hf : F f = some c_sRunSets) (gi : ∀ (H : Heap) (a b c : Int), QC F 86 [.int .i64 a, .int .i64 b, .int .i64 c] H (.bool (inB a b c))) : SetsOk F f := by
  intro H nv wv sv u r vs on hw os hu hl hrg
  suffices hh : ∃ z H', KC F f [.agg #[nv, wv, sv], u] H z H' ∧ (AgX [] H H' ∧ SlR Co.p2 (vw 0 H') z (r.2.1.filter (seenW vs))) from hh
  obtain ⟨_, wa, rfl, _⟩ := id hw
  obtain ⟨hul, ua, rfl, _⟩ := id hu
  generalize r.2.1 = ws at hw hl hrg
  refine KC.mk hf rfl ?_
  refine seq_reg ?_
  simp only [go_sem, binC, on, os]
  refine wpc_gen fun H1 hH1 => ?_
  have hx1 : AgX [] H H1 := hH1 ▸ AgX.app [] _ _
  have hb : H1[H.length]? = some ⟨[nv, .slice wa ws.length ws.length, sv], 0, 0, false, true⟩ := hH1 ▸ get_new0 _ _
  clear hH1
  have hl1 := hx1.1
  refine seq_reg ?_
  simp only [go_sem, binC]
  refine wpc_gen fun H2 hH2 => ?_
  have hx2 : AgX [] H1 H2 := hH2 ▸ AgX.app [] _ _
  have ho2 : FlO fp 2 113 H1.length H2 (sli H1.length 0 0) [] := hH2 ▸ FlO.nil (Nat.le_refl _)
  clear hH2
  refine seq_assoc (seq_reg ?_)
  simp only [go_sem, binC]
  refine seq_block (wpc_loop ?_)
  suffices hh : ∀ (k i : Nat) (e : Env) (Hc : Heap) (v5 : Value), i + k = ws.length → AgX [] H1 Hc → FlO fp 2 113 H1.length Hc v5 ((ws.take i).filter (seenW vs)) → e 1 = .slice ua vs.length vs.length → e 2 = ptr H.length 0 → e 5 = v5 → e 6 = .int .i64 i → W F H.length _ e Hc _ from
    hh ws.length 0 _ H2 _ (by omega) hx2 ho2 (by simp only [go_sem, binC]) (by simp only [go_sem, binC]) (by (simp only [go_sem, binC]) <;> rfl) (by (simp only [go_sem, binC]) <;> rfl)
  intro k
  induction k with
  | zero =>
    intro i e Hc v5 hi hxc q e1 e2 e5 e6
    have hbc := hxc.get hb (by simp)
    refine lp_step ?_
    refine seq_assoc (seq_reg ?_)
    simp only [go_sem, binC, e2, e6, gc_of hbc, inBlk_some]
    refine seq_cond (t := false) (by simp only [go_sem, binC]; rw [decide_eq_false (by omega)]) ?_
    simp only [go_sem, binC]
    refine seq_exit ?_
    simp only [go_sem, binC, thenX_e, out_e, thenX_n]
    refine seq_reg ?_
    simp only [go_sem, binC, e5]
    rw [List.take_of_length_le (by omega)] at q
    obtain ⟨a, rfl⟩ := q.shape
    exact wpc_ret ⟨Or.inr rfl, _, (by (simp only [go_sem, binC]) <;> rfl), hx1.tr hxc, q.slP (fun p hp => hrg p (List.mem_filter.1 hp).1) (Nat.le_trans (List.length_filter_le _ _) hl)⟩
  | succ k ih =>
    intro i e Hc v5 hi hxc q e1 e2 e5 e6
    have hil : i < ws.length := by omega
    have hbc := hxc.get hb (by simp)
    obtain ⟨b, o, hv1, hg⟩ := gcP (hw.mono (agx_sub (hx1.tr hxc))) hil
    simp only [Value.slice.injEq, and_true] at hv1
    subst hv1
    have hg0 : getCells Hc b (o + i * 2) 1 = some [.int .i64 ws[i].1] := gc_part (off := 0) (k := 1) hg (by omega)
    have hw1 : IntKind.i64.wrap ((i : Int) + 1) = ((i + 1 : Nat) : Int) := by rw [wrap_id (by omega) (by omega)]; omega
    have htk : (ws.take (i + 1)).filter (seenW vs) = (ws.take i).filter (seenW vs) ++ (if seenW vs ws[i] = true then [ws[i]] else []) := by
      rw [List.take_add_one, List.getElem?_eq_getElem hil, List.filter_append]
      congr 1
      by_cases hs : seenW vs ws[i] = true <;> simp [hs]
    have hlc := hxc.1
    have hw2 : IntKind.i64.wrap ((vs.length : Int) - 1) = (vs.length : Int) - 1 := wrap_id (by omega) (by omega)
    have hno : seenW vs ws[i] = false → ∀ e' : Env, e' 1 = .slice ua vs.length vs.length → e' 2 = ptr H.length 0 → e' 5 = v5 → e' 6 = .int .i64 ((i + 1 : Nat) : Int) → W F H.length _ e' Hc _ := fun hs e' p1 p2 p5 p6 =>
      ih (i + 1) e' Hc v5 (by omega) hxc (by rw [htk, hs, if_neg (by simp), List.append_nil]; exact q) p1 p2 p5 p6
    refine lp_step ?_
    refine seq_assoc (seq_reg ?_)
    simp only [go_sem, binC, e2, e6, gc_of hbc, inBlk_some]
    refine seq_cond (t := true) (by simp only [go_sem, binC]; rw [decide_eq_true (by omega)]) ?_
    simp only [go_sem, binC]
    refine seq_skip (seq_block (seq_reg ?_))
    simp only [go_sem, binC, e2, e6, gc_of hbc, inBlk_some]
    refine ⟨⟨by omega, by omega⟩, ?_⟩
    simp only [go_sem, binC, Int.toNat_natCast, hg0]
    refine seq_reg ?_
    simp only [go_sem, binC, e1, hw2]
    refine op_callB (by simp only [go_sem, binC]; exact gi _ _ _ _) (fun hin => ?_) (fun hin => ?_)
    rotate_left
    · simp only [go_sem, binC]
      refine wpc_cond (t := false) rfl ?_
      simp only [go_sem, binC]
      refine wpc_skip ?_
      simp only [go_sem, binC, out_n, thenX_n]
      refine wpc_reg ?_
      simp only [go_sem, binC, e6, hw1]
      simp only [go_sem, binC, thenX_n]
      exact hno (by unfold seenW; rw [hin]; rfl) _ (by simp only [go_sem, binC, e1]) (by simp only [go_sem, binC, e2]) (by simp only [go_sem, binC, e5]) (by simp only [go_sem, binC])
    have hin2 := inB_iff.1 hin
    have hvl : ws[i].1.toNat < vs.length := by omega
    obtain ⟨ub, uo, huv, hgu⟩ := gcBo (hu.mono (agx_sub (hx1.tr hxc))) hvl
    simp only [Value.slice.injEq, and_true] at huv
    subst huv
    simp only [go_sem, binC, e1]
    refine ⟨⟨by omega, by omega⟩, ?_⟩
    simp only [go_sem, binC, Nat.mul_one, hgu]
    have hgd : vs.getD ws[i].1.toNat false = vs[ws[i].1.toNat] := by simp [List.getD, hvl]
    cases hvi : vs[ws[i].1.toNat] with
    | false =>
      refine wpc_cond (t := false) rfl ?_
      simp only [go_sem, binC]
      refine wpc_skip ?_
      simp only [go_sem, binC, out_n, thenX_n]
      refine wpc_reg ?_
      simp only [go_sem, binC, e6, hw1]
      simp only [go_sem, binC, thenX_n]
      exact hno (by unfold seenW; rw [hgd, hvi, Bool.and_false]) _ (by simp only [go_sem, binC, e1]) (by simp only [go_sem, binC, e2]) (by simp only [go_sem, binC, e5]) (by simp only [go_sem, binC])
    | true =>
      have hs : seenW vs ws[i] = true := by unfold seenW; rw [hin, hgd, hvi]; rfl
      rw [hs, if_pos rfl] at htk
      refine wpc_cond (t := true) rfl ?_
      simp only [go_sem, binC]
      refine wpc_reg ?_
      simp only [go_sem, binC, e5, e2, e6, gc_of hbc, inBlk_some]
      refine ⟨⟨by omega, by omega⟩, ?_⟩
      simp only [go_sem, binC, Int.toNat_natCast, hg]
      have hblk := fun b (hb : b ∈ blkOf v5) => (q.blk hb).1
      refine op_app_FO (fl := fp) (a := ws[i]) (lo := H1.length) (fun _ => rfl) q (by simp only [go_sem, binC, e5]) (by (simp only [go_sem, binC]) <;> rfl) hl1 (by omega) (by have := List.length_filter_le (seenW vs) (ws.take i); rw [List.length_take] at this; omega) (by omega) fun H3 w3 hx3 q3 => ?_
      rw [← htk] at q3
      simp only [go_sem, binC, out_n, thenX_n]
      refine wpc_reg ?_
      simp only [go_sem, binC, e6, hw1]
      simp only [go_sem, binC, thenX_n]
      exact ih (i + 1) _ H3 w3 (by omega) (hxc.trans hx3 (fun _ h _ => h) (fun b h1 h2 => by have := hblk b h1; omega)) q3 (by simp only [go_sem, binC, e1]) (by simp only [go_sem, binC, e2]) (by simp only [go_sem, binC]) (by simp only [go_sem, binC])
theorem sTrustsV_ok {F : Nat → Option IFn} {f : Nat} (hf : F f = some c_sTrustsV) (gp : ProgOk F 19) (gh : HasOk F 135) : VarsOk F f false := by
  intro H n lv sv ls l h h0 h2 r1 r2 hsm hP
  suffices hh : ∃ w H', KC F f [.agg #[lv, sv], .int .i64 h] H w H' ∧ (AgX [] H H' ∧ SlR Co.bool (vw 0 H') w (ls.map (lowL false h))) from hh
  obtain ⟨_, la, rfl, _⟩ := id r1
  have osv : one sv = true := by obtain ⟨_, a, rfl, _⟩ := r2; rfl
  have hls : ls.length ≤ 4 := by
    have := hP
    simp only [progB, Bool.and_eq_true, decide_eq_true_eq] at this; have := this.1.1.1; omega
  have hlab := progB_lab hP
  refine KC.mk hf rfl ?_
  refine seq_reg ?_
  simp only [go_sem, binC, osv]
  refine wpc_gen fun H1 hH1 => ?_
  have hx1 : AgX [] H H1 := hH1 ▸ AgX.app [] _ _
  have hb : H1[H.length]? = some ⟨[.slice la ls.length ls.length, sv], 0, 0, false, true⟩ := hH1 ▸ get_new0 _ _
  clear hH1
  have hl1 := hx1.1
  refine seq_reg ?_
  simp only [go_sem, binC]
  refine wpc_gen fun H2 hH2 => ?_
  have hx2 : AgX [] H1 H2 := hH2 ▸ AgX.app [] _ _
  have ho2 : FlO fb 1 4 H1.length H2 (sli H1.length 0 0) [] := hH2 ▸ FlO.nil (Nat.le_refl _)
  clear hH2
  refine seq_assoc (seq_reg ?_)
  simp only [go_sem, binC]
  refine seq_block (wpc_loop ?_)
  suffices hh : ∀ (k i : Nat) (e : Env) (Hc : Heap) (v5 : Value), i + k = ls.length → AgX [] H1 Hc → FlO fb 1 4 H1.length Hc v5 ((ls.take i).map (lowL false h)) → e 1 = .int .i64 h → e 2 = ptr H.length 0 → e 5 = v5 → e 6 = .int .i64 i → W F H.length _ e Hc _ from
    hh ls.length 0 _ H2 _ (by omega) hx2 ho2 (by simp only [go_sem, binC]) (by simp only [go_sem, binC]) (by (simp only [go_sem, binC]) <;> rfl) (by (simp only [go_sem, binC]) <;> rfl)
  intro k
  induction k with
  | zero =>
    intro i e Hc v5 hi hxc q e1 e2 e5 e6
    have hbc := hxc.get hb (by simp)
    refine lp_step ?_
    refine seq_assoc (seq_reg ?_)
    simp only [go_sem, binC, e2, e6, gc_of hbc, inBlk_some, decide_eq_false (show ¬ (i : Int) < ls.length by omega)]
    refine seq_cond (t := false) rfl ?_
    simp only [go_sem, binC]
    refine seq_exit ?_
    simp only [go_sem, binC, thenX_e, out_e, thenX_n]
    refine seq_reg ?_
    simp only [go_sem, binC, e5]
    rw [List.take_of_length_le (by omega)] at q
    obtain ⟨a, rfl⟩ := q.shape
    exact wpc_ret ⟨Or.inr rfl, _, (by (simp only [go_sem, binC]) <;> rfl), hx1.tr hxc, q.slB (by rw [List.length_map]; omega)⟩
  | succ k ih =>
    intro i e Hc v5 hi hxc q e1 e2 e5 e6
    have hil : i < ls.length := by omega
    have hbc := hxc.get hb (by simp)
    obtain ⟨b, o, hv1, hg⟩ := gcP (r1.mono (agx_sub (hx1.tr hxc))) hil
    simp only [Value.slice.injEq, and_true] at hv1
    subst hv1
    have hli : (0 ≤ ls[i].1 ∧ ls[i].1 ≤ 7) ∧ (0 ≤ ls[i].2 ∧ ls[i].2 ≤ 7) := by
      have := List.all_eq_true.1 hlab _ (List.getElem_mem hil)
      simpa [labB, inB] using this
    have hg0 : getCells Hc b (o + i * 2 + 1) 1 = some [.int .i64 ls[i].2] := gc_part (off := 1) (k := 1) hg (by omega)
    have hw1 : IntKind.i64.wrap ((i : Int) + 1) = ((i + 1 : Nat) : Int) := by rw [wrap_id (by omega) (by omega)]; omega
    have htk : (ls.take i).map (lowL false h) ++ [hasB ls[i].2 h] = (ls.take (i + 1)).map (lowL false h) := by
      rw [List.take_add_one, List.getElem?_eq_getElem hil, List.map_append]; rfl
    have hlc := hxc.1
    have hS := agx_sub (hx1.tr hxc)
    refine lp_step ?_
    refine seq_assoc (seq_reg ?_)
    simp only [go_sem, binC, e2, e6, gc_of hbc, inBlk_some, osv, decide_eq_true (show (i : Int) < ls.length by omega)]
    refine op_callQ (by simp only [go_sem, binC]; exact gp Hc n _ (ls, l) (prog_rd (r1.mono hS) (r2.mono hS)) hsm) ?_
    simp only [go_sem, binC, hP]
    refine seq_cond (t := true) rfl ?_
    simp only [go_sem, binC]
    refine seq_skip (seq_block (wpc_reg ?_))
    simp only [go_sem, binC, e1, e2, e5, e6, gc_of hbc, inBlk_some]
    refine ⟨⟨by omega, by omega⟩, ?_⟩
    simp only [go_sem, binC, Int.toNat_natCast, hg0]
    refine op_callQ (by simp only [go_sem, binC]; exact gh Hc _ _ hli.2.1 hli.2.2) ?_
    simp only [go_sem, binC]
    have hblk := fun b (hb : b ∈ blkOf v5) => (q.blk hb).1
    refine op_app_FO (fl := fb) (a := hasB ls[i].2 h) (lo := H1.length) (fun _ => rfl) q (by simp only [go_sem, binC, e5]) (by (simp only [go_sem, binC]) <;> rfl) hl1 (by omega) (by rw [List.length_map, List.length_take]; omega) (by omega) fun H3 w3 hx3 q3 => ?_
    rw [htk] at q3
    simp only [go_sem, binC, out_n, thenX_n]
    refine wpc_reg ?_
    simp only [go_sem, binC, e6, hw1]
    simp only [go_sem, binC, thenX_n]
    exact ih (i + 1) _ H3 w3 (by omega) (hxc.trans hx3 (fun _ h _ => h) (fun b h1 h2 => by have := hblk b h1; omega)) q3 (by simp only [go_sem, binC, e1]) (by simp only [go_sem, binC, e2]) (by simp only [go_sem, binC]) (by simp only [go_sem, binC])
theorem eqW_ok {F : Nat → Option IFn} {f : Nat} (hf : F f = some c_eqW) : PairsOk F f := by
  intro H v w l l' hv hw
  obtain ⟨hl, va, rfl, _⟩ := id hv
  obtain ⟨hl', wa, rfl, _⟩ := id hw
  refine QC.mk hf rfl ?_
  refine seq_reg ?_
  simp only [go_sem, binC]
  refine seq_assoc (seq_reg ?_)
  simp only [go_sem, binC]
  by_cases hle : l.length = l'.length
  rotate_left
  · have hb : ((l.length : Int) != (l'.length : Int)) = true := by rw [bne_iff_ne]; omega
    simp only [go_sem, binC, hb]
    refine seq_cond (t := true) rfl ?_
    simp only [go_sem, binC]
    refine seq_assoc (seq_reg ?_)
    simp only [go_sem, binC]
    refine seq_ret ⟨Or.inr rfl, .bool false, by simp only [go_sem, binC], ?_, rfl⟩
    rw [decide_eq_false (fun h => hle (by rw [h]))]
  have hb : ((l.length : Int) != (l'.length : Int)) = false := by rw [hle]; exact bne_self_eq_false _
  simp only [go_sem, binC, hb]
  refine seq_cond (t := false) rfl ?_
  simp only [go_sem, binC]
  refine seq_skip (seq_assoc (seq_reg ?_))
  simp only [go_sem, binC]
  refine seq_block (wpc_loop ?_)
  suffices hh : ∀ (k i : Nat) (e : Env), i + k = l.length → (∀ j (h : j < l.length) (h' : j < l'.length), j < i → l[j] = l'[j]) → e 0 = .slice va l.length l.length → e 1 = .slice wa l'.length l'.length → e 12 = .int .i64 l.length → e 13 = .int .i64 i → W F H.length _ e H _ from
    hh l.length 0 _ (by omega) (fun j _ _ h => by omega) (by simp only [go_sem, binC]) (by simp only [go_sem, binC]) (by simp only [go_sem, binC]) (by (simp only [go_sem, binC]) <;> rfl)
  intro k
  induction k with
  | zero =>
    intro i e hi hj e0 e1 e12 e13
    refine lp_step ?_
    refine seq_reg ?_
    simp only [go_sem, binC, e12, e13]
    refine seq_cond (t := false) (by simp only [go_sem, binC]; rw [decide_eq_false (by omega)]) ?_
    simp only [go_sem, binC]
    refine seq_exit ?_
    simp only [go_sem, binC, thenX_e, out_e, thenX_n]
    refine seq_reg ?_
    simp only [go_sem, binC]
    refine wpc_ret ⟨Or.inr rfl, _, (by (simp only [go_sem, binC]) <;> rfl), ?_, rfl⟩
    rw [decide_eq_true (List.ext_getElem hle fun j h1 h2 => hj j h1 h2 (by omega))]
  | succ k ih =>
    intro i e hi hj e0 e1 e12 e13
    have hil : i < l.length := by omega
    have hil' : i < l'.length := by omega
    have hw1 : IntKind.i64.wrap ((i : Int) + 1) = ((i + 1 : Nat) : Int) := by rw [wrap_id (by omega) (by omega)]; omega
    obtain ⟨vb, vo, hvv, hgv⟩ := gcP hv hil
    obtain ⟨wb, wo, hwv, hgw⟩ := gcP hw hil'
    simp only [Value.slice.injEq, and_true] at hvv hwv
    subst hvv hwv
    refine lp_step ?_
    refine seq_reg ?_
    simp only [go_sem, binC, e12, e13]
    refine seq_cond (t := true) (by simp only [go_sem, binC]; rw [decide_eq_true (by omega)]) ?_
    simp only [go_sem, binC]
    refine seq_skip (seq_block (seq_reg ?_))
    simp only [go_sem, binC, e13]
    refine seq_regD ?_
    simp only [go_sem, binC, e0]
    refine ⟨⟨by omega, by omega⟩, ?_⟩
    simp only [go_sem, binC, Int.toNat_natCast, Nat.mul_one, hgv, e1]
    refine ⟨⟨by omega, by omega⟩, ?_⟩
    simp only [go_sem, binC, Int.toNat_natCast, Nat.mul_one, hgw, eqsV2]
    by_cases he : l[i] = l'[i]
    · simp only [go_sem, binC, show decide ((l[i].1, l[i].2) = (l'[i].1, l'[i].2)) = true from decide_eq_true he, Bool.not_true]
      refine wpc_cond (t := false) (by first | rfl | (simp only [go_sem, binC, show decide ((l[i].1, l[i].2) = (l'[i].1, l'[i].2)) = true from decide_eq_true he, Bool.not_true])) ?_
      simp only [go_sem, binC]
      refine wpc_skip ?_
      simp only [go_sem, binC, out_n, thenX_n]
      refine wpc_reg ?_
      simp only [go_sem, binC, e13, hw1]
      simp only [go_sem, binC, thenX_n]
      exact ih (i + 1) _ (by omega) (fun j h1 h2 h3 => by
        rcases Nat.lt_or_ge j i with h | h
        · exact hj j h1 h2 h
        · obtain rfl : j = i := by omega
          exact he) (by simp only [go_sem, binC, e0]) (by simp only [go_sem, binC, e1]) (by simp only [go_sem, binC, e12]) (by simp only [go_sem, binC])
    · simp only [go_sem, binC, show decide ((l[i].1, l[i].2) = (l'[i].1, l'[i].2)) = false from decide_eq_false he, Bool.not_false]
      refine wpc_cond (t := true) (by first | rfl | (simp only [go_sem, binC, show decide ((l[i].1, l[i].2) = (l'[i].1, l'[i].2)) = false from decide_eq_false he, Bool.not_false])) ?_
      simp only [go_sem, binC]
      refine seq_reg ?_
      simp only [go_sem, binC]
      refine wpc_ret ?_
      simp only [go_sem, binC, out_r, thenX_r]
      refine ⟨Or.inr rfl, .bool false, by simp only [go_sem, binC], ?_, rfl⟩
      rw [decide_eq_false (fun h => he (by simp only [h]))]
/-- Whether two runs tell a host other things. -/
def diffT (h : Int) (r r' : RunS) : Bool := !decide (toldL h r.2.2 = toldL h r'.2.2)
def diffS (vs : List Bool) (r r' : RunS) : Bool := !decide (r.2.1.filter (seenW vs) = r'.2.1.filter (seenW vs))
/-- What comes of a program, at hand. -/
structure RunAt (H : Heap) (nv wv sv : Value) (r : RunS) : Prop where
  n : SlR Co.int (vw 0 H) nv r.1
  w : SlR Co.p2 (vw 0 H) wv r.2.1
  s : SlR Co.p2 (vw 0 H) sv r.2.2
  lw : r.2.1.length ≤ 1000
  ls : r.2.2.length ≤ 1000
theorem RunAt.mono {H H' : Heap} {nv wv sv : Value} {r : RunS} (h : RunAt H nv wv sv r) (hx : AgX [] H H') : RunAt H' nv wv sv r := ⟨h.n.mono (agx_sub hx), h.w.mono (agx_sub hx), h.s.mono (agx_sub hx), h.lw, h.ls⟩
theorem RunAt.ones {H : Heap} {nv wv sv : Value} {r : RunS} (h : RunAt H nv wv sv r) : one nv = true ∧ one wv = true ∧ one sv = true := by
  obtain ⟨_, a, rfl, _⟩ := h.n
  obtain ⟨_, b, rfl, _⟩ := h.w
  obtain ⟨_, c, rfl, _⟩ := h.s
  exact ⟨rfl, rfl, rfl⟩
theorem sl2_rg {V : Vw} {v : Value} {l : List (Int × Int)} (h : SlR Co.p2 V v l) : ∀ w ∈ l, RgI w.1 ∧ RgI w.2 := p2_rg h
theorem sway1_ok {F : Nat → Option IFn} {f : Nat} (hf : F f = some c_sway1) (gt : SetsOk F 99) (ge : PairsOk F 98) {H : Heap} {pb : Nat} {u : Value} {vs : List Bool} {nv wv sv nv' wv' sv' : Value} {r r' : RunS} (hb : H[pb]? = some ⟨[u], 0, 0, false, true⟩) (hu : SlR Co.bool (vw 0 H) u vs) (a : RunAt H nv wv sv r) (a' : RunAt H nv' wv' sv' r') : QC F f [.agg #[nv, wv, sv], .agg #[nv', wv', sv'], ptr pb 0] H (.bool (diffS vs r r')) := by
  obtain ⟨o1, o2, o3⟩ := a.ones
  obtain ⟨o1', o2', o3'⟩ := a'.ones
  obtain ⟨_, ua, rfl, _⟩ := id hu
  refine QC.mk hf rfl ?_
  refine seq_reg ?_
  simp only [go_sem, binC, o1, o2, o3, o1', o2', o3']
  refine wpc_gen fun H1 hH1 => ?_
  have hx1 : AgX [] H H1 := hH1 ▸ AgX.app [] _ _
  have hb3 : H1[H.length]? = some ⟨[nv, wv, sv], 0, 0, false, true⟩ := hH1 ▸ get_new0 _ _
  have hb4 : H1[H.length + 1]? = some ⟨[nv', wv', sv'], 0, 0, false, true⟩ := hH1 ▸ get_new _ _ 1
  clear hH1
  have hbp := hx1.get hb (by simp)
  have a1 := a.mono hx1
  obtain ⟨z, H2, k2, hx2, q2⟩ := gt H1 nv wv sv _ r vs o1 a1.w o3 (hu.mono (agx_sub hx1)) a1.lw (sl2_rg a1.w)
  have hbp2 := hx2.get hbp (by simp)
  have hb42 := hx2.get hb4 (by simp)
  have a2 := a'.mono (hx1.tr hx2)
  obtain ⟨z', H3, k3, hx3, q3⟩ := gt H2 nv' wv' sv' _ r' vs o1' a2.w o3' (hu.mono (agx_sub (hx1.tr hx2))) a2.lw (sl2_rg a2.w)
  refine seq_regD ?_
  simp only [go_sem, binC, gc_of hb3, gc_of hbp, inBlk_some, o1, o2, o3]
  refine op_callK (by simp only [go_sem, binC]; exact k2) ?_
  simp only [go_sem, binC, gc_of hb42, gc_of hbp2, inBlk_some, o1', o2', o3']
  refine op_callK (by simp only [go_sem, binC]; exact k3) ?_
  simp only [go_sem, binC]
  refine op_callQ (by simp only [go_sem, binC]; exact ge H3 _ _ _ _ (q2.mono (agx_sub hx3)) q3) ?_
  simp only [go_sem, binC]
  exact wpc_ret ⟨Or.inr rfl, _, (by (simp only [go_sem, binC]) <;> rfl), rfl, rfl⟩
end Go.Proofs.YtkmghcglmjehcaaI
end
section
/- Steps copied, as they are (the reference's). -/
set_option linter.unusedVariables false
set_option linter.unusedSimpArgs false
namespace Go.Proofs.YtkmghcglmjehcaaI
open Go Go.RowKit
end Go.Proofs.YtkmghcglmjehcaaI
end
section
/- The program's labels: what is in both, what may become what, of values, of steps being done. -/
set_option linter.unusedVariables false
set_option linter.unusedSimpArgs false
namespace Go.Proofs.YtkmghcglmjehcaaI
open Go Go.RowKit
/-! ### Labels in both, plainly -/
end Go.Proofs.YtkmghcglmjehcaaI
end
section
/- The program's labels of steps being done, and all its steps. -/
set_option linter.unusedVariables false
set_option linter.unusedSimpArgs false
namespace Go.Proofs.YtkmghcglmjehcaaI
open Go Go.RowKit
end Go.Proofs.YtkmghcglmjehcaaI
end
section
/- All steps of a program; the first step that is not fine (the program's). -/
set_option linter.unusedVariables false
set_option linter.unusedSimpArgs false
namespace Go.Proofs.YtkmghcglmjehcaaI
open Go Go.RowKit
end Go.Proofs.YtkmghcglmjehcaaI
end
section
/- Labels in order: what may be known, and is trusted, by fewer. -/
set_option linter.unusedVariables false
set_option linter.unusedSimpArgs false
namespace Go.Proofs.YtkmghcglmjehcaaI
open Go Go.RowKit
end Go.Proofs.YtkmghcglmjehcaaI
end
section
/- Labels that are found: the greatest below some that steps allow. -/
set_option linter.unusedVariables false
set_option linter.unusedSimpArgs false
namespace Go.Proofs.YtkmghcglmjehcaaI
open Go Go.RowKit
end Go.Proofs.YtkmghcglmjehcaaI
end
section
/- How often labels may fall. -/
set_option linter.unusedVariables false
set_option linter.unusedSimpArgs false
namespace Go.Proofs.YtkmghcglmjehcaaI
open Go Go.RowKit
def pc (x : Int) : Nat := (x % 2 + x / 2 % 2 + x / 4 % 2).toNat
end Go.Proofs.YtkmghcglmjehcaaI
end
section
/- The reference's rounds end in the labels that are found. -/
set_option linter.unusedVariables false
set_option linter.unusedSimpArgs false
namespace Go.Proofs.YtkmghcglmjehcaaI
open Go Go.RowKit
/-- One step of what a variable needs. -/
def needS (ls : List (Int × Int)) (v : Int) (o : Int × Int) (x : Shal × (Int × Int)) : Int × Int := if x.1.1 = 1 ∧ x.1.2.1 = v then lboth o (lboth x.2 (valL ls x.1.2.2.1)) else o
def needV (n : Nat) (ls : List (Int × Int)) (l : List (TStep n)) (v : Int) : Int × Int := ((allL n l).zip (atL n ls (7, 7) l)).foldl (needS ls v) (ls.getD v.toNat (0, 0))
/-- One variable is told anew. -/
def roundS (n : Nat) (l : List (TStep n)) (free : Int → Bool) (ls : List (Int × Int)) (v : Nat) : List (Int × Int) := if free v = true then ls.set v (needV n ls l v) else ls
def roundL (n : Nat) (l : List (TStep n)) (free : Int → Bool) (k : Nat) (ls : List (Int × Int)) : List (Int × Int) := (List.range k).foldl (roundS n l free) ls
end Go.Proofs.YtkmghcglmjehcaaI
end
section
/- After 25 rounds the reference has the labels that are found. -/
set_option linter.unusedVariables false
set_option linter.unusedSimpArgs false
namespace Go.Proofs.YtkmghcglmjehcaaI
open Go Go.RowKit
def rnd (n : Nat) (l : List (TStep n)) (free : Int → Bool) (x : List (Int × Int)) : List (Int × Int) := roundL n l free x.length x
end Go.Proofs.YtkmghcglmjehcaaI
end
section
/- The program's passes end in the labels that are found. -/
set_option linter.unusedVariables false
set_option linter.unusedSimpArgs false
namespace Go.Proofs.YtkmghcglmjehcaaI
open Go Go.RowKit
/-- One step of a pass: what is set is told anew, by the labels of being done of the pass's start. -/
def passS (free : Int → Bool) (ls : List (Int × Int)) (x : Shal × (Int × Int)) : List (Int × Int) := if x.1.1 = 1 ∧ free x.1.2.1 = true then ls.set x.1.2.1.toNat (lboth (ls.getD x.1.2.1.toNat (0, 0)) (lboth x.2 (valL ls x.1.2.2.1))) else ls
def pass (n : Nat) (l : List (TStep n)) (free : Int → Bool) (ls : List (Int × Int)) : List (Int × Int) := ((allL n l).zip (atL n ls (7, 7) l)).foldl (passS free) ls
end Go.Proofs.YtkmghcglmjehcaaI
end
section
/- What is fine, by the order of labels. -/
set_option linter.unusedVariables false
set_option linter.unusedSimpArgs false
namespace Go.Proofs.YtkmghcglmjehcaaI
open Go Go.RowKit
end Go.Proofs.YtkmghcglmjehcaaI
end
section
/- Labels that are found are fine if some are. -/
set_option linter.unusedVariables false
set_option linter.unusedSimpArgs false
namespace Go.Proofs.YtkmghcglmjehcaaI
open Go Go.RowKit
end Go.Proofs.YtkmghcglmjehcaaI
end
section
/- Labels that are found: plain facts of the laws. -/
set_option linter.unusedVariables false
set_option linter.unusedSimpArgs false
namespace Go.Proofs.YtkmghcglmjehcaaI
open Go Go.RowKit
def freeF (free : List Bool) (x : Int) : Bool := free.getD x.toNat false
def infL (n : Nat) (l : List (TStep n)) (free : List Bool) (init : List (Int × Int)) : List (Int × Int) := Nat.repeat (rnd n l (freeF free)) 25 init
theorem progB_le4 {n : Nat} {ls : List (Int × Int)} {l : List (TStep n)} (h : progB n (ls, l) = true) : ls.length ≤ 4 := by
  unfold progB at h
  simp only [Bool.and_eq_true, decide_eq_true_eq] at h
  have := h.1.1.1
  omega
attribute [local irreducible] infL
end Go.Proofs.YtkmghcglmjehcaaI
end
section
/- Labels that are found (the program's). -/
set_option linter.unusedVariables false
set_option linter.unusedSimpArgs false
namespace Go.Proofs.YtkmghcglmjehcaaI
open Go Go.RowKit
attribute [local irreducible] infL
end Go.Proofs.YtkmghcglmjehcaaI
end
section
/- What a variable needs (the reference's). -/
set_option linter.unusedVariables false
set_option linter.unusedSimpArgs false
namespace Go.Proofs.YtkmghcglmjehcaaI
open Go Go.RowKit
end Go.Proofs.YtkmghcglmjehcaaI
end
section
/- Labels that are found (the reference's). -/
set_option linter.unusedVariables false
set_option linter.unusedSimpArgs false
namespace Go.Proofs.YtkmghcglmjehcaaI
open Go Go.RowKit
attribute [local irreducible] infL
end Go.Proofs.YtkmghcglmjehcaaI
end
section
/- A program and which labels are free, drawn. -/
set_option linter.unusedVariables false
set_option linter.unusedSimpArgs false
namespace Go.Proofs.YtkmghcglmjehcaaI
open Go Go.RowKit
end Go.Proofs.YtkmghcglmjehcaaI
end
section
/- What the laws' functions say of steps and programs. -/
set_option linter.unusedVariables false
set_option linter.unusedSimpArgs false
namespace Go.Proofs.YtkmghcglmjehcaaI
open Go Go.RowKit
end Go.Proofs.YtkmghcglmjehcaaI
end
section
/- The laws FnInferOf, FnInferTwice on the ideal machine. -/
set_option linter.unusedVariables false
set_option linter.unusedSimpArgs false
namespace Go.Proofs.YtkmghcglmjehcaaI
open Go Go.RowKit
attribute [local irreducible] infL
end Go.Proofs.YtkmghcglmjehcaaI
end
section
/- The laws FnInferNone, FnInferAll on the ideal machine. -/
set_option linter.unusedVariables false
set_option linter.unusedSimpArgs false
namespace Go.Proofs.YtkmghcglmjehcaaI
open Go Go.RowKit
attribute [local irreducible] infL
end Go.Proofs.YtkmghcglmjehcaaI
end
section
/- A label, drawn. -/
set_option linter.unusedVariables false
set_option linter.unusedSimpArgs false
namespace Go.Proofs.YtkmghcglmjehcaaI
open Go Go.RowKit
end Go.Proofs.YtkmghcglmjehcaaI
end
section
/- The laws FnInferMore, FnInferMost on the ideal machine. -/
set_option linter.unusedVariables false
set_option linter.unusedSimpArgs false
namespace Go.Proofs.YtkmghcglmjehcaaI
open Go Go.RowKit
attribute [local irreducible] infL
end Go.Proofs.YtkmghcglmjehcaaI
end
section
/- The law FnInferRun on the ideal machine. -/
set_option linter.unusedVariables false
set_option linter.unusedSimpArgs false
namespace Go.Proofs.YtkmghcglmjehcaaI
open Go Go.RowKit
attribute [local irreducible] infL
def c_lcWrites : IFn := ⟨2, 26, [.t 4],
 .seq (.reg none [
    ⟨(some 4), none, .mov (.c (.bool false))⟩])
 (.seq (.seq (.reg none [
     ⟨(some 6), none, .mov (.t 0)⟩,
     ⟨(some 7), none, .len (.t 6)⟩,
     ⟨(some 8), none, .mov (.t 1)⟩,
     ⟨(some 9), none, .len (.t 8)⟩,
     ⟨(some 10), none, .bin .neq (.t 7) (.t 9)⟩])
  (.cond (.t 10) (.seq (.reg none [
      ⟨(some 4), none, .mov (.c (.bool false))⟩])
   (.ret)) (.skip)))
 (.seq (.seq (.reg none [
     ⟨(some 5), none, .mov (.c (.int .i64 0))⟩])
  (.block 0 (.loop (.seq (.seq (.reg none [
        ⟨(some 11), none, .mov (.t 5)⟩,
        ⟨(some 12), none, .mov (.t 0)⟩,
        ⟨(some 13), none, .len (.t 12)⟩,
        ⟨(some 14), none, .bin .lss (.t 11) (.t 13)⟩])
     (.cond (.t 14) (.skip) (.exit 0)))
    (.seq (.block 1 (.seq (.reg (some 8) [
         ⟨(some 17), none, .mov (.t 0)⟩,
         ⟨(some 18), none, .mov (.t 5)⟩,
         ⟨(some 19), none, .iad 2 (.t 17) (.t 18)⟩,
         ⟨(some 20), none, .load true 2 (.t 19)⟩,
         ⟨(some 21), none, .mov (.t 1)⟩,
         ⟨(some 22), none, .mov (.t 5)⟩,
         ⟨(some 23), none, .iad 2 (.t 21) (.t 22)⟩,
         ⟨(some 24), none, .load true 2 (.t 23)⟩,
         ⟨(some 25), none, .eqs true 2 (.t 20) (.t 24)⟩])
      (.cond (.t 25) (.seq (.reg none [
          ⟨(some 4), none, .mov (.c (.bool false))⟩])
       (.ret)) (.skip))))
    (.reg none [
      ⟨(some 15), none, .mov (.t 5)⟩,
      ⟨(some 16), none, .bin .add (.t 15) (.c (.int .i64 1))⟩,
      ⟨(some 5), none, .mov (.t 16)⟩]))))))
 (.seq (.reg none [
    ⟨(some 4), none, .mov (.c (.bool true))⟩])
 (.ret))))⟩
theorem lcWrites_ok {F : Nat → Option IFn} {f : Nat} (hf : F f = some c_lcWrites) : PairsOk F f := by
  intro H v w l l' hv hw
  obtain ⟨h0, a, rfl, _⟩ := id hv
  obtain ⟨h0', a', rfl, _⟩ := id hw
  refine QC.mk hf rfl ?_
  refine seq_reg ?_
  simp only [go_sem, binC]
  by_cases hl : l.length = l'.length
  rotate_left
  · have hne : ((l.length : Int) != (l'.length : Int)) = true := by simp; omega
    refine seq_assoc (seq_reg ?_)
    simp only [go_sem, binC, hne]
    refine seq_cond (t := true) rfl ?_
    simp only [go_sem, binC]
    refine seq_assoc (seq_reg ?_)
    simp only [go_sem, binC]
    refine seq_ret ⟨Or.inr rfl, .bool false, by simp only [go_sem, binC], ?_, rfl⟩
    rw [decide_eq_false (fun h => hl (by rw [h]))]
  have hne : ((l.length : Int) != (l'.length : Int)) = false := by simp; omega
  refine seq_assoc (seq_reg ?_)
  simp only [go_sem, binC, hne]
  refine seq_cond (t := false) rfl ?_
  simp only [go_sem, binC]
  refine seq_skip (seq_assoc (seq_reg ?_))
  simp only [go_sem, binC]
  refine seq_block (wpc_loop ?_)
  suffices h : ∀ (k i : Nat) (e : Env), i + k = l.length → e 0 = .slice a l.length l.length → e 1 = .slice a' l'.length l'.length → e 5 = .int .i64 i → (l = l' ↔ l.drop i = l'.drop i) → W F H.length _ e _ _ from
    h l.length 0 _ (by omega) (by simp only [go_sem, binC]) (by simp only [go_sem, binC]) (by (simp only [go_sem, binC]) <;> rfl) (by simp)
  intro k
  induction k with
  | zero =>
    intro i e hi e0 e1 e5 heq
    refine lp_step ?_
    refine seq_assoc (seq_reg ?_)
    simp only [go_sem, binC, e0, e5]
    refine seq_cond (t := false) (by simp only [go_sem, binC]; rw [decide_eq_false (by omega)]) ?_
    simp only [go_sem, binC]
    refine seq_exit ?_
    simp only [go_sem, binC, thenX_e, out_e, thenX_n]
    refine seq_reg ?_
    simp only [go_sem, binC]
    refine wpc_ret ⟨Or.inr rfl, .bool true, by simp only [go_sem, binC], ?_, rfl⟩
    rw [decide_eq_true (heq.2 (by rw [List.drop_of_length_le (by omega), List.drop_of_length_le (by omega)]))]
  | succ k ih =>
    intro i e hi e0 e1 e5 heq
    have hil : i < l.length := by omega
    have hil' : i < l'.length := by omega
    obtain ⟨b, o, hv1, hg⟩ := gcP hv hil
    obtain ⟨b', o', hv2, hg'⟩ := gcP hw hil'
    simp only [Value.slice.injEq, and_true] at hv1 hv2
    subst hv1 hv2
    have hw1 : IntKind.i64.wrap ((i : Int) + 1) = ((i + 1 : Nat) : Int) := by rw [wrap_id (by omega) (by omega)]; omega
    rw [List.drop_eq_getElem_cons hil, List.drop_eq_getElem_cons hil', List.cons.injEq] at heq
    refine lp_step ?_
    refine seq_assoc (seq_reg ?_)
    simp only [go_sem, binC, e0, e5]
    refine seq_cond (t := true) (by simp only [go_sem, binC]; rw [decide_eq_true (by omega)]) ?_
    simp only [go_sem, binC]
    refine seq_skip (seq_block (seq_regD ?_))
    simp only [go_sem, binC, e0, e5]
    refine ⟨⟨by omega, by omega⟩, ?_⟩
    simp only [go_sem, binC, Int.toNat_natCast, hg, e1, e5]
    refine ⟨⟨by omega, by omega⟩, ?_⟩
    simp only [go_sem, binC, Int.toNat_natCast, hg', eqsV2]
    by_cases hq : l[i] = l'[i]
    · have hb : (!decide ((l[i].1, l[i].2) = (l'[i].1, l'[i].2))) = false := by simp [hq]
      simp only [go_sem, binC, hb]
      refine wpc_cond (t := false) (by (simp only [go_sem, binC]) <;> rfl) ?_
      simp only [go_sem, binC]
      refine wpc_skip ?_
      simp only [go_sem, binC, out_n, thenX_n]
      refine wpc_reg ?_
      simp only [go_sem, binC, e5, hw1]
      simp only [go_sem, binC, thenX_n]
      exact ih (i + 1) _ (by omega) (by simp only [go_sem, binC, e0]) (by simp only [go_sem, binC, e1]) (by simp only [go_sem, binC]) (by rw [heq]; exact ⟨fun h => h.2, fun h => ⟨hq, h⟩⟩)
    · have hb : (!decide ((l[i].1, l[i].2) = (l'[i].1, l'[i].2))) = true := by
        rw [decide_eq_false (fun h => hq (Prod.ext (by simpa using congrArg Prod.fst h) (by simpa using congrArg Prod.snd h)))]; rfl
      simp only [go_sem, binC, hb]
      refine wpc_cond (t := true) (by (simp only [go_sem, binC]) <;> rfl) ?_
      simp only [go_sem, binC]
      refine seq_reg ?_
      simp only [go_sem, binC]
      refine wpc_ret ?_
      simp only [go_sem, binC, out_r, thenX_r]
      refine ⟨Or.inr rfl, .bool false, by simp only [go_sem, binC], ?_, rfl⟩
      rw [decide_eq_false (fun h => hq (heq.1 h).1)]
end Go.Proofs.YtkmghcglmjehcaaI
end
section
/- The first two rows that tell something that may not be known, or set what is trusted (the reference's). -/
set_option linter.unusedVariables false
set_option linter.unusedSimpArgs false
namespace Go.Proofs.YtkmghcglmjehcaaI
open Go Go.RowKit
def c_sFind12 : IFn := ⟨4, 86, [.t 8, .t 9, .t 10],
 .seq (.reg none [
    ⟨(some 4), none, .box (.t 0)⟩,
    ⟨(some 8), none, .mov (.c (.slice none 0 0))⟩,
    ⟨(some 9), none, .mov (.c (.slice none 0 0))⟩,
    ⟨(some 10), none, .mov (.c (.bool false))⟩])
 (.seq (.reg none [
    ⟨(some 20), none, .fad 0 (.t 4)⟩,
    ⟨(some 21), none, .load false 1 (.t 20)⟩,
    ⟨(some 22), none, .len (.t 21)⟩,
    ⟨(some 11), none, .mov (.t 22)⟩])
 (.seq (.seq (.reg none [
     ⟨(some 12), none, .mov (.c (.int .i64 0))⟩])
  (.block 0 (.loop (.seq (.seq (.reg none [
        ⟨(some 23), none, .mov (.t 12)⟩,
        ⟨(some 24), none, .mov (.t 11)⟩,
        ⟨(some 25), none, .bin .shl (.c (.int .i64 1)) (.t 24)⟩,
        ⟨(some 26), none, .bin .lss (.t 23) (.t 25)⟩])
     (.cond (.t 26) (.skip) (.exit 0)))
    (.seq (.block 1 (.seq (.reg none [
         ⟨(some 13), none, .mov (.c (.int .i64 0))⟩])
      (.block 2 (.loop (.seq (.seq (.reg none [
            ⟨(some 29), none, .mov (.t 13)⟩,
            ⟨(some 30), none, .mov (.t 12)⟩,
            ⟨(some 31), none, .bin .lss (.t 29) (.t 30)⟩])
         (.cond (.t 31) (.skip) (.exit 2)))
        (.seq (.block 3 (.seq (.reg none [
             ⟨(some 34), none, .mov (.t 13)⟩,
             ⟨(some 35), none, .mov (.t 11)⟩,
             ⟨(some 36), none, .call .k (.f 128) [(.t 34), (.t 35)]⟩,
             ⟨(some 14), none, .mov (.t 36)⟩])
          (.seq (.reg none [
             ⟨(some 37), none, .mov (.t 12)⟩,
             ⟨(some 38), none, .mov (.t 11)⟩,
             ⟨(some 39), none, .call .k (.f 128) [(.t 37), (.t 38)]⟩,
             ⟨(some 15), none, .mov (.t 39)⟩])
          (.seq (.seq (.reg none [
              ⟨(some 40), none, .mov (.t 14)⟩,
              ⟨(some 41), none, .mov (.t 15)⟩,
              ⟨(some 42), none, .mov (.t 1)⟩,
              ⟨(some 43), none, .call .q (.f 129) [(.t 40), (.t 41), (.t 42)]⟩,
              ⟨(some 44), none, .un .not (.t 43)⟩])
           (.cond (.t 44) (.exit 3) (.skip)))
          (.seq (.reg none [
             ⟨(some 46), none, .load true 2 (.t 4)⟩,
             ⟨(some 47), none, .mov (.t 14)⟩,
             ⟨(some 48), none, .call .k (.f 130) [(.t 46), (.t 47)]⟩,
             ⟨(some 45), none, .mov (.t 48)⟩,
             ⟨(some 49), none, .ext (.t 45) 0⟩,
             ⟨(some 50), none, .ext (.t 45) 1⟩,
             ⟨(some 16), none, .new [(.slice none 0 0), (.slice none 0 0), (.slice none 0 0)]⟩,
             ⟨none, none, .store 3 (.t 16) (.t 49)⟩,
             ⟨(some 17), none, .mov (.t 50)⟩])
          (.seq (.reg none [
             ⟨(some 52), none, .load true 2 (.t 4)⟩,
             ⟨(some 53), none, .mov (.t 15)⟩,
             ⟨(some 54), none, .call .k (.f 130) [(.t 52), (.t 53)]⟩,
             ⟨(some 51), none, .mov (.t 54)⟩,
             ⟨(some 55), none, .ext (.t 51) 0⟩,
             ⟨(some 56), none, .ext (.t 51) 1⟩,
             ⟨(some 18), none, .new [(.slice none 0 0), (.slice none 0 0), (.slice none 0 0)]⟩,
             ⟨none, none, .store 3 (.t 18) (.t 55)⟩,
             ⟨(some 19), none, .mov (.t 56)⟩])
          (.seq (.reg (some 20) [
             ⟨(some 57), none, .mov (.t 3)⟩,
             ⟨(some 58), none, .mov (.t 57)⟩,
             ⟨(some 59), (some (58, true)), .load true 3 (.t 16)⟩,
             ⟨(some 60), (some (58, true)), .mov (.t 2)⟩,
             ⟨(some 61), (some (58, true)), .call .k (.f 132) [(.t 59), (.t 60)]⟩,
             ⟨(some 62), (some (58, true)), .load true 3 (.t 18)⟩,
             ⟨(some 63), (some (58, true)), .mov (.t 2)⟩,
             ⟨(some 64), (some (58, true)), .call .k (.f 132) [(.t 62), (.t 63)]⟩,
             ⟨(some 65), (some (58, true)), .call .q (.f 131) [(.t 61), (.t 64)]⟩,
             ⟨(some 66), (some (58, true)), .un .not (.t 65)⟩,
             ⟨(some 67), none, .pick (.t 58) (.t 66) (.c (.bool false))⟩,
             ⟨(some 68), none, .mov (.t 67)⟩,
             ⟨(some 69), (some (68, false)), .mov (.t 3)⟩,
             ⟨(some 70), (some (68, false)), .un .not (.t 69)⟩,
             ⟨(some 71), (some (68, false)), .mov (.t 70)⟩,
             ⟨(some 72), (some (71, true)), .load true 3 (.t 16)⟩,
             ⟨(some 73), (some (71, true)), .mov (.t 1)⟩,
             ⟨(some 74), (some (71, true)), .call .k (.f 134) [(.t 72), (.t 73)]⟩,
             ⟨(some 75), (some (71, true)), .load true 3 (.t 18)⟩,
             ⟨(some 76), (some (71, true)), .mov (.t 1)⟩,
             ⟨(some 77), (some (71, true)), .call .k (.f 134) [(.t 75), (.t 76)]⟩,
             ⟨(some 78), (some (71, true)), .call .q (.f 133) [(.t 74), (.t 77)]⟩,
             ⟨(some 79), (some (71, true)), .un .not (.t 78)⟩,
             ⟨(some 80), (some (68, false)), .pick (.t 71) (.t 79) (.c (.bool false))⟩,
             ⟨(some 81), none, .pick (.t 68) (.c (.bool true)) (.t 80)⟩])
          (.cond (.t 81) (.seq (.reg none [
              ⟨(some 82), none, .mov (.t 14)⟩,
              ⟨(some 83), none, .mov (.t 15)⟩,
              ⟨(some 8), none, .mov (.t 82)⟩,
              ⟨(some 9), none, .mov (.t 83)⟩,
              ⟨(some 10), none, .mov (.c (.bool true))⟩])
           (.ret)) (.skip)))))))))
        (.reg none [
          ⟨(some 32), none, .mov (.t 13)⟩,
          ⟨(some 33), none, .bin .add (.t 32) (.c (.int .i64 1))⟩,
          ⟨(some 13), none, .mov (.t 33)⟩])))))))
    (.reg none [
      ⟨(some 27), none, .mov (.t 12)⟩,
      ⟨(some 28), none, .bin .add (.t 27) (.c (.int .i64 1))⟩,
      ⟨(some 12), none, .mov (.t 28)⟩]))))))
 (.seq (.reg none [
    ⟨(some 84), none, .lit 1 3 0 [] []⟩,
    ⟨(some 85), none, .lit 1 3 0 [] []⟩,
    ⟨(some 8), none, .mov (.t 84)⟩,
    ⟨(some 9), none, .mov (.t 85)⟩,
    ⟨(some 10), none, .mov (.c (.bool false))⟩])
 (.ret))))⟩
def c_sSwayOf : IFn := ⟨2, 26, [.t 4, .t 5, .t 6],
 .seq (.reg none [
    ⟨(some 2), none, .box (.t 0)⟩,
    ⟨(some 4), none, .mov (.c (.slice none 0 0))⟩,
    ⟨(some 5), none, .mov (.c (.slice none 0 0))⟩,
    ⟨(some 6), none, .mov (.c (.bool false))⟩])
 (.seq (.seq (.reg none [
     ⟨(some 7), none, .load true 2 (.t 2)⟩,
     ⟨(some 8), none, .call .q (.f 19) [(.t 7)]⟩,
     ⟨(some 9), none, .un .not (.t 8)⟩,
     ⟨(some 10), none, .mov (.t 9)⟩,
     ⟨(some 11), (some (10, false)), .mov (.t 1)⟩,
     ⟨(some 12), (some (10, false)), .call .q (.f 86) [(.t 11), (.c (.int .i64 0)), (.c (.int .i64 2))]⟩,
     ⟨(some 13), (some (10, false)), .un .not (.t 12)⟩,
     ⟨(some 14), none, .pick (.t 10) (.c (.bool true)) (.t 13)⟩])
  (.cond (.t 14) (.seq (.reg none [
      ⟨(some 15), none, .lit 1 3 0 [] []⟩,
      ⟨(some 16), none, .lit 1 3 0 [] []⟩,
      ⟨(some 4), none, .mov (.t 15)⟩,
      ⟨(some 5), none, .mov (.t 16)⟩,
      ⟨(some 6), none, .mov (.c (.bool false))⟩])
   (.ret)) (.skip)))
 (.seq (.reg (some 9) [
    ⟨(some 17), none, .load true 2 (.t 2)⟩,
    ⟨(some 18), none, .load true 2 (.t 2)⟩,
    ⟨(some 19), none, .mov (.t 1)⟩,
    ⟨(some 20), none, .call .k (.f 95) [(.t 18), (.t 19)]⟩,
    ⟨(some 21), none, .mov (.t 1)⟩,
    ⟨(some 22), none, .call .k (.f 87) [(.t 17), (.t 20), (.t 21), (.c (.bool false))]⟩,
    ⟨(some 23), none, .ext (.t 22) 0⟩,
    ⟨(some 24), none, .ext (.t 22) 1⟩,
    ⟨(some 25), none, .ext (.t 22) 2⟩,
    ⟨(some 4), none, .mov (.t 23)⟩,
    ⟨(some 5), none, .mov (.t 24)⟩,
    ⟨(some 6), none, .mov (.t 25)⟩])
 (.ret)))⟩
def sets (nums : List Int) (ws : List (Int × Int)) : List Int := ws.foldl (fun ns w => ns.set w.1.toNat w.2) nums
structure RunP (nums : List Int) (k : Nat) (r : RunS) (M : Nat) : Prop where
  len : r.1.length = k
  rg : ∀ x ∈ r.1, 0 ≤ x ∧ x ≤ 9
  wr : sets nums r.2.1 = r.1
  vr : ∀ w ∈ r.2.1, 0 ≤ w.1 ∧ w.1 < k
  sm : r.2.1.length + r.2.2.length ≤ M
theorem RunP.mono {nums : List Int} {k : Nat} {r : RunS} {M M' : Nat} (h : RunP nums k r M) (hM : M ≤ M') : RunP nums k r M' := ⟨h.len, h.rg, h.wr, h.vr, Nat.le_trans h.sm hM⟩
theorem runL_P0 {nums : List Int} {k : Nat} (n : Nat) (h : ∀ (s : TStep n) (r : RunS) (M : Nat) (d : Int), RunP nums k r M → stepB k n d s = true → RunP nums k (runT n s r) (M + (allT n s).length)) : ∀ (l : List (TStep n)) (r : RunS) (M : Nat) (d : Int), RunP nums k r M → l.all (stepB k n d) = true → RunP nums k (runL n l r) (M + (allL n l).length) := by
  intro l
  induction l with
  | nil =>
    intro r M d hr _
    exact hr
  | cons s l ih =>
    intro r M d hr hl
    rw [List.all_cons, Bool.and_eq_true] at hl
    have h1 := ih _ _ d (h s r M d hr hl.1) hl.2
    have h2 : (allL n (s :: l)).length = (allT n s).length + (allL n l).length := by unfold allL; rw [List.map_cons, List.flatten_cons, List.length_append]
    rw [h2, ← Nat.add_assoc]
    exact h1
theorem runT_P {nums : List Int} {k : Nat} : ∀ (n : Nat) (s : TStep n) (r : RunS) (M : Nat) (d : Int), RunP nums k r M → stepB k n d s = true → RunP nums k (runT n s r) (M + (allT n s).length)
  | 0, s, _, _, _, _, _ => s.elim
  | n + 1, (kd, vr, v, ho, th, el), r, M, d, hr, h => by
    obtain ⟨hvr, h1, h2, _⟩ := stepB_f h
    rw [allT_succ, List.length_cons, List.length_append]
    by_cases q1 : kd = 1
    · subst q1
      rw [runT_set]
      have hv := h1 rfl
      rw [← hr.len] at hv
      have hx := valN_rg hv hr.rg
      refine ⟨by rw [List.length_set]; exact hr.len, fun x hx' => ?_, ?_, fun w hw => ?_, ?_⟩
      · rcases List.mem_or_eq_of_mem_set hx' with h | rfl
        · exact hr.rg x h
        · exact hx
      · unfold sets
        rw [List.foldl_append]
        have := hr.wr
        unfold sets at this
        rw [this]
        rfl
      · simp only [List.mem_append, List.mem_singleton] at hw
        rcases hw with h | rfl
        · exact hr.vr w h
        · exact hvr
      · have := hr.sm
        simp only [List.length_append, List.length_singleton]
        omega
    by_cases q2 : kd = 2
    · obtain ⟨h3, h4⟩ := h2 q2
      subst q2
      rw [runT_if]
      split
      · exact (runL_P0 n (runT_P n) el r M (d - 1) hr h4).mono (by omega)
      · exact (runL_P0 n (runT_P n) th r M (d - 1) hr h3).mono (by omega)
    · rw [runT_tell q1 q2]
      have := hr.sm
      exact ⟨hr.len, hr.rg, hr.wr, hr.vr, by simp only [List.length_append, List.length_singleton]; omega⟩
theorem runOf_P {n : Nat} {ls : List (Int × Int)} {l : List (TStep n)} {nums : List Int} (h : numsB n (ls, l) nums = true) : RunP nums ls.length (runOf n (ls, l) nums) (allL n l).length ∧ numsB n (ls, l) (runOf n (ls, l) nums).1 = true := by
  have hB2 := h
  simp only [numsB, Bool.and_eq_true, decide_eq_true_eq, List.all_eq_true] at hB2
  obtain ⟨⟨hP, hln⟩, hall⟩ := hB2
  have hst : l.all (stepB ls.length n 3) = true := by
    simp only [progB, Bool.and_eq_true] at hP; exact hP.1.2
  have hrun : runOf n (ls, l) nums = runL n l (nums, [], []) := if_pos h
  have h0 : RunP nums ls.length (nums, [], []) 0 := ⟨hln, fun x hx => inB_iff'.1 (hall x hx), rfl, (fun w hw => by cases hw), Nat.le_refl _⟩
  have h1 := runL_P0 n (runT_P n) l _ 0 3 h0 hst
  rw [← hrun, Nat.zero_add] at h1
  refine ⟨h1, ?_⟩
  simp only [numsB, Bool.and_eq_true, decide_eq_true_eq, List.all_eq_true]
  exact ⟨⟨hP, h1.len⟩, fun x hx => inB_iff'.2 (h1.rg x hx)⟩
theorem run_bd {d : Nat} {ls : List (Int × Int)} {l : List (TStep d)} {nums : List Int} (hB : numsB d (ls, l) nums = true) (hsm : (Co.prog d).sm (ls, l)) : (runOf d (ls, l) nums).2.1.length ≤ 1000 ∧ (runOf d (ls, l) nums).2.2.length ≤ 1000 := by
  obtain ⟨P, _⟩ := runOf_P hB
  have hP : progB d (ls, l) = true := by
    have := hB
    simp only [numsB, Bool.and_eq_true] at this
    exact this.1.1
  have h1 := progB_cnt hP hsm
  simp only at h1
  have h2 := P.sm
  omega
def runR (n : Nat) (p : TProg n) (a : Nat) : RunS := runOf n p (rowL a p.1.length)
def okR (n : Nat) (p : TProg n) (vs : List Bool) (d : RunS → RunS → Bool) (f s : Nat) : Bool := sameR vs f s && d (runR n p f) (runR n p s)
def leakG (n : Nat) (p : TProg n) (vs : List Bool) (d : RunS → RunS → Bool) : Option (Nat × Nat) := leakF (okR n p vs d) (2 ^ p.1.length)
def rowsO (k : Nat) : Option (Nat × Nat) → List Int × List Int
  | none => ([], [])
  | some (a, b) => (rowL a k, rowL b k)
def diffC (c : Bool) (h : Int) (vs : List Bool) : RunS → RunS → Bool := if c then diffT h else diffS vs
def leakV (c : Bool) (n : Nat) (p : TProg n) (h : Int) : Option (Nat × Nat) := if (progB n p && inB h 0 2) = true then leakG n p (p.1.map (lowL c h)) (diffC c h (p.1.map (lowL c h))) else none
theorem rowL_nums {n : Nat} {ls : List (Int × Int)} {l : List (TStep n)} (hP : progB n (ls, l) = true) (a : Nat) : numsB n (ls, l) (rowL a ls.length) = true := by
  simp only [numsB, hP, rowL_len, decide_true, Bool.true_and, List.all_eq_true]
  intro x hx
  have := rowL_rg a ls.length x hx
  exact inB_iff.2 (by omega)
theorem runR_bd {n : Nat} {ls : List (Int × Int)} {l : List (TStep n)} (hP : progB n (ls, l) = true) (hsm : (Co.prog n).sm (ls, l)) (a : Nat) : (runR n (ls, l) a).2.1.length ≤ 1000 ∧ (runR n (ls, l) a).2.2.length ≤ 1000 := run_bd (rowL_nums hP a) hsm
theorem pow_le16 {k : Nat} (h : k ≤ 4) : 2 ^ k ≤ 16 := Nat.le_trans (Nat.pow_le_pow_right (by omega) h) (by decide)
/-- A run of a program with a row. -/
theorem run_row {F : Nat → Option IFn} {f : Nat} (g : RunOk F f) {H : Heap} {n : Nat} {lv sv w : Value} {ls : List (Int × Int)} {l : List (TStep n)} {a : Nat} (r1 : SlR Co.p2 (vw 0 H) lv ls) (r2 : SlR (Co.step n) (vw 0 H) sv l) (hsm : (Co.prog n).sm (ls, l)) (hP : progB n (ls, l) = true) (hw : SlR Co.int (vw 0 H) w (rowL a ls.length)) :
    ∃ nv wv tv H', KC F f [.agg #[lv, sv], w] H (.tuple #[.agg #[nv, wv, tv], .bool true]) H' ∧ AgX [] H H' ∧ RunAt H' nv wv tv (runR n (ls, l) a) := by
  obtain ⟨nv, wv, tv, H', k, hx, q1, q2, q3⟩ := g H n lv sv w ls l _ r1 r2 hsm hw
  rw [rowL_nums hP a] at k
  obtain ⟨b1, b2⟩ := runR_bd hP hsm a
  exact ⟨nv, wv, tv, H', k, hx, ⟨q1, q2, q3, b1, b2⟩⟩
def FindG (F : Nat → Option IFn) (f : Nat) : Prop := ∀ (H : Heap) (n : Nat) (lv sv u : Value) (ls : List (Int × Int)) (l : List (TStep n)) (vs : List Bool) (h : Int) (c : Bool), SlR Co.p2 (vw 0 H) lv ls → SlR (Co.step n) (vw 0 H) sv l → (Co.prog n).sm (ls, l) → progB n (ls, l) = true → SlR Co.bool (vw 0 H) u vs → vs.length = ls.length →
  ∃ a b H', KC F f [.agg #[lv, sv], u, .int .i64 h, .bool c] H (.tuple #[a, b, .bool (leakG n (ls, l) vs (diffC c h vs)).isSome]) H' ∧ AgX [] H H' ∧ SlR Co.int (vw 0 H') a (rowsO ls.length (leakG n (ls, l) vs (diffC c h vs))).1 ∧ SlR Co.int (vw 0 H') b (rowsO ls.length (leakG n (ls, l) vs (diffC c h vs))).2
set_option maxHeartbeats 4000000 in
theorem sFind12_ok {F : Nat → Option IFn} {f : Nat} (hf : F f = some c_sFind12) (gb : BitsOk F 128) (gs : SameV F 129) (gr : RunOk F 130) (gt : ToldOk F 132) (gi : IntsOk F 131) (gx : SetsOk F 134) (gw : PairsOk F 133) : FindG F f := by
  intro H n lv sv u ls l vs h c r1 r2 hsm hP hu hvl
  suffices hh : ∃ v H', KC F f [.agg #[lv, sv], u, .int .i64 h, .bool c] H v H' ∧ (∃ a b, v = .tuple #[a, b, .bool (leakG n (ls, l) vs (diffC c h vs)).isSome] ∧ AgX [] H H' ∧ SlR Co.int (vw 0 H') a (rowsO ls.length (leakG n (ls, l) vs (diffC c h vs))).1 ∧ SlR Co.int (vw 0 H') b (rowsO ls.length (leakG n (ls, l) vs (diffC c h vs))).2) by
    obtain ⟨_, H', k, a, b, rfl, hh⟩ := hh
    exact ⟨a, b, H', k, hh⟩
  obtain ⟨_, la, rfl, _⟩ := id r1
  obtain ⟨_, sa, rfl, _⟩ := id r2
  obtain ⟨_, ua, rfl, _⟩ := id hu
  have hls : ls.length ≤ 4 := progB_le4 hP
  have h16 := pow_le16 hls
  have hpp : 0 < 2 ^ ls.length := Nat.pow_pos (by omega)
  have hsl : binI .shl .i64 1 (ls.length : Int) = some (.int .i64 ((2 ^ ls.length : Nat) : Int)) := binI_shlN hls
  unfold leakG
  generalize hok : okR n (ls, l) vs (diffC c h vs) = ok
  show ∃ v H', KC F f _ H v H' ∧ (∃ a b, v = .tuple #[a, b, .bool (leakF ok (2 ^ ls.length)).isSome] ∧ AgX [] H H' ∧ SlR Co.int (vw 0 H') a (rowsO ls.length (leakF ok (2 ^ ls.length))).1 ∧ SlR Co.int (vw 0 H') b (rowsO ls.length (leakF ok (2 ^ ls.length))).2)
  generalize hN : 2 ^ ls.length = N at *
  refine KC.mk hf rfl ?_
  refine seq_reg ?_
  simp only [go_sem, binC]
  refine wpc_gen fun H1 hH1 => ?_
  have hx1 : AgX [] H H1 := hH1 ▸ AgX.app [] _ _
  have hb : H1[H.length]? = some ⟨[.slice la ls.length ls.length, .slice sa l.length l.length], 0, 0, false, true⟩ := hH1 ▸ get_new0 _ _
  clear hH1
  have hl1 := hx1.1
  replace r1 := r1.mono (agx_sub hx1)
  replace r2 := r2.mono (agx_sub hx1)
  replace hu := hu.mono (agx_sub hx1)
  refine seq_reg ?_
  simp only [go_sem, binC, gc_of hb, inBlk_some]
  refine seq_assoc (seq_reg ?_)
  simp only [go_sem, binC]
  refine seq_block (wpc_loop ?_)
  suffices hh : ∀ (m i : Nat) (e : Env) (Hc : Heap), i + m = N → AgX [] H1 Hc → leakF ok i = none → e 1 = .slice ua vs.length vs.length → e 2 = .int .i64 h → e 3 = .bool c → e 4 = ptr H.length 0 → e 11 = .int .i64 ls.length → e 12 = .int .i64 i → W F H.length _ e Hc _ from
    hh N 0 _ H1 (by omega) (AgX.refl _ _) rfl (by simp only [go_sem, binC]) (by simp only [go_sem, binC]) (by simp only [go_sem, binC]) (by simp only [go_sem, binC]) (by simp only [go_sem, binC]) (by (simp only [go_sem, binC]) <;> rfl)
  intro m
  induction m with
  | zero =>
    intro i e Hc hi hxc hnone e1 e2 e3 e4 e11 e12
    obtain rfl : i = N := by omega
    refine lp_step ?_
    refine seq_assoc (seq_reg ?_)
    simp only [go_sem, binC, e11, e12, hsl]
    refine seq_cond (t := false) (by simp only [go_sem, binC]; rw [decide_eq_false (by omega)]) ?_
    simp only [go_sem, binC]
    refine seq_exit ?_
    simp only [go_sem, binC, thenX_e, out_e, thenX_n]
    refine seq_reg ?_
    simp only [go_sem, binC]
    rw [hnone]
    have hx : AgX [] Hc (Hc ++ [⟨[], 1, 3, true, true⟩, ⟨[], 1, 3, true, true⟩]) := AgX.app [] _ _
    refine wpc_ret ⟨Or.inr rfl, .tuple #[sli Hc.length 0 0, sli (Hc.length + 1) 0 0, .bool false], ?_, sli Hc.length 0 0, sli (Hc.length + 1) 0 0, rfl, ?_, ?_, ?_⟩
    · simp [resV, resL, res1, putE_get, notT, sli]
    · first | exact hx1.tr (hxc.tr (AgX.app [] _ _)) | (rw [List.append_assoc]; exact hx1.tr (hxc.tr (AgX.app [] _ _)))
    · exact ⟨by simp [rowsO], _, rfl, .inl rfl⟩
    · exact ⟨by simp [rowsO], _, rfl, .inl rfl⟩
  | succ m ih =>
    intro i e Hc hi hxc hnone e1 e2 e3 e4 e11 e12
    have hiN : i < N := by omega
    have hw1 : IntKind.i64.wrap ((i : Int) + 1) = ((i + 1 : Nat) : Int) := by rw [wrap_id (by omega) (by omega)]; omega
    refine lp_step ?_
    refine seq_assoc (seq_reg ?_)
    simp only [go_sem, binC, e11, e12, hsl]
    refine seq_cond (t := true) (by simp only [go_sem, binC]; rw [decide_eq_true (by omega)]) ?_
    simp only [go_sem, binC]
    refine seq_skip (seq_block (seq_reg ?_))
    simp only [go_sem, binC]
    refine wpc_block (wpc_loop ?_)
    suffices hh : ∀ (q j : Nat) (e : Env) (Hc : Heap), j + q = i → AgX [] H1 Hc → (∀ f, f < j → ok f i = false) → e 1 = .slice ua vs.length vs.length → e 2 = .int .i64 h → e 3 = .bool c → e 4 = ptr H.length 0 → e 11 = .int .i64 ls.length → e 12 = .int .i64 i → e 13 = .int .i64 j → W F H.length _ e Hc _ from
      hh i 0 _ Hc (by omega) hxc (fun f h => by omega) (by simp only [go_sem, binC, e1]) (by simp only [go_sem, binC, e2]) (by simp only [go_sem, binC, e3]) (by simp only [go_sem, binC, e4]) (by simp only [go_sem, binC, e11]) (by simp only [go_sem, binC, e12]) (by (simp only [go_sem, binC]) <;> rfl)
    clear e1 e2 e3 e4 e11 e12 hxc e Hc
    intro q
    induction q with
    | zero =>
      intro j e Hc hj hxc hno e1 e2 e3 e4 e11 e12 e13
      refine lp_step ?_
      refine seq_assoc (seq_reg ?_)
      simp only [go_sem, binC, e12, e13]
      refine seq_cond (t := false) (by simp only [go_sem, binC]; rw [decide_eq_false (by omega)]) ?_
      simp only [go_sem, binC]
      refine seq_exit ?_
      simp only [go_sem, binC, thenX_e, out_e, out_n, thenX_n]
      refine wpc_reg ?_
      simp only [go_sem, binC, e12, hw1]
      simp only [go_sem, binC, thenX_n]
      exact ih (i + 1) _ Hc (by omega) hxc (leakF_step hnone fun f hf => hno f (by omega)) (by simp only [go_sem, binC, e1]) (by simp only [go_sem, binC, e2]) (by simp only [go_sem, binC, e3]) (by simp only [go_sem, binC, e4]) (by simp only [go_sem, binC, e11]) (by simp only [go_sem, binC])
    | succ q ih2 =>
      intro j e Hc hj hxc hno e1 e2 e3 e4 e11 e12 e13
      have hji : j < i := by omega
      have hw2 : IntKind.i64.wrap ((j : Int) + 1) = ((j + 1 : Nat) : Int) := by rw [wrap_id (by omega) (by omega)]; omega
      refine lp_step ?_
      refine seq_assoc (seq_reg ?_)
      simp only [go_sem, binC, e12, e13]
      refine seq_cond (t := true) (by simp only [go_sem, binC]; rw [decide_eq_true (by omega)]) ?_
      simp only [go_sem, binC]
      obtain ⟨za, Ha, ka, xa, qa⟩ := gb Hc j ls.length (by omega) hls
      obtain ⟨zb, Hb, kb, xb, qb⟩ := gb Ha i ls.length (by omega) hls
      obtain ⟨_, aa, rfl, _⟩ := id qa
      obtain ⟨_, ab, rfl, _⟩ := id qb
      have hxb := hxc.tr (xa.tr xb)
      have hbb := hxb.get hb (by simp)
      have lla := rowL_len j ls.length
      have llb := rowL_len i ls.length
      have hnext : ∀ (e' : Env) (H' : Heap), AgX [] H1 H' → ok j i = false → e' 1 = .slice ua vs.length vs.length → e' 2 = .int .i64 h → e' 3 = .bool c → e' 4 = ptr H.length 0 → e' 11 = .int .i64 ls.length → e' 12 = .int .i64 i → e' 13 = .int .i64 ((j + 1 : Nat) : Int) → W F H.length _ e' H' _ := fun e' H' hx hq p1 p2 p3 p4 p11 p12 p13 => ih2 (j + 1) e' H' (by omega) hx (fun f hf => by
        rcases Nat.lt_or_ge f j with hl | hl
        · exact hno f hl
        · obtain rfl : f = j := by omega
          exact hq) p1 p2 p3 p4 p11 p12 p13
      refine seq_skip (seq_block (seq_reg ?_))
      simp only [go_sem, binC, e11, e13]
      refine op_callK (by simp only [go_sem, binC]; exact ka) ?_
      simp only [go_sem, binC]
      refine seq_reg ?_
      simp only [go_sem, binC, e11, e12]
      refine op_callK (by simp only [go_sem, binC]; exact kb) ?_
      simp only [go_sem, binC]
      refine seq_assoc (seq_reg ?_)
      simp only [go_sem, binC, e1]
      refine op_callQ (by simp only [go_sem, binC]; exact gs Hb _ _ _ j i ls.length vs (qa.mono (agx_sub xb)) qb (hu.mono (agx_sub hxb)) hvl hls) ?_
      cases hsa : sameR vs j i with
      | false =>
        simp only [go_sem, binC, Bool.not_false]
        refine seq_cond (t := true) rfl ?_
        simp only [go_sem, binC]
        refine seq_exit ?_
        simp only [go_sem, binC, thenX_e, out_e, out_n, thenX_n]
        refine wpc_reg ?_
        simp only [go_sem, binC, e13, hw2]
        simp only [go_sem, binC, thenX_n]
        exact hnext _ Hb hxb (by rw [← hok]; unfold okR; rw [hsa]; rfl) (by simp only [go_sem, binC, e1]) (by simp only [go_sem, binC, e2]) (by simp only [go_sem, binC, e3]) (by simp only [go_sem, binC, e4]) (by simp only [go_sem, binC, e11]) (by simp only [go_sem, binC, e12]) (by simp only [go_sem, binC])
      | true =>
        simp only [go_sem, binC, Bool.not_true]
        refine seq_cond (t := false) rfl ?_
        simp only [go_sem, binC]
        obtain ⟨nx, wx, tx, Hx, kx, xx, ax⟩ := run_row gr (r1.mono (agx_sub hxb)) (r2.mono (agx_sub hxb)) hsm hP (qa.mono (agx_sub xb))
        obtain ⟨_, nxa, rfl, _⟩ := id ax.n
        obtain ⟨_, wxa, rfl, _⟩ := id ax.w
        obtain ⟨_, txa, rfl, _⟩ := id ax.s
        have hlc := hxc.1
        have hla := xa.1
        have hlb := xb.1
        have hlx := xx.1
        refine seq_skip (seq_reg ?_)
        simp only [go_sem, binC, e4, gc_of hbb, inBlk_some]
        refine op_callK (by simp only [go_sem, binC]; exact kx) ?_
        simp only [go_sem, binC]
        refine ⟨by omega, ?_⟩
        refine wpc_gen fun H2 hh2 => ?_
        have x2 : AgX [] Hx H2 := hh2 ▸ AgX.app [] _ _
        have hbx : H2[Hx.length]? = some ⟨[.slice nxa (runR n (ls, l) j).1.length (runR n (ls, l) j).1.length, .slice wxa (runR n (ls, l) j).2.1.length (runR n (ls, l) j).2.1.length, .slice txa (runR n (ls, l) j).2.2.length (runR n (ls, l) j).2.2.length], 0, 0, false, true⟩ := hh2 ▸ get_new0 _ _
        clear hh2
        have hx2 := hxb.tr (xx.tr x2)
        have hb2 := hx2.get hb (by simp)
        obtain ⟨ny, wy, ty, Hy, ky, xy, ay⟩ := run_row gr (r1.mono (agx_sub hx2)) (r2.mono (agx_sub hx2)) hsm hP (qb.mono (agx_sub (xx.tr x2)))
        obtain ⟨_, nya, rfl, _⟩ := id ay.n
        obtain ⟨_, wya, rfl, _⟩ := id ay.w
        obtain ⟨_, tya, rfl, _⟩ := id ay.s
        have hl2 := x2.1
        have hly := xy.1
        refine seq_reg ?_
        simp only [go_sem, binC, e4, gc_of hb2, inBlk_some]
        refine op_callK (by simp only [go_sem, binC]; exact ky) ?_
        simp only [go_sem, binC]
        refine ⟨by omega, ?_⟩
        refine wpc_gen fun H3 hh3 => ?_
        have x3 : AgX [] Hy H3 := hh3 ▸ AgX.app [] _ _
        have hby : H3[Hy.length]? = some ⟨[.slice nya (runR n (ls, l) i).1.length (runR n (ls, l) i).1.length, .slice wya (runR n (ls, l) i).2.1.length (runR n (ls, l) i).2.1.length, .slice tya (runR n (ls, l) i).2.2.length (runR n (ls, l) i).2.2.length], 0, 0, false, true⟩ := hh3 ▸ get_new0 _ _
        clear hh3
        have hx23 := xy.tr x3
        have hbx3 := hx23.get hbx (by simp)
        have ax3 := ax.mono (x2.tr hx23)
        have ay3 := ay.mono x3
        have hx3 := hx2.tr hx23
        have hu3 := hu.mono (agx_sub hx3)
        have qa3 := qa.mono (agx_sub (xb.tr ((xx.tr x2).tr hx23)))
        have qb3 := qb.mono (agx_sub ((xx.tr x2).tr hx23))
        refine seq_regD ?_
        simp only [go_sem, binC, e3]
        cases c with
        | true =>
          obtain ⟨z, H4, k4, x4, q4⟩ := gt H3 _ _ _ _ h ax3.ones.1 ax3.ones.2.1 ax3.s ax3.ls (p2_rg ax3.s)
          have hby4 := x4.get hby (by simp)
          have ay4 := ay3.mono x4
          obtain ⟨z', H5, k5, x5, q5⟩ := gt H4 _ _ _ _ h ay4.ones.1 ay4.ones.2.1 ay4.s ay4.ls (p2_rg ay4.s)
          simp only [go_sem, binC, gc_of hbx3, inBlk_some, e2]
          refine op_callK (by simp only [go_sem, binC]; exact k4) ?_
          simp only [go_sem, binC, gc_of hby4, inBlk_some, e2]
          refine op_callK (by simp only [go_sem, binC]; exact k5) ?_
          simp only [go_sem, binC]
          refine op_callQ (by simp only [go_sem, binC]; exact gi H5 _ _ _ _ (q4.mono (agx_sub x5)) q5) ?_
          have hx5 := hx3.tr (x4.tr x5)
          have hd : ok j i = !decide (toldL h (runR n (ls, l) j).2.2 = toldL h (runR n (ls, l) i).2.2) := by
            rw [← hok]; unfold okR; rw [hsa, Bool.true_and]; rfl
          cases hdd : decide (toldL h (runR n (ls, l) j).2.2 = toldL h (runR n (ls, l) i).2.2) with
          | true =>
            simp only [go_sem, binC, e3, Bool.not_true]
            refine wpc_cond (t := false) rfl ?_
            simp only [go_sem, binC]
            refine wpc_skip ?_
            simp only [go_sem, binC, out_n, thenX_n]
            refine wpc_reg ?_
            simp only [go_sem, binC, e13, hw2]
            simp only [go_sem, binC, thenX_n]
            exact hnext _ H5 hx5 (by rw [hd, hdd]; rfl) (by simp only [go_sem, binC, e1]) (by simp only [go_sem, binC, e2]) (by simp only [go_sem, binC, e3]) (by simp only [go_sem, binC, e4]) (by simp only [go_sem, binC, e11]) (by simp only [go_sem, binC, e12]) (by simp only [go_sem, binC])
          | false =>
            simp only [go_sem, binC, e3, Bool.not_false]
            refine wpc_cond (t := true) rfl ?_
            simp only [go_sem, binC]
            refine seq_reg ?_
            simp only [go_sem, binC]
            refine wpc_ret ?_
            simp only [go_sem, binC, out_r, thenX_r]
            have hhit : leakF ok N = some (j, i) := leakF_keep (leakF_hit hnone hno (by rw [hd, hdd]; rfl) hji) N (by omega)
            rw [hhit]
            refine ⟨Or.inr rfl, .tuple #[.slice aa (rowL j ls.length).length (rowL j ls.length).length, .slice ab (rowL i ls.length).length (rowL i ls.length).length, .bool true], by simp [resV, resL, res1, putE_get, notT], _, _, rfl, hx1.tr hx5, qa3.mono (agx_sub (x4.tr x5)), qb3.mono (agx_sub (x4.tr x5))⟩
        | false =>
          obtain ⟨z, H4, k4, x4, q4⟩ := gx H3 _ _ _ _ _ vs ax3.ones.1 ax3.w ax3.ones.2.2 hu3 ax3.lw (p2_rg ax3.w)
          have hby4 := x4.get hby (by simp)
          have ay4 := ay3.mono x4
          obtain ⟨z', H5, k5, x5, q5⟩ := gx H4 _ _ _ _ _ vs ay4.ones.1 ay4.w ay4.ones.2.2 (hu3.mono (agx_sub x4)) ay4.lw (p2_rg ay4.w)
          simp only [go_sem, binC, gc_of hbx3, inBlk_some, e1, e3, Bool.not_false]
          refine op_callK (by simp only [go_sem, binC]; exact k4) ?_
          simp only [go_sem, binC, gc_of hby4, inBlk_some, e1]
          refine op_callK (by simp only [go_sem, binC]; exact k5) ?_
          simp only [go_sem, binC]
          refine op_callQ (by simp only [go_sem, binC]; exact gw H5 _ _ _ _ (q4.mono (agx_sub x5)) q5) ?_
          have hx5 := hx3.tr (x4.tr x5)
          have hd : ok j i = !decide ((runR n (ls, l) j).2.1.filter (seenW vs) = (runR n (ls, l) i).2.1.filter (seenW vs)) := by
            rw [← hok]; unfold okR; rw [hsa, Bool.true_and]; rfl
          cases hdd : decide ((runR n (ls, l) j).2.1.filter (seenW vs) = (runR n (ls, l) i).2.1.filter (seenW vs)) with
          | true =>
            simp only [go_sem, binC, Bool.not_true]
            refine wpc_cond (t := false) rfl ?_
            simp only [go_sem, binC]
            refine wpc_skip ?_
            simp only [go_sem, binC, out_n, thenX_n]
            refine wpc_reg ?_
            simp only [go_sem, binC, e13, hw2]
            simp only [go_sem, binC, thenX_n]
            exact hnext _ H5 hx5 (by rw [hd, hdd]; rfl) (by simp only [go_sem, binC, e1]) (by simp only [go_sem, binC, e2]) (by simp only [go_sem, binC, e3]) (by simp only [go_sem, binC, e4]) (by simp only [go_sem, binC, e11]) (by simp only [go_sem, binC, e12]) (by simp only [go_sem, binC])
          | false =>
            simp only [go_sem, binC, Bool.not_false]
            refine wpc_cond (t := true) rfl ?_
            simp only [go_sem, binC]
            refine seq_reg ?_
            simp only [go_sem, binC]
            refine wpc_ret ?_
            simp only [go_sem, binC, out_r, thenX_r]
            have hhit : leakF ok N = some (j, i) := leakF_keep (leakF_hit hnone hno (by rw [hd, hdd]; rfl) hji) N (by omega)
            rw [hhit]
            refine ⟨Or.inr rfl, .tuple #[.slice aa (rowL j ls.length).length (rowL j ls.length).length, .slice ab (rowL i ls.length).length (rowL i ls.length).length, .bool true], by simp [resV, resL, res1, putE_get, notT], _, _, rfl, hx1.tr hx5, qa3.mono (agx_sub (x4.tr x5)), qb3.mono (agx_sub (x4.tr x5))⟩
def LeakOk (F : Nat → Option IFn) (f : Nat) (c : Bool) : Prop := ∀ (H : Heap) (n : Nat) (lv sv : Value) (ls : List (Int × Int)) (l : List (TStep n)) (h : Int), SlR Co.p2 (vw 0 H) lv ls → SlR (Co.step n) (vw 0 H) sv l → (Co.prog n).sm (ls, l) →
  ∃ a b H', KC F f [.agg #[lv, sv], .int .i64 h] H (.tuple #[a, b, .bool (leakV c n (ls, l) h).isSome]) H' ∧ AgX [] H H' ∧ SlR Co.int (vw 0 H') a (rowsO ls.length (leakV c n (ls, l) h)).1 ∧ SlR Co.int (vw 0 H') b (rowsO ls.length (leakV c n (ls, l) h)).2
theorem sSwayOf_ok {F : Nat → Option IFn} {f : Nat} (hf : F f = some c_sSwayOf) (gp : ProgOk F 19) (gn : ∀ (H : Heap) (a b c : Int), QC F 86 [.int .i64 a, .int .i64 b, .int .i64 c] H (.bool (inB a b c))) (gv : VarsOk F 95 false) (gf : FindG F 87) : LeakOk F f false := by
  intro H n lv sv ls l h r1 r2 hsm
  suffices hh : ∃ v H', KC F f [.agg #[lv, sv], .int .i64 h] H v H' ∧ (∃ a b, v = .tuple #[a, b, .bool (leakV false n (ls, l) h).isSome] ∧ AgX [] H H' ∧ SlR Co.int (vw 0 H') a (rowsO ls.length (leakV false n (ls, l) h)).1 ∧ SlR Co.int (vw 0 H') b (rowsO ls.length (leakV false n (ls, l) h)).2) by
    obtain ⟨_, H', k, a, b, rfl, hh⟩ := hh
    exact ⟨a, b, H', k, hh⟩
  obtain ⟨_, la, rfl, _⟩ := id r1
  obtain ⟨_, sa, rfl, _⟩ := id r2
  refine KC.mk hf rfl ?_
  refine seq_reg ?_
  simp only [go_sem, binC]
  refine wpc_gen fun H1 hH1 => ?_
  have hx1 : AgX [] H H1 := hH1 ▸ AgX.app [] _ _
  have hb : H1[H.length]? = some ⟨[.slice la ls.length ls.length, .slice sa l.length l.length], 0, 0, false, true⟩ := hH1 ▸ get_new0 _ _
  clear hH1
  have hl1 := hx1.1
  replace r1 := r1.mono (agx_sub hx1)
  replace r2 := r2.mono (agx_sub hx1)
  have hbad : ∀ {K : X → Env → Heap → Prop}, leakV false n (ls, l) h = none → True := fun _ => trivial
  refine seq_assoc (seq_reg ?_)
  simp only [go_sem, binC, gc_of hb, inBlk_some]
  refine op_callB (by simp only [go_sem, binC]; exact gp H1 n _ (ls, l) (prog_rd r1 r2) hsm) (fun hP => ?_) (fun hP => ?_)
  rotate_left
  · have hv : leakV false n (ls, l) h = none := by unfold leakV; rw [hP]; rfl
    simp only [go_sem, binC]
    refine seq_cond (t := true) rfl ?_
    simp only [go_sem, binC]
    refine seq_assoc (seq_reg ?_)
    simp only [go_sem, binC]
    refine seq_ret ⟨Or.inr rfl, .tuple #[sli H1.length 0 0, sli (H1.length + 1) 0 0, .bool false], by simp [resV, resL, res1, putE_get, notT, sli], sli H1.length 0 0, sli (H1.length + 1) 0 0, by rw [hv]; rfl, ?_, ?_, ?_⟩
    · first | exact hx1.tr (AgX.app [] _ _) | (rw [List.append_assoc]; exact hx1.tr (AgX.app [] _ _))
    · rw [hv]; exact ⟨by simp [rowsO], _, rfl, .inl rfl⟩
    · rw [hv]; exact ⟨by simp [rowsO], _, rfl, .inl rfl⟩
  simp only [go_sem, binC]
  refine op_callB (by simp only [go_sem, binC]; exact gn H1 h 0 2) (fun hI => ?_) (fun hI => ?_)
  rotate_left
  · have hv : leakV false n (ls, l) h = none := by unfold leakV; rw [hI, Bool.and_false]; rfl
    simp only [go_sem, binC]
    refine seq_cond (t := true) rfl ?_
    simp only [go_sem, binC]
    refine seq_assoc (seq_reg ?_)
    simp only [go_sem, binC]
    refine seq_ret ⟨Or.inr rfl, .tuple #[sli H1.length 0 0, sli (H1.length + 1) 0 0, .bool false], by simp [resV, resL, res1, putE_get, notT, sli], sli H1.length 0 0, sli (H1.length + 1) 0 0, by rw [hv]; rfl, ?_, ?_, ?_⟩
    · first | exact hx1.tr (AgX.app [] _ _) | (rw [List.append_assoc]; exact hx1.tr (AgX.app [] _ _))
    · rw [hv]; exact ⟨by simp [rowsO], _, rfl, .inl rfl⟩
    · rw [hv]; exact ⟨by simp [rowsO], _, rfl, .inl rfl⟩
  have hv : leakV false n (ls, l) h = leakG n (ls, l) (ls.map (lowL false h)) (diffC false h (ls.map (lowL false h))) := by unfold leakV; rw [hP, hI]; rfl
  have hI2 := inB_iff.1 hI
  simp only [go_sem, binC]
  refine seq_cond (t := false) rfl ?_
  simp only [go_sem, binC]
  obtain ⟨w, H2, k2, x2, q2⟩ := gv H1 n _ _ ls l h hI2.1 hI2.2 r1 r2 hsm hP
  obtain ⟨a, b, H3, k3, x3, q3, q4⟩ := gf H2 n _ _ _ ls l _ h false (r1.mono (agx_sub x2)) (r2.mono (agx_sub x2)) hsm hP q2 (by rw [List.length_map])
  refine seq_skip (seq_regD ?_)
  simp only [go_sem, binC, gc_of hb, inBlk_some]
  refine op_callK (by simp only [go_sem, binC]; exact k2) ?_
  simp only [go_sem, binC]
  refine op_callK (by simp only [go_sem, binC]; exact k3) ?_
  obtain ⟨_, aa, rfl, _⟩ := id q3
  obtain ⟨_, ab, rfl, _⟩ := id q4
  simp only [go_sem, binC]
  rw [hv]
  generalize leakG n (ls, l) (ls.map (lowL false h)) (diffC false h (ls.map (lowL false h))) = lk at *
  exact wpc_ret ⟨Or.inr rfl, .tuple #[.slice aa (rowsO ls.length lk).1.length (rowsO ls.length lk).1.length, .slice ab (rowsO ls.length lk).2.length (rowsO ls.length lk).2.length, .bool lk.isSome], by simp [resV, resL, res1, putE_get, notT], _, _, rfl, hx1.tr (x2.tr x3), q3, q4⟩
end Go.Proofs.YtkmghcglmjehcaaI
end
