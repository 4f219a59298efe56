/- Texts of this proof, merged: M8, M9, E0m, V1, V2, V3, E1, E2, E3, E4, E5, H0, J0. -/
import Derived.Test.YtbjeldblaclpnaaQd5
import Derived.Test.YtbjeldblaclpnaaQd6
import Derived.Test.YtbjeldblaclpnaaQd7
section
/- Texts of this proof, merged: D12, D13, D14, D15, D17, D18, D19, D20, D21, I17, Q5n, Q5r. -/
section
/- The first step that is not fine (the reference's). -/
set_option linter.unusedVariables false
set_option linter.unusedSimpArgs false
namespace Go.Proofs.YtbjeldblaclpnaaI
open Go Go.RowKit
theorem prog_rd {n : Nat} {V : Vw} {lv sv : Value} {ls : List (Int × Int)} {l : List (TStep n)} (h1 : SlR Co.p2 V lv ls) (h2 : SlR (Co.step n) V sv l) : Rd (Co.prog n) true V (.agg #[lv, sv]) (ls, l) := ⟨_, rfl, [lv], [sv], rfl, ⟨lv, rfl, h1⟩, ⟨sv, rfl, h2⟩⟩
def TypeAtOk (F : Nat → Option IFn) (f : Nat) : Prop := ∀ (H : Heap) (n : Nat) (lv sv : Value) (ls : List (Int × Int)) (l : List (TStep n)), SlR Co.p2 (vw 0 H) lv ls → SlR (Co.step n) (vw 0 H) sv l → (Co.prog n).sm (ls, l) → progB n (ls, l) = true →
  ∃ b so out H', KC F f [.agg #[lv, sv]] H (sli b 0 out.length) H' ∧ (AgX [] H H' ∧ OwnL Co.p2 2 38 H.length [] H' b so out ∧ out.length = (allL n l).length ∧ out.all labB = true ∧ out = atL n ls (7, 7) l)
theorem sTypeAt_ok {F : Nat → Option IFn} {f : Nat} (hf : F f = some c_sTypeAt) (gp : ProgOk F 60) (ga : ∀ H, QC F 133 [] H (.agg #[.int .i64 7, .int .i64 7])) (gat : ∀ n, AtOk F 132 n) : TypeAtOk F f := by
  intro H n lv sv ls l hlv hsv hsm hpb
  have olv : one lv = true := by obtain ⟨_, a, rfl, _⟩ := hlv; rfl
  have osv : one sv = true := by obtain ⟨_, a, rfl, _⟩ := hsv; rfl
  have hcnt : (allL n l).length ≤ 8 := progB_cnt hpb hsm
  suffices h : ∃ v' H', KC F f [.agg #[lv, sv]] H v' H' ∧ (∃ b so out, v' = sli b 0 out.length ∧ (AgX [] H H' ∧ OwnL Co.p2 2 38 H.length [] H' b so out ∧ out.length = (allL n l).length ∧ out.all labB = true ∧ out = atL n ls (7, 7) l)) by
    obtain ⟨v', H', h1, b, so, out, rfl, h2⟩ := h
    exact ⟨b, so, out, H', h1, h2⟩
  refine KC.mk hf rfl ?_
  refine seq_reg ?_
  simp only [go_sem, binC, olv, osv]
  refine seq_assoc (seq_reg ?_)
  simp only [go_sem, binC, inBlk_some]
  refine op_callQ (by simp only [go_sem, binC]; exact gp _ n _ (ls, l) (prog_rd (hlv.mono (vw_app 0 H _)) (hsv.mono (vw_app 0 H _))) hsm) ?_
  simp only [go_sem, binC, hpb]
  refine seq_cond (t := false) rfl ?_
  simp only [go_sem, binC]
  refine seq_skip (seq_regD ?_)
  simp only [go_sem, binC, inBlk_some]
  refine op_callQ (by simp only [go_sem, binC]; exact ga _) ?_
  simp only [go_sem, binC]
  have hal : ([] : List (Int × Int)).all labB = true := rfl
  have hown : OwnL Co.p2 2 38 H.length [] (H ++ [⟨[lv, sv], 0, 0, false, true⟩, ⟨[], 2, 38, true, true⟩]) (H.length + 1) true ([] : List (Int × Int)) := ⟨by omega, by simp, [], get_new _ _ 1, by simp, fun i hi => by simp at hi⟩
  obtain ⟨b4, so4, out4, H4, k4, x4, c4, bb4, o4, n4, a4, q4⟩ := gat n _ H.length lv sv sv ls l (7, 7) _ _ [] osv (hlv.mono (vw_app 0 H _)) (hsv.mono (vw_app 0 H _)) hown (fun s hs => by
    have := progB_sh hpb s hs
    simp only [shB, Bool.and_eq_true] at this
    exact this.1) rfl hal (by simp; omega)
  refine op_callN (by simp only [go_sem, binC]; exact k4) ?_
  simp only [go_sem, binC]
  refine wpc_ret ⟨Or.inr rfl, _, (by (simp only [go_sem, binC]) <;> rfl), b4, so4, out4, rfl, (AgX.app [] H _).trans x4 (fun _ h _ => h) (fun b' h1 h2 => by simp only [List.mem_singleton] at h1; omega), o4, by simpa using n4, a4, by simpa using q4⟩
theorem OwnG.at {α : Type} {A : Co α} {es et lo vl : Nat} {xs : List Nat} {H : Heap} {b : Nat} {so : Bool} {l : List α} (h : OwnG A es et lo vl xs H b so l) {i : Nat} (hi : i < l.length) : ∃ cs, getCells H b (i * es) es = some cs ∧ A.rd (vwl vl (b :: xs) H) cs l[i] := by
  obtain ⟨h3, h4, cs, h5, h6, h7⟩ := h
  have hi2 : i * es + es ≤ l.length * es := by rw [← Nat.succ_mul]; exact Nat.mul_le_mul_right _ hi
  refine ⟨_, ?_, h7 i hi⟩
  unfold getCells
  rw [h5]
  simp only
  rw [if_pos (by omega)]
def why0 (ls : List (Int × Int)) : List Shal → List (Int × Int) → Nat → Int × Bool
  | s :: ss, h :: hs, i => if fineB ls s h = true then why0 ls ss hs (i + 1) else (i, true)
  | _, _, _ => (0, false)
def whyV (n : Nat) (p : TProg n) : Int × Bool := if progB n p = true then why0 p.1 (allL n p.2) (atL n p.1 (7, 7) p.2) 0 else (0, false)
theorem whyV_no {n : Nat} {ls : List (Int × Int)} {l : List (TStep n)} (h : progB n (ls, l) = false) : whyV n (ls, l) = (0, false) := if_neg (by rw [h]; simp)
theorem whyV_yes {n : Nat} {ls : List (Int × Int)} {l : List (TStep n)} (h : progB n (ls, l) = true) : whyV n (ls, l) = why0 ls (allL n l) (atL n ls (7, 7) l) 0 := if_pos h
def WhyV (F : Nat → Option IFn) (f : Nat) : Prop := ∀ (H : Heap) (n : Nat) (lv sv : Value) (ls : List (Int × Int)) (l : List (TStep n)), SlR Co.p2 (vw 0 H) lv ls → SlR (Co.step n) (vw 0 H) sv l → (Co.prog n).sm (ls, l) → QC F f [.agg #[lv, sv]] H (.tuple #[.int .i64 (whyV n (ls, l)).1, .bool (whyV n (ls, l)).2])
theorem sWhyV_ok {F : Nat → Option IFn} {f : Nat} (hf : F f = some c_sWhy) (gp : ProgOk F 60) (gall : ∀ n, AllOk F 93 n) (gta : TypeAtOk F 94) (gfi : FineOk F 104) : WhyV F f := by
  intro H n lv sv ls l hlv hsv hsm
  have olv : one lv = true := by obtain ⟨_, a, rfl, _⟩ := hlv; rfl
  have osv : one sv = true := by obtain ⟨_, a, rfl, _⟩ := hsv; rfl
  refine QC.mk hf rfl ?_
  refine seq_reg ?_
  simp only [go_sem, binC, olv, osv]
  refine seq_assoc (seq_reg ?_)
  simp only [go_sem, binC, inBlk_some]
  refine op_callQ (by simp only [go_sem, binC]; exact gp _ n _ (ls, l) (prog_rd (hlv.mono (vw_app 0 H _)) (hsv.mono (vw_app 0 H _))) hsm) ?_
  simp only [go_sem, binC]
  cases hpb : progB n (ls, l) with
  | false =>
    refine seq_cond (t := true) rfl ?_
    simp only [go_sem, binC]
    refine seq_assoc (seq_reg ?_)
    simp only [go_sem, binC]
    refine seq_ret ⟨Or.inr rfl, .tuple #[.int .i64 0, .bool false], rfl, by rw [whyV_no hpb], rfl⟩
  | true =>
    have hcnt : (allL n l).length ≤ 8 := progB_cnt hpb hsm
    have hsh := progB_sh hpb
    have hlab := progB_lab hpb
    refine seq_cond (t := false) rfl ?_
    simp only [go_sem, binC]
    refine wpc_gen fun H1 hH1 => ?_
    have ht1 : AgX [] H H1 := hH1 ▸ AgX.app [] _ _
    have hp1 : H1[H.length]? = some ⟨[lv, sv], 0, 0, false, true⟩ := hH1 ▸ get_new0 _ _
    clear hH1
    refine seq_skip (seq_reg ?_)
    simp only [go_sem, binC, gc_of hp1, inBlk_some]
    obtain ⟨v2, H2, k2, x2, b2, so2, rfl, o2⟩ := gall n H1 sv l (hsv.mono (agx_sub ht1)) (by omega)
    refine op_callK (by simp only [go_sem, binC]; exact k2) ?_
    simp only [go_sem, binC]
    have hp2 := x2.get hp1 (by simp)
    have ht2 := ht1.tr x2
    refine seq_reg ?_
    simp only [go_sem, binC, gc_of hp2, inBlk_some]
    obtain ⟨b3, so3, out, H3, k3, x3, o3, n3, a3, q3⟩ := gta H2 n lv sv ls l (hlv.mono (agx_sub ht2)) (hsv.mono (agx_sub ht2)) hsm hpb
    refine op_callK (by simp only [go_sem, binC]; exact k3) ?_
    simp only [go_sem, binC]
    have hp3 := x3.get hp2 (by simp)
    have ht3 := ht2.tr x3
    have o2' := o2.sub x3 (xs' := []) (by simp) (fun _ _ _ _ _ => ⟨by simp, by simp⟩)
    refine seq_assoc (seq_reg ?_)
    simp only [go_sem, binC]
    refine seq_block (wpc_loop ?_)
    suffices h : ∀ (k i : Nat) (e : Env), i + k = (allL n l).length → e 1 = ptr H.length 0 → e 4 = sli b2 0 (allL n l).length → e 5 = sli b3 0 out.length → e 6 = .int .i64 i → whyV n (ls, l) = why0 ls ((allL n l).drop i) (out.drop i) i → W F H.length _ e H3 _ from
      h (allL n l).length 0 _ (by omega) (by simp only [go_sem, binC]) (by simp only [go_sem, binC]) (by simp only [go_sem, binC]) (by (simp only [go_sem, binC]) <;> rfl) (by rw [whyV_yes hpb, List.drop_zero, List.drop_zero, q3])
    intro k
    induction k with
    | zero =>
      intro i e hi e1 e4 e5 e6 hw
      refine lp_step ?_
      refine seq_assoc (seq_reg ?_)
      simp only [go_sem, binC, e4, e6]
      refine seq_cond (t := false) (by simp only [go_sem, binC]; rw [decide_eq_false (by omega)]) ?_
      simp only [go_sem, binC]
      refine seq_exit ?_
      simp only [go_sem, binC, thenX_e, out_e, thenX_n]
      refine seq_reg ?_
      simp only [go_sem, binC]
      refine wpc_ret ⟨Or.inr rfl, .tuple #[.int .i64 0, .bool false], rfl, ?_, rfl⟩
      rw [hw, List.drop_of_length_le (by omega)]
      rfl
    | succ k ih =>
      intro i e hi e1 e4 e5 e6 hw
      have hil : i < (allL n l).length := by omega
      have hio : i < out.length := by omega
      obtain ⟨cs, g1, tv, ev, hcs, otv, oev, rg⟩ := o2'.at hil
      obtain ⟨cs2, g2, x1, y1, hxy, ⟨hx1, rx⟩, ⟨hy1, ry⟩⟩ := o3.at hio
      have hshi := hsh _ (List.getElem_mem hil)
      have hoi : labB out[i] = true := List.all_eq_true.1 a3 _ (List.getElem_mem _)
      rw [List.drop_eq_getElem_cons hil, List.drop_eq_getElem_cons hio, why0] at hw
      generalize (allL n l)[i] = s at hcs rg hshi hw
      generalize out[i] = hr at hx1 hy1 rx ry hoi hw
      obtain ⟨sk, sx, ⟨sa, sbb, sc⟩, sg⟩ := s
      obtain ⟨r1, r2⟩ := hr
      subst hx1 hy1
      subst hxy
      subst hcs
      refine lp_step ?_
      refine seq_assoc (seq_reg ?_)
      simp only [go_sem, binC, e4, e6]
      refine seq_cond (t := true) (by simp only [go_sem, binC]; rw [decide_eq_true (by omega)]) ?_
      simp only [go_sem, binC]
      refine seq_skip (seq_block ?_)
      refine seq_regD ?_
      simp only [go_sem, binC, e1, e4, e5, e6, gc_of hp3, inBlk_some, g1, g2]
      refine ⟨⟨by omega, by omega⟩, ⟨by omega, by omega⟩, ?_⟩
      refine op_callQ (by simp only [go_sem, binC]; exact gfi H3 lv sv tv ev ls _ _ _ _ _ _ (r1, r2) osv otv oev rg (hlv.mono (agx_sub ht3)) hlab hshi hoi) ?_
      simp only [go_sem, binC]
      cases hfi : fineB ls (sk, sx, (sa, sbb, sc), sg) (r1, r2) with
      | false =>
        refine wpc_cond (t := true) rfl ?_
        simp only [go_sem, binC]
        refine seq_reg ?_
        simp only [go_sem, binC, e6]
        refine wpc_ret ?_
        simp only [go_sem, binC, out_r, thenX_r]
        rw [hfi, if_neg (by simp)] at hw
        exact ⟨Or.inr rfl, .tuple #[.int .i64 i, .bool true], by simp [resV, resL, res1, putE_get, notT], by rw [hw], rfl⟩
      | true =>
        refine wpc_cond (t := false) rfl ?_
        simp only [go_sem, binC]
        refine wpc_skip ?_
        simp only [go_sem, binC, out_n, thenX_n]
        refine wpc_reg ?_
        simp only [go_sem, binC, e6]
        have hw1 : IntKind.i64.wrap ((i : Int) + 1) = ((i + 1 : Nat) : Int) := by rw [wrap_id (by omega) (by omega)]; omega
        rw [hw1]
        simp only [go_sem, binC, thenX_n]
        rw [hfi, if_pos rfl] at hw
        exact ih (i + 1) _ (by omega) (by simp only [go_sem, binC, e1]) (by simp only [go_sem, binC, e4]) (by simp only [go_sem, binC, e5]) (by simp only [go_sem, binC]) hw
end Go.Proofs.YtbjeldblaclpnaaI
end
section
/- Steps copied, and steps without one. -/
set_option linter.unusedVariables false
set_option linter.unusedSimpArgs false
namespace Go.Proofs.YtbjeldblaclpnaaI
open Go Go.RowKit
section
variable {H : Heap} {vl : Nat} {xs0 : List Nat} {d b : Nat} {so : Bool} {acc : List (TStep (d + 1))} {bs : Nat} {cells cells' : List Value} {Hc Hc' : Heap}
end
end Go.Proofs.YtbjeldblaclpnaaI
end
section
/- Steps without one. -/
set_option linter.unusedVariables false
set_option linter.unusedSimpArgs false
namespace Go.Proofs.YtbjeldblaclpnaaI
open Go Go.RowKit
theorem wpc_genK {F : Nat → Option IFn} {lo : Nat} {c : ICode} {e : Env} {H : Heap} {K : X → Env → Heap → Prop} (h : ∀ KK, KK = K → wpc F lo c e H KK) : wpc F lo c e H K := h _ rfl
theorem vwl0 (lo : Nat) (xs : List Nat) (H : Heap) : Sub (vwl lo xs H) (vw 0 H) := (vwl_vw _ _ _).trans (vw_grow (Nat.zero_le _) fun _ _ _ => rfl)
end Go.Proofs.YtbjeldblaclpnaaI
end
section
/- Programs that are drawn so that most are fine. -/
set_option linter.unusedVariables false
set_option linter.unusedSimpArgs false
namespace Go.Proofs.YtbjeldblaclpnaaI
open Go Go.RowKit
end Go.Proofs.YtbjeldblaclpnaaI
end
section
/- Programs in which something is not as it was: what is kept. -/
set_option linter.unusedVariables false
set_option linter.unusedSimpArgs false
namespace Go.Proofs.YtbjeldblaclpnaaI
open Go Go.RowKit
section
variable {H0 : Heap} {rb : Nat} {bv : Value} {code : List Int} {H : Heap} {d bl bs : Nat} {sol sos so' : Bool} {ls : List (Int × Int)} {l : List (TStep (d + 1))} {b5 : Nat} {p q : Int} {Hc Hc' H' : Heap}
end
end Go.Proofs.YtbjeldblaclpnaaI
end
section
/- Programs in which something is not as it was. -/
set_option linter.unusedVariables false
set_option linter.unusedSimpArgs false
namespace Go.Proofs.YtbjeldblaclpnaaI
open Go Go.RowKit
end Go.Proofs.YtbjeldblaclpnaaI
end
section
/- Programs in which something is not as it was: the walk. -/
set_option linter.unusedVariables false
set_option linter.unusedSimpArgs false
namespace Go.Proofs.YtbjeldblaclpnaaI
open Go Go.RowKit
section
variable {H0 : Heap} {rb : Nat} {bv : Value} {code : List Int} {H : Heap} {d bl bs : Nat} {sol sos so' : Bool} {ls : List (Int × Int)} {l : List (TStep (d + 1))} {b5 : Nat} {p q : Int} {Hc Hc' H' : Heap}
end
end Go.Proofs.YtbjeldblaclpnaaI
end
section
/- Programs in which something is not as it was: the whole. -/
set_option linter.unusedVariables false
set_option linter.unusedSimpArgs false
namespace Go.Proofs.YtbjeldblaclpnaaI
open Go Go.RowKit
end Go.Proofs.YtbjeldblaclpnaaI
end
section
/- Programs that are drawn, some spoilt. -/
set_option linter.unusedVariables false
set_option linter.unusedSimpArgs false
namespace Go.Proofs.YtbjeldblaclpnaaI
open Go Go.RowKit
end Go.Proofs.YtbjeldblaclpnaaI
end
section
/- A guard that is told nothing. -/
set_option linter.unusedVariables false
set_option linter.unusedSimpArgs false
namespace Go.Proofs.YtbjeldblaclpnaaI
open Go Go.RowKit
section
variable (F : Nat → Option IFn) (lo : Nat) (e : Env) (H : Heap)
theorem runs_undef {d : Option Nat} {op : IOp} {g : Nat} {w : Bool} (hg : e g = undef) : IOper.runs ⟨d, some (g, w), op⟩ e = false := by
  simp [IOper.runs, hg, undef]
@[go_sem] theorem wpo_offU (d : Option Nat) (op : IOp) (r : List IOper) (K : Env → Heap → Prop) (g : Nat) (w : Bool) (hg : e g = undef) : wpo F lo (⟨d, some (g, w), op⟩ :: r) e H K = wpo F lo r (putE e d undef) H K :=
  propext ⟨fun h => h.2 (runs_undef e hg), fun h => ⟨fun h' => (by rw [runs_undef e hg] at h'; cases h'), fun _ => h⟩⟩
@[go_sem] theorem wpp_offU (p : Nat) (d : Option Nat) (op : IOp) (r : List IOper) (K : Env → Heap → Prop) (g : Nat) (w : Bool) (hg : e g = undef) : wpp F lo (p + 1) (⟨d, some (g, w), op⟩ :: r) e H K = wpp F lo p r (putE e d undef) H K :=
  propext ⟨fun h => h.2 (runs_undef e hg), fun h => ⟨fun h' => (by rw [runs_undef e hg] at h'; cases h'), fun _ => h⟩⟩
end
end Go.Proofs.YtbjeldblaclpnaaI
end
section
/- The program's test of steps, in segments. -/
set_option linter.unusedVariables false
set_option linter.unusedSimpArgs false
namespace Go.Proofs.YtbjeldblaclpnaaI
open Go Go.RowKit
attribute [local irreducible] optP wpo wpp wpc binI Kc Kp wpOp thenX eqsV
def Same (e e1 : Env) : Prop := e1 2 = e 2 ∧ e1 3 = e 3 ∧ e1 8 = e 8 ∧ e1 10 = e 10 ∧ e1 11 = e 11 ∧ e1 12 = e 12
theorem Same.trans {e e1 e2 : Env} (h : Same e e1) (h' : Same e1 e2) : Same e e2 :=
  ⟨h'.1.trans h.1, h'.2.1.trans h.2.1, h'.2.2.1.trans h.2.2.1, h'.2.2.2.1.trans h.2.2.2.1, h'.2.2.2.2.1.trans h.2.2.2.2.1, h'.2.2.2.2.2.trans h.2.2.2.2.2⟩
theorem seg1 {F : Nat → Option IFn} {lo : Nat} {H : Heap} {e : Env} {r : List IOper} {K : Env → Heap → Prop} {c : Nat}  {m : Nat} (g1 : VarOk F 85) {v0 v1 : Value} {p : TProg m} {b : Nat} {d a1 : Int} (hp : Rd (Co.prog m) true (vw 0 H) (.agg #[v0, v1]) p) (e2 : e 2 = .int .i64 d) (e3 : e 3 = ptr b 0) (e8 : e 8 = ptr c 0) (gb : getCells H b 0 2 = some [v0, v1]) (gc1 : getCells H c 1 1 = some [.int .i64 a1]) (hK : ∀ e1, Same e e1 → e1 24 = .bool (decide (d < 1) || !varB p.1.length a1) → wpo F lo r e1 H K) : wpo F lo (⟨(some 16), none, .mov (.t 2)⟩ :: ⟨(some 17), none, .bin .lss (.t 16) (.c (.int .i64 1))⟩ :: ⟨(some 18), none, .mov (.t 17)⟩ :: ⟨(some 19), (some (18, false)), .load true 2 (.t 3)⟩ :: ⟨(some 20), (some (18, false)), .fad 1 (.t 8)⟩ :: ⟨(some 21), (some (18, false)), .load false 1 (.t 20)⟩ :: ⟨(some 22), (some (18, false)), .call .q (.f 85) [(.t 19), (.t 21)]⟩ :: ⟨(some 23), (some (18, false)), .un .not (.t 22)⟩ :: ⟨(some 24), none, .pick (.t 18) (.c (.bool true)) (.t 23)⟩ :: r) e H K := by
  repeat' (first
    | refine seq_assoc ?_
    | refine seq_reg ?_
    | refine seq_skip ?_
    | refine seq_regD ?_
    | refine seq_cond (t := true) rfl ?_
    | refine seq_cond (t := false) rfl ?_
    | refine wpc_cond (t := true) rfl ?_
    | refine wpc_cond (t := false) rfl ?_
    | refine seq_block ?_
    | refine wpc_block ?_
    | refine seq_ret ?_
    | refine wpc_ret ?_
    | refine wpc_reg ?_
    | refine wpc_regD ?_
    | refine wpc_skip ?_
    | refine fin_t rfl ?_
    | refine seq_exit ?_
    | refine wpc_exit ?_
    | refine eqs_rule (fun _ => ?_) (fun _ => ?_)
    | refine cmp_lss (fun _ => ?_) (fun _ => ?_)
    | refine cmp_leq (fun _ => ?_) (fun _ => ?_)
    | refine cmp_gtr (fun _ => ?_) (fun _ => ?_)
    | refine cmp_geq (fun _ => ?_) (fun _ => ?_)
    | refine cmp_eql (fun _ => ?_) (fun _ => ?_)
    | refine cmp_neq (fun _ => ?_) (fun _ => ?_)
    | (refine op_callB (by simp only [go_sem, out_n, out_r, out_e, thenX_n, thenX_r, thenX_e, e2, e3, e8, gb, gc1]; exact g1 _ m _ p _ hp) (fun _ => ?_) (fun _ => ?_))
    | simp only [go_sem, out_n, out_r, out_e, thenX_n, thenX_r, thenX_e, e2, e3, e8, gb, gc1]
    )
  all_goals (refine hK _ ?_ ?_ <;> first | exact ⟨by simp only [go_sem, binC], by simp only [go_sem, binC], by simp only [go_sem, binC], by simp only [go_sem, binC], by simp only [go_sem, binC], by simp only [go_sem, binC]⟩ | (simp only [go_sem, binC]; simp [*]; done) | (simp only [go_sem, binC]; simp_all; done))
theorem seg2 {F : Nat → Option IFn} {lo : Nat} {H : Heap} {e : Env} {r : List IOper} {K : Env → Heap → Prop} {c : Nat}  {t : Bool} {a0 a2 a3 a4 : Int} (e24 : e 24 = .bool t) (e8 : e 8 = ptr c 0) (gc0 : getCells H c 0 1 = some [.int .i64 a0]) (gc2 : getCells H c 2 3 = some [.int .i64 a2, .int .i64 a3, .int .i64 a4]) (hK : ∀ e1, Same e e1 → e1 35 = .bool (t || (!decide (a0 = 1) && !decide ((a2, a3, a4) = (0, 0, 0)))) → wpo F lo r e1 H K) : wpo F lo (⟨(some 25), none, .mov (.t 24)⟩ :: ⟨(some 26), (some (25, false)), .fad 0 (.t 8)⟩ :: ⟨(some 27), (some (25, false)), .load false 1 (.t 26)⟩ :: ⟨(some 28), (some (25, false)), .bin .neq (.t 27) (.c (.int .i64 1))⟩ :: ⟨(some 29), (some (25, false)), .mov (.t 28)⟩ :: ⟨(some 30), (some (29, true)), .fad 2 (.t 8)⟩ :: ⟨(some 31), (some (29, true)), .load true 3 (.t 30)⟩ :: ⟨(some 32), (some (29, true)), .build [(.int .i64 0), (.int .i64 0), (.int .i64 0)] []⟩ :: ⟨(some 33), (some (29, true)), .eqs true 3 (.t 31) (.t 32)⟩ :: ⟨(some 34), (some (25, false)), .pick (.t 29) (.t 33) (.c (.bool false))⟩ :: ⟨(some 35), none, .pick (.t 25) (.c (.bool true)) (.t 34)⟩ :: r) e H K := by
  cases t
  all_goals skip
  repeat' (first
    | refine seq_assoc ?_
    | refine seq_reg ?_
    | refine seq_skip ?_
    | refine seq_regD ?_
    | refine seq_cond (t := true) rfl ?_
    | refine seq_cond (t := false) rfl ?_
    | refine wpc_cond (t := true) rfl ?_
    | refine wpc_cond (t := false) rfl ?_
    | refine seq_block ?_
    | refine wpc_block ?_
    | refine seq_ret ?_
    | refine wpc_ret ?_
    | refine wpc_reg ?_
    | refine wpc_regD ?_
    | refine wpc_skip ?_
    | refine fin_t rfl ?_
    | refine seq_exit ?_
    | refine wpc_exit ?_
    | refine eqs_rule (fun _ => ?_) (fun _ => ?_)
    | refine cmp_lss (fun _ => ?_) (fun _ => ?_)
    | refine cmp_leq (fun _ => ?_) (fun _ => ?_)
    | refine cmp_gtr (fun _ => ?_) (fun _ => ?_)
    | refine cmp_geq (fun _ => ?_) (fun _ => ?_)
    | refine cmp_eql (fun _ => ?_) (fun _ => ?_)
    | refine cmp_neq (fun _ => ?_) (fun _ => ?_)
    | simp only [go_sem, out_n, out_r, out_e, thenX_n, thenX_r, thenX_e, e24, e8, gc0, gc2]
    )
  all_goals (refine hK _ ?_ ?_ <;> first | exact ⟨by simp only [go_sem, binC], by simp only [go_sem, binC], by simp only [go_sem, binC], by simp only [go_sem, binC], by simp only [go_sem, binC], by simp only [go_sem, binC]⟩ | (simp only [go_sem, binC]; simp [*]; done) | (simp only [go_sem, binC]; simp_all; done))
theorem seg3 {F : Nat → Option IFn} {lo : Nat} {H : Heap} {e : Env} {r : List IOper} {K : Env → Heap → Prop} {c : Nat}  {t : Bool} {a0 a5 : Int} (e35 : e 35 = .bool t) (e8 : e 8 = ptr c 0) (gc0 : getCells H c 0 1 = some [.int .i64 a0]) (gc5 : getCells H c 5 1 = some [.int .i64 a5]) (hK : ∀ e1, Same e e1 → e1 45 = .bool (t || (!decide (a0 = 3) && !decide (a5 = 0))) → wpo F lo r e1 H K) : wpo F lo (⟨(some 36), none, .mov (.t 35)⟩ :: ⟨(some 37), (some (36, false)), .fad 0 (.t 8)⟩ :: ⟨(some 38), (some (36, false)), .load false 1 (.t 37)⟩ :: ⟨(some 39), (some (36, false)), .bin .neq (.t 38) (.c (.int .i64 3))⟩ :: ⟨(some 40), (some (36, false)), .mov (.t 39)⟩ :: ⟨(some 41), (some (40, true)), .fad 5 (.t 8)⟩ :: ⟨(some 42), (some (40, true)), .load false 1 (.t 41)⟩ :: ⟨(some 43), (some (40, true)), .bin .neq (.t 42) (.c (.int .i64 0))⟩ :: ⟨(some 44), (some (36, false)), .pick (.t 40) (.t 43) (.c (.bool false))⟩ :: ⟨(some 45), none, .pick (.t 36) (.c (.bool true)) (.t 44)⟩ :: r) e H K := by
  cases t
  all_goals skip
  repeat' (first
    | refine seq_assoc ?_
    | refine seq_reg ?_
    | refine seq_skip ?_
    | refine seq_regD ?_
    | refine seq_cond (t := true) rfl ?_
    | refine seq_cond (t := false) rfl ?_
    | refine wpc_cond (t := true) rfl ?_
    | refine wpc_cond (t := false) rfl ?_
    | refine seq_block ?_
    | refine wpc_block ?_
    | refine seq_ret ?_
    | refine wpc_ret ?_
    | refine wpc_reg ?_
    | refine wpc_regD ?_
    | refine wpc_skip ?_
    | refine fin_t rfl ?_
    | refine seq_exit ?_
    | refine wpc_exit ?_
    | refine eqs_rule (fun _ => ?_) (fun _ => ?_)
    | refine cmp_lss (fun _ => ?_) (fun _ => ?_)
    | refine cmp_leq (fun _ => ?_) (fun _ => ?_)
    | refine cmp_gtr (fun _ => ?_) (fun _ => ?_)
    | refine cmp_geq (fun _ => ?_) (fun _ => ?_)
    | refine cmp_eql (fun _ => ?_) (fun _ => ?_)
    | refine cmp_neq (fun _ => ?_) (fun _ => ?_)
    | simp only [go_sem, out_n, out_r, out_e, thenX_n, thenX_r, thenX_e, e35, e8, gc0, gc5]
    )
  all_goals (refine hK _ ?_ ?_ <;> first | exact ⟨by simp only [go_sem, binC], by simp only [go_sem, binC], by simp only [go_sem, binC], by simp only [go_sem, binC], by simp only [go_sem, binC], by simp only [go_sem, binC]⟩ | (simp only [go_sem, binC]; simp [*]; done) | (simp only [go_sem, binC]; simp_all; done))
theorem seg4 {F : Nat → Option IFn} {lo : Nat} {H : Heap} {e : Env} {r : List IOper} {K : Env → Heap → Prop} {c : Nat}  {t : Bool} {a0 : Int} {u6 u7 : Option Addr} {n6 n7 : Nat} (e45 : e 45 = .bool t) (e8 : e 8 = ptr c 0) (gc0 : getCells H c 0 1 = some [.int .i64 a0]) (gc6 : getCells H c 6 1 = some [.slice u6 n6 n6]) (gc7 : getCells H c 7 1 = some [.slice u7 n7 n7]) (ha : IntKind.i64.wrap ((n6 : Int) + (n7 : Int)) = (n6 : Int) + (n7 : Int)) (hK : ∀ e1, Same e e1 → e1 60 = .bool (t || (!decide (a0 = 2) && decide (0 < (n6 : Int) + n7))) → wpo F lo r e1 H K) : wpo F lo (⟨(some 46), none, .mov (.t 45)⟩ :: ⟨(some 47), (some (46, false)), .fad 0 (.t 8)⟩ :: ⟨(some 48), (some (46, false)), .load false 1 (.t 47)⟩ :: ⟨(some 49), (some (46, false)), .bin .neq (.t 48) (.c (.int .i64 2))⟩ :: ⟨(some 50), (some (46, false)), .mov (.t 49)⟩ :: ⟨(some 51), (some (50, true)), .fad 6 (.t 8)⟩ :: ⟨(some 52), (some (50, true)), .load false 1 (.t 51)⟩ :: ⟨(some 53), (some (50, true)), .len (.t 52)⟩ :: ⟨(some 54), (some (50, true)), .fad 7 (.t 8)⟩ :: ⟨(some 55), (some (50, true)), .load false 1 (.t 54)⟩ :: ⟨(some 56), (some (50, true)), .len (.t 55)⟩ :: ⟨(some 57), (some (50, true)), .bin .add (.t 53) (.t 56)⟩ :: ⟨(some 58), (some (50, true)), .bin .gtr (.t 57) (.c (.int .i64 0))⟩ :: ⟨(some 59), (some (46, false)), .pick (.t 50) (.t 58) (.c (.bool false))⟩ :: ⟨(some 60), none, .pick (.t 46) (.c (.bool true)) (.t 59)⟩ :: r) e H K := by
  cases t
  all_goals skip
  repeat' (first
    | refine seq_assoc ?_
    | refine seq_reg ?_
    | refine seq_skip ?_
    | refine seq_regD ?_
    | refine seq_cond (t := true) rfl ?_
    | refine seq_cond (t := false) rfl ?_
    | refine wpc_cond (t := true) rfl ?_
    | refine wpc_cond (t := false) rfl ?_
    | refine seq_block ?_
    | refine wpc_block ?_
    | refine seq_ret ?_
    | refine wpc_ret ?_
    | refine wpc_reg ?_
    | refine wpc_regD ?_
    | refine wpc_skip ?_
    | refine fin_t rfl ?_
    | refine seq_exit ?_
    | refine wpc_exit ?_
    | refine eqs_rule (fun _ => ?_) (fun _ => ?_)
    | refine cmp_lss (fun _ => ?_) (fun _ => ?_)
    | refine cmp_leq (fun _ => ?_) (fun _ => ?_)
    | refine cmp_gtr (fun _ => ?_) (fun _ => ?_)
    | refine cmp_geq (fun _ => ?_) (fun _ => ?_)
    | refine cmp_eql (fun _ => ?_) (fun _ => ?_)
    | refine cmp_neq (fun _ => ?_) (fun _ => ?_)
    | simp only [go_sem, out_n, out_r, out_e, thenX_n, thenX_r, thenX_e, e45, e8, gc0, gc6, gc7, ha]
    )
  all_goals (refine hK _ ?_ ?_ <;> first | exact ⟨by simp only [go_sem, binC], by simp only [go_sem, binC], by simp only [go_sem, binC], by simp only [go_sem, binC], by simp only [go_sem, binC], by simp only [go_sem, binC]⟩ | (simp only [go_sem, binC]; simp [*]; done) | (simp only [go_sem, binC]; simp_all; done))
end Go.Proofs.YtbjeldblaclpnaaI
end
section
/- The program's test of steps: what is done for each kind. -/
set_option linter.unusedVariables false
set_option linter.unusedSimpArgs false
namespace Go.Proofs.YtbjeldblaclpnaaI
open Go Go.RowKit
attribute [local irreducible] optP wpo wpp wpc binI Kc Kp wpOp thenX eqsV
def c_tests : List IOper := [
          ⟨(some 16), none, .mov (.t 2)⟩,
          ⟨(some 17), none, .bin .lss (.t 16) (.c (.int .i64 1))⟩,
          ⟨(some 18), none, .mov (.t 17)⟩,
          ⟨(some 19), (some (18, false)), .load true 2 (.t 3)⟩,
          ⟨(some 20), (some (18, false)), .fad 1 (.t 8)⟩,
          ⟨(some 21), (some (18, false)), .load false 1 (.t 20)⟩,
          ⟨(some 22), (some (18, false)), .call .q (.f 85) [(.t 19), (.t 21)]⟩,
          ⟨(some 23), (some (18, false)), .un .not (.t 22)⟩,
          ⟨(some 24), none, .pick (.t 18) (.c (.bool true)) (.t 23)⟩,
          ⟨(some 25), none, .mov (.t 24)⟩,
          ⟨(some 26), (some (25, false)), .fad 0 (.t 8)⟩,
          ⟨(some 27), (some (25, false)), .load false 1 (.t 26)⟩,
          ⟨(some 28), (some (25, false)), .bin .neq (.t 27) (.c (.int .i64 1))⟩,
          ⟨(some 29), (some (25, false)), .mov (.t 28)⟩,
          ⟨(some 30), (some (29, true)), .fad 2 (.t 8)⟩,
          ⟨(some 31), (some (29, true)), .load true 3 (.t 30)⟩,
          ⟨(some 32), (some (29, true)), .build [(.int .i64 0), (.int .i64 0), (.int .i64 0)] []⟩,
          ⟨(some 33), (some (29, true)), .eqs true 3 (.t 31) (.t 32)⟩,
          ⟨(some 34), (some (25, false)), .pick (.t 29) (.t 33) (.c (.bool false))⟩,
          ⟨(some 35), none, .pick (.t 25) (.c (.bool true)) (.t 34)⟩,
          ⟨(some 36), none, .mov (.t 35)⟩,
          ⟨(some 37), (some (36, false)), .fad 0 (.t 8)⟩,
          ⟨(some 38), (some (36, false)), .load false 1 (.t 37)⟩,
          ⟨(some 39), (some (36, false)), .bin .neq (.t 38) (.c (.int .i64 3))⟩,
          ⟨(some 40), (some (36, false)), .mov (.t 39)⟩,
          ⟨(some 41), (some (40, true)), .fad 5 (.t 8)⟩,
          ⟨(some 42), (some (40, true)), .load false 1 (.t 41)⟩,
          ⟨(some 43), (some (40, true)), .bin .neq (.t 42) (.c (.int .i64 0))⟩,
          ⟨(some 44), (some (36, false)), .pick (.t 40) (.t 43) (.c (.bool false))⟩,
          ⟨(some 45), none, .pick (.t 36) (.c (.bool true)) (.t 44)⟩,
          ⟨(some 46), none, .mov (.t 45)⟩,
          ⟨(some 47), (some (46, false)), .fad 0 (.t 8)⟩,
          ⟨(some 48), (some (46, false)), .load false 1 (.t 47)⟩,
          ⟨(some 49), (some (46, false)), .bin .neq (.t 48) (.c (.int .i64 2))⟩,
          ⟨(some 50), (some (46, false)), .mov (.t 49)⟩,
          ⟨(some 51), (some (50, true)), .fad 6 (.t 8)⟩,
          ⟨(some 52), (some (50, true)), .load false 1 (.t 51)⟩,
          ⟨(some 53), (some (50, true)), .len (.t 52)⟩,
          ⟨(some 54), (some (50, true)), .fad 7 (.t 8)⟩,
          ⟨(some 55), (some (50, true)), .load false 1 (.t 54)⟩,
          ⟨(some 56), (some (50, true)), .len (.t 55)⟩,
          ⟨(some 57), (some (50, true)), .bin .add (.t 53) (.t 56)⟩,
          ⟨(some 58), (some (50, true)), .bin .gtr (.t 57) (.c (.int .i64 0))⟩,
          ⟨(some 59), (some (46, false)), .pick (.t 50) (.t 58) (.c (.bool false))⟩,
          ⟨(some 60), none, .pick (.t 46) (.c (.bool true)) (.t 59)⟩]
def c_rest : ICode := (.seq (.reg none [
         ⟨(some 9), none, .mov (.c (.bool false))⟩])
      (.seq (.seq (.reg none [
          ⟨(some 61), none, .fad 0 (.t 8)⟩,
          ⟨(some 62), none, .load false 1 (.t 61)⟩])
       (.block 2 (.seq (.reg none [
           ⟨(some 64), none, .bin .eql (.t 62) (.c (.int .i64 1))⟩,
           ⟨(some 63), none, .mov (.t 64)⟩])
        (.cond (.t 63) (.reg none [
           ⟨(some 65), none, .load true 2 (.t 3)⟩,
           ⟨(some 66), none, .fad 2 (.t 8)⟩,
           ⟨(some 67), none, .load true 3 (.t 66)⟩,
           ⟨(some 68), none, .call .q (.f 141) [(.t 65), (.t 67)]⟩,
           ⟨(some 9), none, .mov (.t 68)⟩]) (.seq (.reg none [
            ⟨(some 70), none, .bin .eql (.t 62) (.c (.int .i64 2))⟩,
            ⟨(some 69), none, .mov (.t 70)⟩])
         (.cond (.t 69) (.reg none [
            ⟨(some 71), none, .load true 2 (.t 3)⟩,
            ⟨(some 72), none, .fad 6 (.t 8)⟩,
            ⟨(some 73), none, .load false 1 (.t 72)⟩,
            ⟨(some 74), none, .mov (.t 2)⟩,
            ⟨(some 75), none, .bin .sub (.t 74) (.c (.int .i64 1))⟩,
            ⟨(some 76), none, .call .q (.f 111) [(.t 71), (.t 73), (.t 75)]⟩,
            ⟨(some 77), none, .mov (.t 76)⟩,
            ⟨(some 78), (some (77, true)), .load true 2 (.t 3)⟩,
            ⟨(some 79), (some (77, true)), .fad 7 (.t 8)⟩,
            ⟨(some 80), (some (77, true)), .load false 1 (.t 79)⟩,
            ⟨(some 81), (some (77, true)), .mov (.t 2)⟩,
            ⟨(some 82), (some (77, true)), .bin .sub (.t 81) (.c (.int .i64 1))⟩,
            ⟨(some 83), (some (77, true)), .call .q (.f 111) [(.t 78), (.t 80), (.t 82)]⟩,
            ⟨(some 84), none, .pick (.t 77) (.t 83) (.c (.bool false))⟩,
            ⟨(some 9), none, .mov (.t 84)⟩]) (.seq (.reg none [
             ⟨(some 86), none, .bin .eql (.t 62) (.c (.int .i64 3))⟩,
             ⟨(some 85), none, .mov (.t 86)⟩])
          (.cond (.t 85) (.reg none [
             ⟨(some 87), none, .fad 5 (.t 8)⟩,
             ⟨(some 88), none, .load false 1 (.t 87)⟩,
             ⟨(some 89), none, .call .q (.f 82) [(.t 88)]⟩,
             ⟨(some 9), none, .mov (.t 89)⟩]) (.skip)))))))))
      (.seq (.reg none [
         ⟨(some 90), none, .mov (.t 9)⟩,
         ⟨(some 91), none, .un .not (.t 90)⟩])
      (.cond (.t 91) (.seq (.reg none [
          ⟨(some 6), none, .mov (.c (.bool false))⟩])
       (.ret)) (.skip)))))
def c_iStepsB : ICode := (.seq (.reg none [
       ⟨(some 13), none, .bin .lss (.t 12) (.t 11)⟩])
    (.seq (.cond (.t 13) (.skip) (.exit 0))
    (.seq (.block 1 (.seq (.reg none [
         ⟨(some 14), none, .iad 8 (.t 10) (.t 12)⟩,
         ⟨(some 15), none, .load true 8 (.t 14)⟩,
         ⟨(some 8), none, .new [(.int .i64 0), (.int .i64 0), (.int .i64 0), (.int .i64 0), (.int .i64 0), (.int .i64 0), (.slice none 0 0), (.slice none 0 0)]⟩,
         ⟨none, none, .store 8 (.t 8) (.t 15)⟩])
      (.seq (.seq (.reg none c_tests)
       (.cond (.t 60) (.seq (.reg none [
           ⟨(some 6), none, .mov (.c (.bool false))⟩])
        (.ret)) (.skip)))
      c_rest)))
    (.reg none [
      ⟨(some 92), none, .bin .add (.t 12) (.c (.int .i64 1))⟩,
      ⟨(some 12), none, .mov (.t 92)⟩]))))
theorem rest_ok {F : Nat → Option IFn} {lo m n : Nat} {H : Heap} {e : Env} {K : X → Env → Heap → Prop} {b c : Nat} {v0 v1 : Value} {p : TProg m} {d a0 a1 a2 a3 a4 a5 : Int} {a6 a7 : List (TStep n)} {u6 u7 : Option Addr} (g2 : ValOk F 141) (g4 : ∀ (H : Heap) (a : Int), QC F 82 [.int .i64 a] H (.bool (inB a 0 2))) (g3 : StepsOk F 111 n)
    (hp : Rd (Co.prog m) true (vw 0 H) (.agg #[v0, v1]) p) (hv : Rd Co.val true (vw 0 H) (.agg #[.int .i64 a2, .int .i64 a3, .int .i64 a4]) (a2, a3, a4)) (r6 : SlR (Co.step n) (vw 0 H) (.slice u6 a6.length a6.length) a6) (r7 : SlR (Co.step n) (vw 0 H) (.slice u7 a7.length a7.length) a7) (s6 : (Co.sl (Co.step n)).sm a6) (s7 : (Co.sl (Co.step n)).sm a7)
    (hd1 : 1 ≤ d) (hd3 : d ≤ 3) (hd : IntKind.i64.wrap (d - 1) = d - 1)
    (e2 : e 2 = .int .i64 d) (e3 : e 3 = ptr b 0) (e8 : e 8 = ptr c 0) (gb : getCells H b 0 2 = some [v0, v1]) (gc0 : getCells H c 0 1 = some [.int .i64 a0]) (gc2 : getCells H c 2 3 = some [.int .i64 a2, .int .i64 a3, .int .i64 a4]) (gc5 : getCells H c 5 1 = some [.int .i64 a5]) (gc6 : getCells H c 6 1 = some [.slice u6 a6.length a6.length]) (gc7 : getCells H c 7 1 = some [.slice u7 a7.length a7.length])
    (hK1 : ∀ e1, Same e e1 → (if a0 = 1 then valB p.1.length (a2, a3, a4) else if a0 = 2 then a6.all (stepB p.1.length n (d - 1)) && a7.all (stepB p.1.length n (d - 1)) else if a0 = 3 then inB a5 0 2 else false) = true → K .n e1 H)
    (hK2 : ∀ e1, e1 6 = .bool false → (if a0 = 1 then valB p.1.length (a2, a3, a4) else if a0 = 2 then a6.all (stepB p.1.length n (d - 1)) && a7.all (stepB p.1.length n (d - 1)) else if a0 = 3 then inB a5 0 2 else false) = false → K .r e1 H) : wpc F lo c_rest e H K := by
  generalize hA6 : a6.all (stepB p.1.length n (d - 1)) = A6 at hK1 hK2
  generalize hA7 : a7.all (stepB p.1.length n (d - 1)) = A7 at hK1 hK2
  have q6 := g3 H m _ _ p a6 (d - 1) hp r6 s6 (by omega) (by omega)
  have q7 := g3 H m _ _ p a7 (d - 1) hp r7 s7 (by omega) (by omega)
  rw [hA6] at q6
  rw [hA7] at q7
  unfold c_rest
  repeat' (first
    | refine seq_assoc ?_
    | refine seq_reg ?_
    | refine seq_skip ?_
    | refine seq_regD ?_
    | refine seq_cond (t := true) rfl ?_
    | refine seq_cond (t := false) rfl ?_
    | refine wpc_cond (t := true) rfl ?_
    | refine wpc_cond (t := false) rfl ?_
    | refine seq_block ?_
    | refine wpc_block ?_
    | refine seq_ret ?_
    | refine wpc_ret ?_
    | refine wpc_reg ?_
    | refine wpc_regD ?_
    | refine wpc_skip ?_
    | refine fin_t rfl ?_
    | refine seq_exit ?_
    | refine wpc_exit ?_
    | refine cmp_lss (fun _ => ?_) (fun _ => ?_)
    | refine cmp_leq (fun _ => ?_) (fun _ => ?_)
    | refine cmp_gtr (fun _ => ?_) (fun _ => ?_)
    | refine cmp_geq (fun _ => ?_) (fun _ => ?_)
    | refine cmp_eql (fun _ => ?_) (fun _ => ?_)
    | refine cmp_neq (fun _ => ?_) (fun _ => ?_)
    | (refine op_callB (by simp only [go_sem, out_n, out_r, out_e, thenX_n, thenX_r, thenX_e, hd, e2, e3, e8, gb, gc0, gc2, gc5, gc6, gc7, Bool.not_true, Bool.not_false]; exact g2 _ m _ _ p (a2, a3, a4) hp hv) (fun _ => ?_) (fun _ => ?_))
    | (refine op_callB (by simp only [go_sem, out_n, out_r, out_e, thenX_n, thenX_r, thenX_e, hd, e2, e3, e8, gb, gc0, gc2, gc5, gc6, gc7, Bool.not_true, Bool.not_false]; exact g4 _ _) (fun _ => ?_) (fun _ => ?_))
    | (refine op_callB (by simp only [go_sem, out_n, out_r, out_e, thenX_n, thenX_r, thenX_e, hd, e2, e3, e8, gb, gc0, gc2, gc5, gc6, gc7, Bool.not_true, Bool.not_false]; exact q6) (fun _ => ?_) (fun _ => ?_))
    | (refine op_callB (by simp only [go_sem, out_n, out_r, out_e, thenX_n, thenX_r, thenX_e, hd, e2, e3, e8, gb, gc0, gc2, gc5, gc6, gc7, Bool.not_true, Bool.not_false]; exact q7) (fun _ => ?_) (fun _ => ?_))
    | simp only [go_sem, out_n, out_r, out_e, thenX_n, thenX_r, thenX_e, hd, e2, e3, e8, gb, gc0, gc2, gc5, gc6, gc7, Bool.not_true, Bool.not_false]
    )
  all_goals first
    | (refine hK2 _ ?_ ?_ <;> first | (simp only [go_sem, binC]; done) | (simp [*]; done) | (simp_all; done))
    | (refine hK1 _ ?_ ?_ <;> first | exact ⟨by simp only [go_sem, binC], by simp only [go_sem, binC], by simp only [go_sem, binC], by simp only [go_sem, binC], by simp only [go_sem, binC], by simp only [go_sem, binC]⟩ | (simp [*]; done) | (simp_all; done))
end Go.Proofs.YtbjeldblaclpnaaI
end
end
section
/- Texts of this proof, merged: Q5, Q5b, I19, Q4. -/
section
/- The program's test of steps: the loop. -/
set_option linter.unusedVariables false
set_option linter.unusedSimpArgs false
namespace Go.Proofs.YtbjeldblaclpnaaI
open Go Go.RowKit
attribute [local irreducible] optP wpo wpp wpc binI Kc Kp wpOp thenX eqsV
theorem step_bad {k n : Nat} {d a0 a1 a2 a3 a4 a5 : Int} {a6 a7 : List (TStep n)} (h : (decide (d < 1) || !varB k a1 || (!decide (a0 = 1) && !decide ((a2, a3, a4) = (0, 0, 0))) || (!decide (a0 = 3) && !decide (a5 = 0)) || (!decide (a0 = 2) && decide (0 < (a6.length : Int) + a7.length))) = true) : stepB k (n + 1) d (a0, a1, (a2, a3, a4), a5, a6, a7) = false := by
  simp only [stepB]
  generalize (a6.length : Int) + (a7.length : Int) = X at *
  generalize List.all a6 (stepB k n (d - 1)) = A6 at *
  generalize List.all a7 (stepB k n (d - 1)) = A7 at *
  by_cases h1 : d < 1
  · rw [decide_eq_false (show ¬ 1 ≤ d by omega)]; rfl
  cases hv : varB k a1 with
  | false => simp
  | true =>
    by_cases hX : 0 < X
    · have hX0 : ¬ X = 0 := by omega
      by_cases k1 : a0 = 1 <;> by_cases k3 : a0 = 3 <;> by_cases k2 : a0 = 2 <;> simp_all <;> (intros; simp_all) <;> (try omega)
    · by_cases k1 : a0 = 1 <;> by_cases k3 : a0 = 3 <;> by_cases k2 : a0 = 2 <;> simp_all <;> (intros; simp_all) <;> (try omega)
theorem step_bad2 {k n : Nat} {d a0 a1 a2 a3 a4 a5 : Int} {a6 a7 : List (TStep n)} (h : (if a0 = 1 then valB k (a2, a3, a4) else if a0 = 2 then a6.all (stepB k n (d - 1)) && a7.all (stepB k n (d - 1)) else if a0 = 3 then inB a5 0 2 else false) = false) : stepB k (n + 1) d (a0, a1, (a2, a3, a4), a5, a6, a7) = false := by
  simp only [stepB]
  generalize List.all a6 (stepB k n (d - 1)) = A6 at *
  generalize List.all a7 (stepB k n (d - 1)) = A7 at *
  by_cases k1 : a0 = 1 <;> by_cases k3 : a0 = 3 <;> by_cases k2 : a0 = 2 <;> simp_all <;> (intros; simp_all)
theorem step_good {k n : Nat} {d a0 a1 a2 a3 a4 a5 : Int} {a6 a7 : List (TStep n)} (ht : (decide (d < 1) || !varB k a1 || (!decide (a0 = 1) && !decide ((a2, a3, a4) = (0, 0, 0))) || (!decide (a0 = 3) && !decide (a5 = 0)) || (!decide (a0 = 2) && decide (0 < (a6.length : Int) + a7.length))) = false) (h : (if a0 = 1 then valB k (a2, a3, a4) else if a0 = 2 then a6.all (stepB k n (d - 1)) && a7.all (stepB k n (d - 1)) else if a0 = 3 then inB a5 0 2 else false) = true) : stepB k (n + 1) d (a0, a1, (a2, a3, a4), a5, a6, a7) = true := by
  have hX : (0 : Int) ≤ (a6.length : Int) + (a7.length : Int) := by omega
  simp only [stepB]
  generalize (a6.length : Int) + (a7.length : Int) = X at *
  generalize List.all a6 (stepB k n (d - 1)) = A6 at *
  generalize List.all a7 (stepB k n (d - 1)) = A7 at *
  by_cases k1 : a0 = 1 <;> by_cases k3 : a0 = 3 <;> by_cases k2 : a0 = 2 <;> simp_all <;> omega
set_option maxHeartbeats 4000000 in
theorem iSteps_lp {F : Nat → Option IFn} {n m : Nat} (g1 : VarOk F 85) (g2 : ValOk F 141) (g4 : ∀ (H : Heap) (a : Int), QC F 82 [.int .i64 a] H (.bool (inB a 0 2))) (g3 : StepsOk F 111 n) {H : Heap} {v0 v1 : Value} {p0 : List (Int × Int)} {p1 : List (TStep m)} {d : Int}
    (hp : ∀ L, Rd (Co.prog m) true (vw 0 (H ++ L)) (.agg #[v0, v1]) (p0, p1)) {l : List (TStep (n + 1))} {a : Option Addr} (hu : SlR (Co.step (n + 1)) (vw 0 H) (.slice a l.length l.length) l) (hs : (Co.sl (Co.step (n + 1))).sm l) (hd0 : 0 ≤ d) (hd3 : d ≤ 3)
    {K : X → Env → Heap → Prop} (hK1 : ∀ e1 M, l.all (stepB p0.length (n + 1) d) = true → K (.e 0) e1 (H ++ ⟨[v0, v1], 0, 0, false, true⟩ :: M)) (hK2 : ∀ e1 M, e1 6 = .bool false → l.all (stepB p0.length (n + 1) d) = false → K .r e1 (H ++ ⟨[v0, v1], 0, 0, false, true⟩ :: M)) :
    ∀ (k i : Nat) (e : Env) (M : Heap), i + k = l.length → e 2 = .int .i64 d → e 3 = ptr H.length 0 → e 10 = .slice a l.length l.length → e 11 = .int .i64 l.length → e 12 = .int .i64 i → l.all (stepB p0.length (n + 1) d) = (l.drop i).all (stepB p0.length (n + 1) d) →
      W F H.length (.lp c_iStepsB) e (H ++ ⟨[v0, v1], 0, 0, false, true⟩ :: M) K := by
  obtain ⟨h0, a', ha', h2⟩ := hu
  cases ha'
  have hd : IntKind.i64.wrap (d - 1) = d - 1 := wrap_id (by omega) (by omega)
  intro k
  induction k with
  | zero =>
    intro i e M hi e2 e3 e10 e11 e12 hall
    refine lp_step ?_
    refine seq_reg ?_
    simp only [go_sem, binC, e11, e12]
    refine seq_cond (t := false) (by simp only [go_sem, binC]; rw [decide_eq_false (by omega)]) ?_
    simp only [go_sem, binC]
    refine seq_exit ?_
    simp only [go_sem, binC, thenX_e]
    refine hK1 _ _ ?_
    rw [hall, List.drop_of_length_le (by omega)]
    rfl
  | succ k ih =>
    intro i e M hi e2 e3 e10 e11 e12 hall
    have hil : i < l.length := by omega
    rcases h2 with h2 | ⟨b, o, hab, h2⟩
    · rw [h2] at hil; simp at hil
    subst hab
    obtain ⟨cs, h3, h4⟩ := h2 i hil
    have hsm := hs.2 _ (List.getElem_mem hil)
    rw [List.drop_eq_getElem_cons hil, List.all_cons] at hall
    generalize l[i] = x at h4 hsm hall
    obtain ⟨a0, a1, ⟨a2, a3, a4⟩, a5, a6, a7⟩ := x
    obtain ⟨_, _, rfl, ⟨rfl, b0⟩, _, _, rfl, ⟨rfl, b1⟩, _, _, rfl, ⟨_, _, rfl, ⟨rfl, b2⟩, _, _, rfl, ⟨rfl, b3⟩, ⟨rfl, b4⟩⟩, _, _, rfl, ⟨rfl, b5⟩, _, _, rfl, ⟨v6, rfl, r6⟩, ⟨v7, rfl, r7⟩⟩ := h4
    obtain ⟨s0, s1, s2, s3, s6, s7⟩ := hsm
    have r6c := r6
    have r7c := r7
    obtain ⟨u6, x6⟩ := r6.shape
    subst x6
    obtain ⟨u7, x7⟩ := r7.shape
    subst x7
    have ha : IntKind.i64.wrap ((a6.length : Int) + (a7.length : Int)) = (a6.length : Int) + (a7.length : Int) := by
      have h6 : a6.length ≤ 1048576 := s6.1
      have h7 : a7.length ≤ 1048576 := s7.1
      exact wrap_id (by omega) (by omega)
    have g3c := fun L => rng_gc (rng_sub (vw_app 0 H L) h3)
    rw [step_w] at g3c
    simp only [go_sem, binC] at g3c
    have hw1 : IntKind.i64.wrap ((i : Int) + 1) = ((i + 1 : Nat) : Int) := by rw [wrap_id (by omega) (by omega)]; omega
    refine lp_step ?_
    refine seq_reg ?_
    simp only [go_sem, binC, e11, e12]
    refine seq_cond (t := true) (by simp only [go_sem, binC]; rw [decide_eq_true (by omega)]) ?_
    simp only [go_sem, binC]
    refine seq_skip (seq_block (seq_reg ?_))
    simp only [go_sem, binC, e10, e12, g3c]
    refine ⟨⟨by omega, by omega⟩, ?_⟩
    have hE : ∀ L, getCells (H ++ L) H.length 0 2 = inBlk L[0]? 0 2 := fun L => gc_new0 H L 0 2
    refine seq_assoc (seq_reg ?_)
    unfold c_tests
    refine seg1 (c := H.length + (M.length + 1)) (b := H.length) (m := m) (d := d) (a1 := a1) g1 (hp _) (by simp only [go_sem, binC, e2]) (by simp only [go_sem, binC, e3]) (by simp only [go_sem, binC]) (by simp only [go_sem, binC]) (by simp only [go_sem, binC]) (fun x1 m1 t1 => ?_)
    refine seg2 (c := H.length + (M.length + 1)) (a0 := a0) (a2 := a2) (a3 := a3) (a4 := a4) t1 (by rw [m1.2.2.1]; simp only [go_sem, binC]) (by simp only [go_sem, binC]) (by simp only [go_sem, binC]) (fun x2 m2 t2 => ?_)
    refine seg3 (c := H.length + (M.length + 1)) (a0 := a0) (a5 := a5) t2 (by rw [m2.2.2.1, m1.2.2.1]; simp only [go_sem, binC]) (by simp only [go_sem, binC]) (by simp only [go_sem, binC]) (fun x3 m3 t3 => ?_)
    refine seg4 (c := H.length + (M.length + 1)) (a0 := a0) (n6 := a6.length) (n7 := a7.length) (u6 := u6) (u7 := u7) t3 (by rw [m3.2.2.1, m2.2.2.1, m1.2.2.1]; simp only [go_sem, binC]) (by simp only [go_sem, binC]) (by simp only [go_sem, binC]) (by simp only [go_sem, binC]) ha (fun x4 m4 t4 => ?_)
    have mm := (m1.trans m2).trans (m3.trans m4)
    obtain ⟨y2, y3, y8, y10, y11, y12⟩ := mm
    simp only [go_sem, binC] at y2 y3 y8 y10 y11 y12
    rw [e2] at y2
    rw [e3] at y3
    rw [e10] at y10
    rw [e11] at y11
    rw [e12] at y12
    simp only [go_sem, binC]
    obtain ⟨T, hT, t5⟩ : ∃ T, T = _ ∧ x4 60 = .bool T := ⟨_, rfl, t4⟩
    cases T with
    | true =>
      refine seq_cond (t := true) (by simp only [go_sem, binC, t5]) ?_
      simp only [go_sem, binC]
      refine seq_assoc (seq_reg ?_)
      simp only [go_sem, binC]
      refine seq_ret ?_
      simp only [go_sem, binC, out_r, thenX_r]
      refine hK2 _ _ (by simp only [go_sem, binC]) ?_
      rw [hall, step_bad hT.symm, Bool.false_and]
    | false =>
      refine seq_cond (t := false) (by simp only [go_sem, binC, t5]) ?_
      simp only [go_sem, binC]
      refine seq_skip ?_
      have hd1 : 1 ≤ d := by
        by_cases h1 : d < 1
        · rw [decide_eq_true h1] at hT; simp at hT
        · omega
      refine rest_ok (m := m) (p := (p0, p1)) (b := H.length) (c := H.length + (M.length + 1)) (d := d) (a0 := a0) (a1 := a1) (a2 := a2) (a3 := a3) (a4 := a4) (a5 := a5) (a6 := a6) (a7 := a7) g2 g4 g3 (hp _) ⟨_, rfl, _, _, rfl, ⟨rfl, b2⟩, _, _, rfl, ⟨rfl, b3⟩, ⟨rfl, b4⟩⟩ (r6c.mono (vw_app 0 H _)) (r7c.mono (vw_app 0 H _)) s6 s7 hd1 hd3 hd y2 y3 y8 (by simp only [go_sem, binC]) (by simp only [go_sem, binC]) (by simp only [go_sem, binC]) (by simp only [go_sem, binC]) (by simp only [go_sem, binC]) (by simp only [go_sem, binC]) ?_ ?_
      · intro e5 m5 hg
        obtain ⟨z2, z3, z8, z10, z11, z12⟩ := m5
        simp only [go_sem, binC, out_n, thenX_n]
        refine wpc_reg ?_
        simp only [go_sem, binC, z12, y12, hw1, thenX_n]
        refine ih (i + 1) _ _ (by omega) ?_ ?_ ?_ ?_ ?_ ?_
        · simp only [go_sem, binC, z2, y2]
        · simp only [go_sem, binC, z3, y3]
        · simp only [go_sem, binC, z10, y10]
        · simp only [go_sem, binC, z11, y11]
        · simp only [go_sem, binC]
        · rw [hall, step_good hT.symm hg, Bool.true_and]
      · intro e5 h6 hg
        simp only [go_sem, binC, out_r, thenX_r]
        refine hK2 _ _ h6 ?_
        rw [hall, step_bad2 hg, Bool.false_and]
end Go.Proofs.YtbjeldblaclpnaaI
end
section
/- The program's test of steps, for steps of any depth. -/
set_option linter.unusedVariables false
set_option linter.unusedSimpArgs false
namespace Go.Proofs.YtbjeldblaclpnaaI
open Go Go.RowKit
theorem iSteps_succ {F : Nat → Option IFn} {f n : Nat} (hf : F f = some c_iSteps) (g1 : VarOk F 85) (g2 : ValOk F 141) (g4 : ∀ (H : Heap) (a : Int), QC F 82 [.int .i64 a] H (.bool (inB a 0 2))) (g3 : StepsOk F 111 n) : StepsOk F f (n + 1) := by
  rintro H m v u ⟨p0, p1⟩ l d hp0 hu hs hd0 hd3
  obtain ⟨pc, hpc, _, _, rfl, ⟨v0, rfl, r0⟩, ⟨v1, rfl, r1⟩⟩ := hp0
  have hp : ∀ L, Rd (Co.prog m) true (vw 0 (H ++ L)) (.agg #[v0, v1]) (p0, p1) := fun L => ⟨_, rfl, _, _, rfl, ⟨_, rfl, r0.mono (vw_app 0 H L)⟩, ⟨_, rfl, r1.mono (vw_app 0 H L)⟩⟩
  simp only [go_sem, binC, Option.some.injEq] at hpc
  subst hpc
  have r0c := r0
  have r1c := r1
  obtain ⟨_, x0⟩ := r0.shape
  subst x0
  obtain ⟨_, x1⟩ := r1.shape
  subst x1
  obtain ⟨a, xa⟩ := hu.shape
  subst xa
  refine QC.mk hf rfl ?_
  refine seq_reg ?_
  simp only [go_sem, binC]
  refine seq_assoc (seq_reg ?_)
  simp only [go_sem, binC]
  refine seq_block (wpc_loop ?_)
  refine iSteps_lp g1 g2 g4 g3 hp hu hs hd0 hd3 ?_ ?_ l.length 0 _ [] (by omega) (by simp only [go_sem, binC]) (by simp only [go_sem, binC]) (by simp only [go_sem, binC]) (by simp only [go_sem, binC]) (by simp only [go_sem, binC]; rfl) rfl
  · intro e1 M hall
    simp only [go_sem, binC, out_e, thenX_n]
    refine seq_reg ?_
    simp only [go_sem, binC]
    exact wpc_ret ⟨Or.inr rfl, .bool true, by simp only [go_sem, binC], by rw [hall], rfl⟩
  · intro e1 M h6 hall
    simp only [go_sem, binC, out_r, thenX_r]
    exact ⟨Or.inr rfl, .bool false, by simp only [go_sem, binC, h6], by rw [hall], rfl⟩
theorem iSteps_z {F : Nat → Option IFn} {f : Nat} (hf : F f = some c_iSteps) : StepsOk F f 0 := by
  rintro H m v u ⟨p0, p1⟩ l d hp0 hu hs hd0 hd3
  obtain ⟨pc, hpc, _, _, rfl, ⟨v0, rfl, r0⟩, ⟨v1, rfl, r1⟩⟩ := hp0
  have hp : ∀ L, Rd (Co.prog m) true (vw 0 (H ++ L)) (.agg #[v0, v1]) (p0, p1) := fun L => ⟨_, rfl, _, _, rfl, ⟨_, rfl, r0.mono (vw_app 0 H L)⟩, ⟨_, rfl, r1.mono (vw_app 0 H L)⟩⟩
  simp only [go_sem, binC, Option.some.injEq] at hpc
  subst hpc
  have r0c := r0
  have r1c := r1
  obtain ⟨_, x0⟩ := r0.shape
  subst x0
  obtain ⟨_, x1⟩ := r1.shape
  subst x1
  obtain ⟨a, xa⟩ := hu.shape
  subst xa
  have hl : l = [] := by
    cases l with
    | nil => rfl
    | cons x r => exact x.elim
  subst hl
  refine QC.mk hf rfl ?_
  refine seq_reg ?_
  simp only [go_sem, binC]
  refine seq_assoc (seq_reg ?_)
  simp only [go_sem, binC]
  refine seq_block (wpc_loop (lp_step ?_))
  refine seq_reg ?_
  simp only [go_sem, binC]
  refine seq_cond (t := false) (by simp only [go_sem, binC]; rw [decide_eq_false (by simp)]) ?_
  simp only [go_sem, binC]
  refine seq_exit ?_
  simp only [go_sem, binC, thenX_e, out_e, thenX_n]
  refine seq_reg ?_
  simp only [go_sem, binC]
  exact wpc_ret ⟨Or.inr rfl, .bool true, by simp only [go_sem, binC], rfl, rfl⟩
theorem iSteps_all {F : Nat → Option IFn} (hf : F 111 = some c_iSteps) (g1 : VarOk F 85) (g2 : ValOk F 141) (g4 : ∀ (H : Heap) (a : Int), QC F 82 [.int .i64 a] H (.bool (inB a 0 2))) : ∀ n, StepsOk F 111 n := by
  intro n
  induction n with
  | zero => exact iSteps_z hf
  | succ n ih => exact iSteps_succ hf g1 g2 g4 ih
end Go.Proofs.YtbjeldblaclpnaaI
end
section
/- Slices of what is opened with one fuel less. -/
set_option linter.unusedVariables false
set_option linter.unusedSimpArgs false
namespace Go.Proofs.YtbjeldblaclpnaaI
open Go Go.RowKit Go.ChangeShapes
section
variable {T : Type} {enc : TypeId × Value → T} {P : Program} {w : World} {spare : Nat → Bool} {held : Bool}
theorem Good.slF {α : Type} {A : Co α} {fuel : Nat} {t e : TypeId} {cs : List Value} {x : DataW T × List MemPlace} (ht : P.underlying t = some (.slice e)) (hw : P.cellsOf e = A.w) (h0 : 0 < A.w)
    (h : DataW.trod enc P w 0 spare held fuel t cs = some x) (he : ∀ n cs x, fuel = n + 1 → DataW.trod enc P w 0 spare held n e cs = some x → Good A w cs) : Good (Co.sl A) w cs := by
  rcases DataW.trod_slice ht h with ⟨rfl, _⟩ | ⟨a, len, cap, elems, rest, n, rfl, rfl, _, _, hl, hm, hlen, hel, _, _⟩
  · exact fun H m s => ⟨[], [], m, [.slice none 0 0], by simpa using s, sub_refl m, ⟨_, rfl, by simp, none, rfl, .inl rfl⟩, All2.cons (.inl ⟨rfl, rfl⟩) All2.nil⟩
  intro H m s
  rcases Nat.eq_zero_or_pos len with hz | hpos
  · subst hz
    exact ⟨[], [], m, [.slice (some ⟨0, 1, none⟩) 0 0], by simpa using s, sub_refl m, ⟨_, rfl, by simp, _, rfl, .inl rfl⟩, All2.cons (.inl (.inr ⟨rfl, by simp, _, _, rfl⟩)) All2.nil⟩
  have key : ∀ k, k ≤ len → ∃ (l : List α) (L : Heap) (m' : MM) (big : List Value), l.length = k ∧ big.length = k * A.w ∧ SL m' (H ++ L) w.heap ∧ m.sub m' ∧
      (∀ i (h : i < l.length), A.rd (vw 0 (H ++ L)) ((big.drop (i * A.w)).take A.w) l[i]) ∧ (∀ j v, big[j]? = some v → ∃ v', w.cell? (a.add j) = some v' ∧ VR1 m' v v') := by
    intro k
    induction k with
    | zero => exact fun _ => ⟨[], [], m, [], rfl, by simp, by simpa using s, sub_refl m, fun i h => by simp at h, fun j v h => by simp at h⟩
    | succ k ih =>
      intro hk
      obtain ⟨l, L, m1, big, h1, h2, h3, h4, h5, h6⟩ := ih (by omega)
      have hk' := hel k (by omega)
      have hke : k < elems.length := by omega
      rw [List.getElem?_eq_getElem hke, Option.bind_eq_some_iff, hw] at hk'
      obtain ⟨ck, hc, hd⟩ := hk'
      obtain ⟨b, L2, m2, c2, s2, q2, r2, e2⟩ := he n ck _ rfl hd (H ++ L) m1 h3
      have hcl := A.len r2
      rw [List.append_assoc] at s2 r2
      refine ⟨l ++ [b], L ++ L2, m2, big ++ c2, by simp [h1], by rw [List.length_append, h2, hcl, Nat.succ_mul], s2, sub_trans h4 q2, ?_, ?_⟩
      · intro i hi
        simp only [List.length_append, List.length_cons, List.length_nil, Nat.zero_add] at hi
        by_cases hik : i < l.length
        · have hb : i * A.w + A.w ≤ big.length := by rw [h2, ← Nat.succ_mul]; exact Nat.mul_le_mul_right _ (by omega)
          rw [List.getElem_append_left hik, List.drop_append_of_le_length (by omega), List.take_append_of_le_length (by rw [List.length_drop]; omega)]
          exact A.mono (by rw [← List.append_assoc]; exact vw_app 0 _ _) (h5 i hik)
        · have hik' : i = k := by omega
          subst hik'
          rw [List.getElem_append_right (by omega)]
          have : big.length = i * A.w := h2
          rw [← this, List.drop_left, List.take_of_length_le (by omega)]
          simpa [h1] using r2
      · intro j v hj
        rcases Nat.lt_or_ge j big.length with hjl | hjl
        · rw [List.getElem?_append_left hjl] at hj
          obtain ⟨v', g1, g2⟩ := h6 j v hj
          exact ⟨v', g1, VR1.mono q2 g2⟩
        · rw [List.getElem?_append_right hjl] at hj
          have hj2 : j - big.length < c2.length := (List.getElem?_eq_some_iff.1 hj).1
          obtain ⟨_, _, hcell⟩ := World.cells?_some hc
          have hj3 := hcell (j - big.length) (by omega)
          rw [add_add, ← h2, show big.length + (j - big.length) = j by omega] at hj3
          have hl2 : c2.length = ck.length := e2.1
          have hj4 : j - big.length < ck.length := by omega
          obtain ⟨y, hy, hr⟩ := e2.2 (j - big.length) v hj
          exact ⟨y, hj3.trans hy, hr⟩
  obtain ⟨l, L, m1, big, h1, h2, h3, h4, h5, h6⟩ := key len (Nat.le_refl _)
  have hbig : 0 < big.length := by rw [h2]; exact Nat.mul_pos hpos h0
  obtain ⟨v0, hv0, _⟩ := h6 0 _ (List.getElem?_eq_getElem hbig)
  obtain ⟨cs0, t0, fr0, g1, _, g3⟩ := cell_at hv0
  have hsp := g3 rfl
  have hblt : a.block < w.heap.size := (Array.getElem?_eq_some_iff.1 g1).1
  have hsub : m1.sub (m1.put (H ++ L).length ⟨a.block, a.off, 0, 0, 0⟩) := by
    intro b x hb
    have := h3.dom b x hb
    simp only [MM.put]
    rw [if_neg (by omega)]
    exact hb
  refine ⟨l, L ++ [⟨big, 0, 0, false, false⟩], m1.put (H ++ L).length ⟨a.block, a.off, 0, 0, 0⟩, [.slice (some ⟨(H ++ L).length, 0, none⟩) l.length l.length], ?_, sub_trans h4 hsub, ?_, ?_⟩
  · rw [← List.append_assoc]
    refine ⟨?_, ?_, ?_, ?_⟩
    · intro b x hb
      rcases MM.put_eq hb with ⟨rfl, _⟩ | ⟨_, hb⟩
      · simp
      · have := h3.dom b x hb
        rw [List.length_append]; omega
    · intro b x k hb hk
      rcases MM.put_eq hb with ⟨rfl, rfl⟩ | ⟨_, hb⟩
      · rw [List.getElem?_append_right (Nat.le_refl _)] at hk
        simp only [Nat.sub_self, List.getElem?_cons_zero, Option.some.injEq] at hk
        subst hk
        refine ⟨cs0, t0, fr0, g1, fun j v hj => ?_⟩
        obtain ⟨v', u1, u2⟩ := h6 j v hj
        obtain ⟨cs1, t1, fr1, y1, y2, _⟩ := cell_at u1
        rw [g1] at y1
        cases y1
        exact ⟨v', y2, VR1.mono hsub u2⟩
      · rw [List.getElem?_append_left (h3.dom b x hb)] at hk
        obtain ⟨c1, t1, f1, y1, y2⟩ := h3.cell b x k hb hk
        exact ⟨c1, t1, f1, y1, fun j v hj => let ⟨v', z1, z2⟩ := y2 j v hj; ⟨v', z1, VR1.mono hsub z2⟩⟩
    · intro b x hb
      rcases MM.put_eq hb with ⟨rfl, rfl⟩ | ⟨_, hb⟩
      · exact hblt
      · exact h3.lt b x hb
    · intro b k hk
      rcases get_snoc hk with ⟨_, hk⟩ | ⟨_, rfl⟩
      · exact h3.na b k hk
      · rfl
  · refine ⟨_, rfl, ?_, _, rfl, .inr ⟨_, _, rfl, fun i hi => ⟨_, ?_, A.mono (by rw [← List.append_assoc]; exact vw_app 0 _ _) (h5 i hi)⟩⟩⟩
    · have : maxLen = 9223372036854775807 := by decide
      omega
    · have hb : i * A.w + A.w ≤ big.length := by rw [h2, ← Nat.succ_mul]; exact Nat.mul_le_mul_right _ (by omega)
      unfold rng vw
      rw [if_pos (Nat.zero_le _), ← List.append_assoc, get_new0]
      simp only [List.getElem?_cons_zero, Option.map_some, Nat.zero_add]
      rw [if_pos hb]
  · refine All2.cons (.inl (.inl ⟨_, MM.put_self _ _ _, rfl, cap, ?_, by omega, fun _ => by simp⟩)) All2.nil
    obtain ⟨ab, ao, asp⟩ := a
    simp only at hsp
    subst hsp
    rw [h1]
    rfl
end
def dF : Nat → Nat
  | 0 => 0
  | 1 => 0
  | n + 2 => dF n + 1
end Go.Proofs.YtbjeldblaclpnaaI
end
section
/- Lists of steps in form: the loops. -/
set_option linter.unusedVariables false
set_option linter.unusedSimpArgs false
namespace Go.Proofs.YtbjeldblaclpnaaI
open Go Go.RowKit
theorem sSteps_ok {F : Nat → Option IFn} {f n : Nat} (hf : F f = some c_sSteps) (g0 : StepOk F 139 n) : StepsOk F f n := by
  rintro H m v u ⟨p0, p1⟩ l d hp0 hu hs hd0 hd3
  obtain ⟨pc, hpc, _, _, rfl, ⟨v0, rfl, r0⟩, ⟨v1, rfl, r1⟩⟩ := hp0
  have hp : ∀ L, Rd (Co.prog m) true (vw 0 (H ++ L)) (.agg #[v0, v1]) (p0, p1) := fun L => ⟨_, rfl, _, _, rfl, ⟨_, rfl, r0.mono (vw_app 0 H L)⟩, ⟨_, rfl, r1.mono (vw_app 0 H L)⟩⟩
  simp only [go_sem, binC, Option.some.injEq] at hpc
  subst hpc
  obtain ⟨_, x0⟩ := r0.shape
  subst x0
  obtain ⟨_, x1⟩ := r1.shape
  subst x1
  have hu' := hu
  obtain ⟨h0, a, rfl, h2⟩ := hu
  refine QC.mk hf rfl ?_
  refine seq_reg ?_
  simp only [go_sem, binC]
  refine seq_assoc (seq_reg ?_)
  simp only [go_sem, binC]
  refine seq_block (wpc_loop ?_)
  suffices h : ∀ (k i : Nat) (e : Env), i + k = l.length → e 1 = .slice a l.length l.length → e 2 = .int .i64 d → e 3 = ptr H.length 0 → e 7 = .int .i64 i → l.all (stepB p0.length n d) = (l.drop i).all (stepB p0.length n d) → W F H.length _ e _ _ from
    h l.length 0 _ (by omega) (by simp only [go_sem, binC]) (by simp only [go_sem, binC]) (by simp only [go_sem, binC]) (by simp only [go_sem, binC]; rfl) rfl
  intro k
  induction k with
  | zero =>
    intro i e hi e1 e2 e3 e7 hall
    refine lp_step ?_
    refine seq_assoc (seq_reg ?_)
    simp only [go_sem, binC, e1, e7]
    refine seq_cond (t := false) (by simp only [go_sem, binC]; rw [decide_eq_false (by omega)]) ?_
    simp only [go_sem, binC]
    refine seq_exit ?_
    simp only [go_sem, binC, thenX_e, out_e, thenX_n]
    refine seq_reg ?_
    simp only [go_sem, binC]
    refine wpc_ret ⟨Or.inr rfl, .bool true, by simp only [go_sem, binC], ?_, rfl⟩
    rw [hall, List.drop_of_length_le (by omega)]
    rfl
  | succ k ih =>
    intro i e hi e1 e2 e3 e7 hall
    have hil : i < l.length := by omega
    rcases h2 with h2 | ⟨b, o, rfl, h2⟩
    · rw [h2] at hil; simp at hil
    obtain ⟨cs, h3, h4⟩ := h2 i hil
    have g3 := fun L => rng_gc (rng_sub (vw_app 0 H L) h3)
    rw [step_w] at g3
    refine lp_step ?_
    refine seq_assoc (seq_reg ?_)
    simp only [go_sem, binC, e1, e7]
    refine seq_cond (t := true) (by simp only [go_sem, binC]; rw [decide_eq_true (by omega)]) ?_
    simp only [go_sem, binC]
    refine seq_skip (seq_block (seq_regD ?_))
    simp only [go_sem, binC, e1, e2, e3, e7, g3]
    refine ⟨⟨by omega, by omega⟩, ?_⟩
    refine op_callB (by simp only [go_sem, binC, e2]; exact g0 _ m _ _ (p0, p1) l[i] d (hp _) ⟨cs, rfl, (Co.step n).mono (vw_app 0 H _) h4⟩ (hs.2 _ (List.getElem_mem _)) hd0 hd3) (fun hb => ?_) (fun hb => ?_)
    · simp only [go_sem, binC]
      refine wpc_cond (t := false) (by simp only [go_sem, binC]) ?_
      simp only [go_sem, binC]
      refine wpc_skip ?_
      simp only [go_sem, binC, out_n, thenX_n]
      refine wpc_reg ?_
      simp only [go_sem, binC, e7]
      have hw1 : IntKind.i64.wrap ((i : Int) + 1) = ((i + 1 : Nat) : Int) := by rw [wrap_id (by omega) (by omega)]; omega
      rw [hw1]
      refine ih (i + 1) _ (by omega) (by simp only [go_sem, binC, e1]) (by simp only [go_sem, binC, e2]) (by simp only [go_sem, binC, e3]) (by simp only [go_sem, binC]) ?_
      rw [hall, List.drop_eq_getElem_cons hil, List.all_cons, hb, Bool.true_and]
    · simp only [go_sem, binC]
      refine wpc_cond (t := true) (by simp only [go_sem, binC]) ?_
      simp only [go_sem, binC]
      refine seq_reg ?_
      simp only [go_sem, binC]
      refine wpc_ret ?_
      simp only [go_sem, binC, out_r, thenX_r]
      refine ⟨Or.inr rfl, .bool false, by simp only [go_sem, binC], ?_, rfl⟩
      rw [hall, List.drop_eq_getElem_cons hil, List.all_cons, hb, Bool.false_and]
theorem sSteps_all {F : Nat → Option IFn} (hf : F 139 = some c_sStep) (hfs : F 106 = some c_sSteps) (g0 : InOk F 79) (g1 : VarOk F 147) (g2 : ValOk F 148) : ∀ n, StepsOk F 106 n ∧ StepOk F 139 n := by
  intro n
  induction n with
  | zero =>
    have z : StepOk F 139 0 := by
      rintro H m v u p a d _ ⟨_, _, h⟩
      exact h.elim
    exact ⟨sSteps_ok hfs z, z⟩
  | succ n ih =>
    have z := sStep_ok hf g0 g1 g2 ih.1
    exact ⟨sSteps_ok hfs z, z⟩
end Go.Proofs.YtbjeldblaclpnaaI
end
end
section
/- What a seat with drawn programs rests on. -/
end
section
/- Sizes of programs with totals, copies of programs in blocks of one's own, marks on programs. -/
set_option linter.unusedVariables false
set_option linter.unusedSimpArgs false
namespace Go.Proofs.YtbjeldblaclpnaaI
open Go Go.RowKit
/-- A size: what is left, and how much was told at most. -/
def SzT (F : Nat → Option IFn) {α : Type} (A : Co α) (agg : Bool) (f : Nat) (t : α → Nat) : Prop :=
  ∀ (H : Heap) (v : Value) (a : α) (left : Int), Rd A agg (vw 0 H) v a → 0 ≤ left → left ≤ 1048576 → ∃ r : Int, QC F f [v, .int .i64 left] H (.int .i64 r) ∧ r ≤ left ∧ (0 ≤ r → A.sm a ∧ ((t a : Nat) : Int) ≤ left - r)
def tT : (n : Nat) → TStep n → Nat
  | 0, s => s.elim
  | n + 1, (_, _, _, _, th, el) => (th.length + (th.map (tT n)).sum) + (el.length + (el.map (tT n)).sum)
def tS (n : Nat) (l : List (TStep n)) : Nat := l.length + (l.map (tT n)).sum
def tP (n : Nat) (p : TProg n) : Nat := p.1.length + tS n p.2
theorem szFlatT_ok {F : Nat → Option IFn} {α : Type} {A : Co α} {f : Nat} (hf : F f = some szFlat) (hs : ∀ a, A.sm a) : SzT F (Co.sl A) false f List.length := by
  rintro H v l left ⟨cs, hc, w, rfl, h0, a, rfl, h2⟩ hl0 hl1
  simp only [go_sem, binC, Option.some.injEq] at hc
  subst hc
  have hw : IntKind.i64.wrap (left - l.length) = left - l.length := wrap_id (by omega) (by omega)
  by_cases hn : left - l.length < 0
  · refine ⟨-1, QC.mk hf rfl ?_, by omega, by omega⟩
    refine seq_reg ?_
    simp only [go_sem, binC]
    refine seq_reg ?_
    simp only [go_sem, binC]
    rw [hw]
    refine seq_assoc (seq_reg ?_)
    simp only [go_sem, binC]
    refine seq_cond (t := true) (by simp only [go_sem, binC]; rw [decide_eq_true hn]) ?_
    simp only [go_sem, binC]
    refine seq_assoc (seq_reg ?_)
    simp only [go_sem, binC]
    refine seq_ret ⟨Or.inr rfl, _, ?_, rfl, rfl⟩
    simp only [go_sem, binC]
  · refine ⟨left - l.length, QC.mk hf rfl ?_, by omega, fun _ => ⟨⟨by omega, fun a _ => hs a⟩, by omega⟩⟩
    refine seq_reg ?_
    simp only [go_sem, binC]
    refine seq_reg ?_
    simp only [go_sem, binC]
    rw [hw]
    refine seq_assoc (seq_reg ?_)
    simp only [go_sem, binC]
    refine seq_cond (t := false) (by simp only [go_sem, binC]; rw [decide_eq_false hn]) ?_
    simp only [go_sem, binC]
    refine seq_skip (seq_reg ?_)
    simp only [go_sem, binC]
    refine wpc_ret ⟨Or.inr rfl, _, ?_, rfl, rfl⟩
    simp only [go_sem, binC]
theorem szNestT_lp {F : Nat → Option IFn} {α : Type} {A : Co α} {g w : Nat} {agg : Bool} {t : α → Nat} (hg : SzT F A agg g t) (hw : A.w = w) (hva : ∀ V cs a, A.rd V cs a → ∃ v, valOf agg cs = some v) {H : Heap} {v : Value} {l : List α} (hv : SlR A (vw 0 H) v l) (hL : l.length ≤ 1048576) :
    ∀ (k i : Nat) (e : Env) (left : Int), i + k = l.length → e 0 = v → e 1 = .int .i64 left → e 5 = .int .i64 i → 0 ≤ left → left ≤ 1048576 →
      W F H.length (.lp (szNestB g w agg)) e H fun x e1 H1 => H1 = H ∧ ((x = .e 0 ∧ ∃ r : Int, e1 1 = .int .i64 r ∧ 0 ≤ r ∧ r ≤ left ∧ (∀ j (h : j < l.length), i ≤ j → A.sm l[j]) ∧ ((((l.drop i).map t).sum : Nat) : Int) ≤ left - r) ∨ (x = .r ∧ e1 4 = .int .i64 (-1))) := by
  obtain ⟨h0, a, rfl, h2⟩ := hv
  intro k
  induction k with
  | zero =>
    intro i e left hi e0 e1 e5 hl0 hl1
    refine lp_step ?_
    refine seq_assoc (seq_reg ?_)
    simp only [go_sem, binC, e0, e1, e5]
    refine seq_cond (t := false) (by simp only [go_sem, binC]; rw [decide_eq_false (by omega)]) ?_
    simp only [go_sem, binC]
    refine seq_exit ⟨rfl, Or.inl ⟨rfl, left, ?_, hl0, by omega, fun j h hj => by omega, by rw [List.drop_of_length_le (by omega)]; simp⟩⟩
    simp only [go_sem, binC, e1]
  | succ k ih =>
    intro i e left hi e0 e1 e5 hl0 hl1
    have hil : i < l.length := by omega
    rcases h2 with h2 | ⟨b, o, rfl, h2⟩
    · rw [h2] at hil; simp at hil
    obtain ⟨cs, h3, h4⟩ := h2 i hil
    obtain ⟨u, hu⟩ := hva _ _ _ h4
    obtain ⟨r, hq, hr1, hr2⟩ := hg H u l[i] left ⟨cs, hu, h4⟩ hl0 hl1
    have h3' := rng_gc h3
    rw [hw] at h3'
    refine lp_step ?_
    refine seq_assoc (seq_reg ?_)
    simp only [go_sem, binC, e0, e1, e5]
    refine seq_cond (t := true) (by simp only [go_sem, binC]; rw [decide_eq_true (by omega)]) ?_
    simp only [go_sem, binC]
    refine seq_skip (seq_block (seq_reg ?_))
    simp only [go_sem, binC, e0, e1, e5, h3', hu]
    refine ⟨by omega, op_callQ (v := .int .i64 r) (by simp only [go_sem, binC, e1]; exact hq) ?_⟩
    simp only [go_sem, binC]
    refine seq_reg ?_
    simp only [go_sem, binC]
    by_cases hn : r < 0
    · refine wpc_cond (t := true) (by simp only [go_sem, binC]; rw [decide_eq_true hn]) ?_
      simp only [go_sem, binC]
      refine seq_reg ?_
      simp only [go_sem, binC]
      refine wpc_ret ⟨rfl, Or.inr ⟨rfl, ?_⟩⟩
      simp only [go_sem, binC]
    · refine wpc_cond (t := false) (by simp only [go_sem, binC]; rw [decide_eq_false hn]) ?_
      simp only [go_sem, binC]
      refine wpc_skip (wpc_reg ?_)
      simp only [go_sem, binC, e5]
      have hw1 : IntKind.i64.wrap ((i : Int) + 1) = ((i + 1 : Nat) : Int) := by rw [wrap_id (by omega) (by omega)]; omega
      rw [hw1]
      refine W_mono (ih (i + 1) _ r (by omega) (by simp only [go_sem, binC, e0]) (by simp only [go_sem, binC]) (by simp only [go_sem, binC]) (by omega) (by omega)) fun x e' H' h5 => ?_
      refine ⟨h5.1, h5.2.imp (fun ⟨hx, r', q1, q2, q3, q4, q5⟩ => ⟨hx, r', q1, q2, by omega, fun j h hj => ?_, ?_⟩) id⟩
      · by_cases hij : j = i
        · subst hij; exact (hr2 (by omega)).1
        · exact q4 j h (by omega)
      · rw [List.drop_eq_getElem_cons hil, List.map_cons, List.sum_cons]
        have := (hr2 (by omega)).2
        omega

theorem szNestT_ok {F : Nat → Option IFn} {α : Type} {A : Co α} {f g w : Nat} {agg : Bool} {t : α → Nat} (hf : F f = some (szNest g w agg)) (hg : SzT F A agg g t) (hw : A.w = w) (hva : ∀ V cs a, A.rd V cs a → ∃ v, valOf agg cs = some v) : SzT F (Co.sl A) false f (fun l => l.length + (l.map t).sum) := by
  rintro H v l left ⟨cs, hc, w', rfl, hv⟩ hl0 hl1
  simp only [go_sem, binC, Option.some.injEq] at hc
  subst hc
  have hv' := hv
  obtain ⟨h0, a, rfl, h2⟩ := hv
  have hwr : IntKind.i64.wrap (left - l.length) = left - l.length := wrap_id (by omega) (by omega)
  by_cases hn : left - l.length < 0
  · refine ⟨-1, QC.mk hf rfl ?_, by omega, by omega⟩
    refine seq_reg ?_
    simp only [go_sem, binC]
    refine seq_reg ?_
    simp only [go_sem, binC]
    rw [hwr]
    refine seq_assoc (seq_reg ?_)
    simp only [go_sem, binC]
    refine seq_cond (t := true) (by simp only [go_sem, binC]; rw [decide_eq_true hn]) ?_
    simp only [go_sem, binC]
    refine seq_assoc (seq_reg ?_)
    simp only [go_sem, binC]
    refine seq_ret ⟨Or.inr rfl, _, ?_, rfl, rfl⟩
    simp only [go_sem, binC]
  · suffices h : ∃ r : Int, wpc F H.length (szNest g w agg).body (ini [.slice a l.length l.length, .int .i64 left]) H (fin [.t 4] fun w' _ => w' = .int .i64 r ∧ scal w' = true) ∧ r ≤ left ∧ (0 ≤ r → (Co.sl A).sm l ∧ (((l.length + (l.map t).sum : Nat)) : Int) ≤ left - r) by
      obtain ⟨r, h, h'⟩ := h
      exact ⟨r, QC.mk hf rfl h, h'⟩
    have key := szNestT_lp hg hw hva hv' (by omega) l.length 0 (putE (putE (putE (putE (putE (putE (putE (putE (putE (ini [.slice a l.length l.length, .int .i64 left]) (some 4) (.int .i64 0)) (some 6) (.int .i64 left)) (some 7) (.slice a l.length l.length)) (some 8) (.int .i64 l.length)) (some 9) (.int .i64 (left - l.length))) (some 1) (.int .i64 (left - l.length))) (some 10) (.int .i64 (left - l.length))) (some 11) (.bool (decide (left - l.length < 0)))) (some 5) (.int .i64 0)) (left - l.length) (by omega) (by simp only [go_sem, binC]) (by simp only [go_sem, binC]) (by simp only [go_sem, binC]; rfl) (by omega) (by omega)
    obtain ⟨x, e1, H1, k1, rfl, k2⟩ := key
    rcases k2 with ⟨rfl, r, k3, k4, k5, k6, k7⟩ | ⟨rfl, k3⟩
    · rw [List.drop_zero] at k7
      refine ⟨r, ?_, by omega, fun _ => ⟨⟨by omega, fun a ha => ?_⟩, by omega⟩⟩
      · refine seq_reg ?_
        simp only [go_sem, binC]
        refine seq_reg ?_
        simp only [go_sem, binC]
        rw [hwr]
        refine seq_assoc (seq_reg ?_)
        simp only [go_sem, binC]
        refine seq_cond (t := false) (by simp only [go_sem, binC]; rw [decide_eq_false hn]) ?_
        simp only [go_sem, binC]
        refine seq_skip (seq_assoc (seq_reg ?_))
        simp only [go_sem, binC]
        refine seq_block (wpc_loop ⟨_, _, _, k1, ?_⟩)
        simp only [go_sem, binC, out_e, thenX_n]
        refine seq_reg ?_
        simp only [go_sem, binC, k3]
        refine wpc_ret ⟨Or.inr rfl, _, ?_, rfl, rfl⟩
        simp only [go_sem, binC]
      · obtain ⟨j, hj, rfl⟩ := List.getElem_of_mem ha
        exact k6 j hj (by omega)
    · refine ⟨-1, ?_, by omega, by omega⟩
      refine seq_reg ?_
      simp only [go_sem, binC]
      refine seq_reg ?_
      simp only [go_sem, binC]
      rw [hwr]
      refine seq_assoc (seq_reg ?_)
      simp only [go_sem, binC]
      refine seq_cond (t := false) (by simp only [go_sem, binC]; rw [decide_eq_false hn]) ?_
      simp only [go_sem, binC]
      refine seq_skip (seq_assoc (seq_reg ?_))
      simp only [go_sem, binC]
      refine seq_block (wpc_loop ⟨_, _, _, k1, ?_⟩)
      simp only [go_sem, binC, out_r, thenX_r]
      refine ⟨Or.inr rfl, _, ?_, rfl, rfl⟩
      simp only [go_sem, binC, k3]
theorem szStepT_ok {n : Nat} {F : Nat → Option IFn} {f : Nat} (hf : F f = some c_szStep) (g4 : SzT F (Co.sl (Co.step n)) false 67 (tS n)) (g5 : SzT F (Co.sl (Co.step n)) false 67 (tS n)) : SzT F (Co.step (n + 1)) true f (tT (n + 1)) := by
  rintro H v ⟨a0, a1, ⟨a2, a3, a4⟩, a5, a6, a7⟩ left ⟨cs, hc, _, _, rfl, ⟨rfl, b0⟩, _, _, rfl, ⟨rfl, b1⟩, _, _, rfl, ⟨_, _, rfl, ⟨rfl, b2⟩, _, _, rfl, ⟨rfl, b3⟩, ⟨rfl, b4⟩⟩, _, _, rfl, ⟨rfl, b5⟩, _, _, rfl, ⟨v6, rfl, r6⟩, ⟨v7, rfl, r7⟩⟩ hl0 hl1
  simp only [go_sem, binC, Option.some.injEq] at hc
  subst hc
  obtain ⟨_, x6⟩ := r6.shape
  subst x6
  obtain ⟨_, x7⟩ := r7.shape
  subst x7
  suffices h : ∃ w, QC F f _ H w ∧ ∃ r : Int, w = .int .i64 r ∧ r ≤ left ∧ (0 ≤ r → (Co.step (n + 1)).sm (a0, a1, (a2, a3, a4), a5, a6, a7) ∧ ((tT (n + 1) (a0, a1, (a2, a3, a4), a5, a6, a7) : Nat) : Int) ≤ left - r) from let ⟨w, h1, r, h2, h3⟩ := h; ⟨r, h2 ▸ h1, h3⟩
  refine QC.mkE hf rfl ?_
  refine seq_reg ?_
  simp only [go_sem, binC]
  refine seq_reg ?_
  simp only [go_sem, binC]
  obtain ⟨z4, k4, y4, m4⟩ := g4 (H ++ _) _ a6 left ⟨_, rfl, ⟨_, rfl, r6.mono (vw_app 0 H _)⟩⟩ (by omega) (by omega)
  refine op_callQ (by simp only [go_sem, binC]; exact k4) ?_
  simp only [go_sem, binC]
  refine seq_assoc (seq_reg ?_)
  simp only [go_sem, binC]
  by_cases n4 : z4 < 0
  · refine seq_cond (t := true) (by simp only [go_sem, binC]; rw [decide_eq_true n4]) ?_
    simp only [go_sem, binC]
    refine seq_assoc (seq_reg ?_)
    simp only [go_sem, binC]
    refine seq_ret ⟨Or.inr rfl, .int .i64 (-1), by simp only [go_sem, binC], ⟨-1, rfl, by omega, by omega⟩, rfl⟩
  refine seq_cond (t := false) (by simp only [go_sem, binC]; rw [decide_eq_false n4]) ?_
  simp only [go_sem, binC]
  refine seq_skip ?_
  refine seq_reg ?_
  simp only [go_sem, binC]
  obtain ⟨z5, k5, y5, m5⟩ := g5 (H ++ _) _ a7 z4 ⟨_, rfl, ⟨_, rfl, r7.mono (vw_app 0 H _)⟩⟩ (by omega) (by omega)
  refine op_callQ (by simp only [go_sem, binC]; exact k5) ?_
  simp only [go_sem, binC]
  refine seq_assoc (seq_reg ?_)
  simp only [go_sem, binC]
  by_cases n5 : z5 < 0
  · refine seq_cond (t := true) (by simp only [go_sem, binC]; rw [decide_eq_true n5]) ?_
    simp only [go_sem, binC]
    refine seq_assoc (seq_reg ?_)
    simp only [go_sem, binC]
    refine seq_ret ⟨Or.inr rfl, .int .i64 (-1), by simp only [go_sem, binC], ⟨-1, rfl, by omega, by omega⟩, rfl⟩
  refine seq_cond (t := false) (by simp only [go_sem, binC]; rw [decide_eq_false n5]) ?_
  simp only [go_sem, binC]
  refine seq_skip ?_
  refine seq_reg ?_
  simp only [go_sem, binC]
  refine wpc_ret ⟨Or.inr rfl, .int .i64 z5, by simp only [go_sem, binC], ⟨_, rfl, by omega, fun _ => ⟨⟨trivial, trivial, ⟨trivial, trivial, trivial⟩, trivial, (m4 (by omega)).1, (m5 (by omega)).1⟩, by have p := (m4 (by omega)).2; have q := (m5 (by omega)).2; simp only [tT, tP, tS] at p q ⊢; omega⟩⟩, rfl⟩
theorem szProgT_ok {n : Nat} {F : Nat → Option IFn} {f : Nat} (hf : F f = some c_szProg) (g0 : SzT F (Co.sl Co.p2) false 66 List.length) (g1 : SzT F (Co.sl (Co.step n)) false 67 (tS n)) : SzT F (Co.prog n) true f (tP n) := by
  rintro H v ⟨a0, a1⟩ left ⟨cs, hc, _, _, rfl, ⟨v0, rfl, r0⟩, ⟨v1, rfl, r1⟩⟩ hl0 hl1
  simp only [go_sem, binC, Option.some.injEq] at hc
  subst hc
  obtain ⟨_, x0⟩ := r0.shape
  subst x0
  obtain ⟨_, x1⟩ := r1.shape
  subst x1
  suffices h : ∃ w, QC F f _ H w ∧ ∃ r : Int, w = .int .i64 r ∧ r ≤ left ∧ (0 ≤ r → (Co.prog n).sm (a0, a1) ∧ ((tP n (a0, a1) : Nat) : Int) ≤ left - r) from let ⟨w, h1, r, h2, h3⟩ := h; ⟨r, h2 ▸ h1, h3⟩
  refine QC.mkE hf rfl ?_
  refine seq_reg ?_
  simp only [go_sem, binC]
  refine seq_reg ?_
  simp only [go_sem, binC]
  obtain ⟨z0, k0, y0, m0⟩ := g0 (H ++ _) _ a0 left ⟨_, rfl, ⟨_, rfl, r0.mono (vw_app 0 H _)⟩⟩ (by omega) (by omega)
  refine op_callQ (by simp only [go_sem, binC]; exact k0) ?_
  simp only [go_sem, binC]
  refine seq_assoc (seq_reg ?_)
  simp only [go_sem, binC]
  by_cases n0 : z0 < 0
  · refine seq_cond (t := true) (by simp only [go_sem, binC]; rw [decide_eq_true n0]) ?_
    simp only [go_sem, binC]
    refine seq_assoc (seq_reg ?_)
    simp only [go_sem, binC]
    refine seq_ret ⟨Or.inr rfl, .int .i64 (-1), by simp only [go_sem, binC], ⟨-1, rfl, by omega, by omega⟩, rfl⟩
  refine seq_cond (t := false) (by simp only [go_sem, binC]; rw [decide_eq_false n0]) ?_
  simp only [go_sem, binC]
  refine seq_skip ?_
  refine seq_reg ?_
  simp only [go_sem, binC]
  obtain ⟨z1, k1, y1, m1⟩ := g1 (H ++ _) _ a1 z0 ⟨_, rfl, ⟨_, rfl, r1.mono (vw_app 0 H _)⟩⟩ (by omega) (by omega)
  refine op_callQ (by simp only [go_sem, binC]; exact k1) ?_
  simp only [go_sem, binC]
  refine seq_assoc (seq_reg ?_)
  simp only [go_sem, binC]
  by_cases n1 : z1 < 0
  · refine seq_cond (t := true) (by simp only [go_sem, binC]; rw [decide_eq_true n1]) ?_
    simp only [go_sem, binC]
    refine seq_assoc (seq_reg ?_)
    simp only [go_sem, binC]
    refine seq_ret ⟨Or.inr rfl, .int .i64 (-1), by simp only [go_sem, binC], ⟨-1, rfl, by omega, by omega⟩, rfl⟩
  refine seq_cond (t := false) (by simp only [go_sem, binC]; rw [decide_eq_false n1]) ?_
  simp only [go_sem, binC]
  refine seq_skip ?_
  refine seq_reg ?_
  simp only [go_sem, binC]
  refine wpc_ret ⟨Or.inr rfl, .int .i64 z1, by simp only [go_sem, binC], ⟨_, rfl, by omega, fun _ => ⟨⟨(m0 (by omega)).1, (m1 (by omega)).1⟩, by have p := (m0 (by omega)).2; have q := (m1 (by omega)).2; simp only [tT, tP, tS] at p q ⊢; omega⟩⟩, rfl⟩
end Go.Proofs.YtbjeldblaclpnaaI
end
section
/- Marks on programs. -/
set_option linter.unusedVariables false
set_option linter.unusedSimpArgs false
namespace Go.Proofs.YtbjeldblaclpnaaI
open Go Go.RowKit
def c_markStepS : IFn := ⟨2, 72, [.t 4],
 .seq (.reg none [
    ⟨(some 4), none, .mov (.c (.int .i64 0))⟩])
 (.seq (.seq (.reg none [
     ⟨(some 5), none, .mov (.c (.int .i64 0))⟩])
  (.block 0 (.loop (.seq (.seq (.reg none [
        ⟨(some 6), none, .mov (.t 5)⟩,
        ⟨(some 7), none, .mov (.t 0)⟩,
        ⟨(some 8), none, .len (.t 7)⟩,
        ⟨(some 9), none, .bin .lss (.t 6) (.t 8)⟩])
     (.cond (.t 9) (.skip) (.exit 0)))
    (.seq (.block 1 (.seq (.reg none [
         ⟨(some 12), none, .mov (.t 0)⟩,
         ⟨(some 13), none, .mov (.t 5)⟩,
         ⟨(some 14), none, .mov (.t 1)⟩,
         ⟨(some 15), none, .iad 8 (.t 12) (.t 13)⟩,
         ⟨(some 16), none, .fad 0 (.t 15)⟩,
         ⟨none, none, .store 1 (.t 16) (.t 14)⟩])
      (.seq (.reg none [
         ⟨(some 17), none, .mov (.t 1)⟩,
         ⟨(some 18), none, .bin .add (.t 17) (.c (.int .i64 1))⟩,
         ⟨(some 1), none, .mov (.t 18)⟩])
      (.seq (.reg none [
         ⟨(some 19), none, .mov (.t 0)⟩,
         ⟨(some 20), none, .mov (.t 5)⟩,
         ⟨(some 21), none, .mov (.t 1)⟩,
         ⟨(some 22), none, .iad 8 (.t 19) (.t 20)⟩,
         ⟨(some 23), none, .fad 1 (.t 22)⟩,
         ⟨none, none, .store 1 (.t 23) (.t 21)⟩])
      (.seq (.reg none [
         ⟨(some 24), none, .mov (.t 1)⟩,
         ⟨(some 25), none, .bin .add (.t 24) (.c (.int .i64 1))⟩,
         ⟨(some 1), none, .mov (.t 25)⟩])
      (.seq (.reg none [
         ⟨(some 26), none, .mov (.t 0)⟩,
         ⟨(some 27), none, .mov (.t 5)⟩,
         ⟨(some 28), none, .mov (.t 1)⟩,
         ⟨(some 29), none, .iad 8 (.t 26) (.t 27)⟩,
         ⟨(some 30), none, .fad 2 (.t 29)⟩,
         ⟨(some 31), none, .fad 0 (.t 30)⟩,
         ⟨none, none, .store 1 (.t 31) (.t 28)⟩])
      (.seq (.reg none [
         ⟨(some 32), none, .mov (.t 1)⟩,
         ⟨(some 33), none, .bin .add (.t 32) (.c (.int .i64 1))⟩,
         ⟨(some 1), none, .mov (.t 33)⟩])
      (.seq (.reg none [
         ⟨(some 34), none, .mov (.t 0)⟩,
         ⟨(some 35), none, .mov (.t 5)⟩,
         ⟨(some 36), none, .mov (.t 1)⟩,
         ⟨(some 37), none, .iad 8 (.t 34) (.t 35)⟩,
         ⟨(some 38), none, .fad 2 (.t 37)⟩,
         ⟨(some 39), none, .fad 1 (.t 38)⟩,
         ⟨none, none, .store 1 (.t 39) (.t 36)⟩])
      (.seq (.reg none [
         ⟨(some 40), none, .mov (.t 1)⟩,
         ⟨(some 41), none, .bin .add (.t 40) (.c (.int .i64 1))⟩,
         ⟨(some 1), none, .mov (.t 41)⟩])
      (.seq (.reg none [
         ⟨(some 42), none, .mov (.t 0)⟩,
         ⟨(some 43), none, .mov (.t 5)⟩,
         ⟨(some 44), none, .mov (.t 1)⟩,
         ⟨(some 45), none, .iad 8 (.t 42) (.t 43)⟩,
         ⟨(some 46), none, .fad 2 (.t 45)⟩,
         ⟨(some 47), none, .fad 2 (.t 46)⟩,
         ⟨none, none, .store 1 (.t 47) (.t 44)⟩])
      (.seq (.reg none [
         ⟨(some 48), none, .mov (.t 1)⟩,
         ⟨(some 49), none, .bin .add (.t 48) (.c (.int .i64 1))⟩,
         ⟨(some 1), none, .mov (.t 49)⟩])
      (.seq (.reg none [
         ⟨(some 50), none, .mov (.t 0)⟩,
         ⟨(some 51), none, .mov (.t 5)⟩,
         ⟨(some 52), none, .mov (.t 1)⟩,
         ⟨(some 53), none, .iad 8 (.t 50) (.t 51)⟩,
         ⟨(some 54), none, .fad 5 (.t 53)⟩,
         ⟨none, none, .store 1 (.t 54) (.t 52)⟩])
      (.seq (.reg none [
         ⟨(some 55), none, .mov (.t 1)⟩,
         ⟨(some 56), none, .bin .add (.t 55) (.c (.int .i64 1))⟩,
         ⟨(some 1), none, .mov (.t 56)⟩])
      (.seq (.reg none [
         ⟨(some 57), none, .mov (.t 0)⟩,
         ⟨(some 58), none, .mov (.t 5)⟩,
         ⟨(some 59), none, .iad 8 (.t 57) (.t 58)⟩,
         ⟨(some 60), none, .fad 6 (.t 59)⟩,
         ⟨(some 61), none, .load false 1 (.t 60)⟩,
         ⟨(some 62), none, .mov (.t 1)⟩,
         ⟨(some 63), none, .call .n (.f 73) [(.t 61), (.t 62)]⟩,
         ⟨(some 1), none, .mov (.t 63)⟩])
      (.reg none [
        ⟨(some 64), none, .mov (.t 0)⟩,
        ⟨(some 65), none, .mov (.t 5)⟩,
        ⟨(some 66), none, .iad 8 (.t 64) (.t 65)⟩,
        ⟨(some 67), none, .fad 7 (.t 66)⟩,
        ⟨(some 68), none, .load false 1 (.t 67)⟩,
        ⟨(some 69), none, .mov (.t 1)⟩,
        ⟨(some 70), none, .call .n (.f 73) [(.t 68), (.t 69)]⟩,
        ⟨(some 1), none, .mov (.t 70)⟩])))))))))))))))
    (.reg none [
      ⟨(some 10), none, .mov (.t 5)⟩,
      ⟨(some 11), none, .bin .add (.t 10) (.c (.int .i64 1))⟩,
      ⟨(some 5), none, .mov (.t 11)⟩]))))))
 (.seq (.reg none [
    ⟨(some 71), none, .mov (.t 1)⟩,
    ⟨(some 4), none, .mov (.t 71)⟩])
 (.ret)))⟩
def c_markProg : IFn := ⟨2, 14, [.t 4],
 .seq (.reg none [
    ⟨(some 2), none, .box (.t 0)⟩,
    ⟨(some 4), none, .mov (.c (.int .i64 0))⟩])
 (.seq (.reg none [
    ⟨(some 5), none, .fad 0 (.t 2)⟩,
    ⟨(some 6), none, .load false 1 (.t 5)⟩,
    ⟨(some 7), none, .mov (.t 1)⟩,
    ⟨(some 8), none, .call .n (.f 72) [(.t 6), (.t 7)]⟩,
    ⟨(some 1), none, .mov (.t 8)⟩])
 (.seq (.reg none [
    ⟨(some 9), none, .fad 1 (.t 2)⟩,
    ⟨(some 10), none, .load false 1 (.t 9)⟩,
    ⟨(some 11), none, .mov (.t 1)⟩,
    ⟨(some 12), none, .call .n (.f 73) [(.t 10), (.t 11)]⟩,
    ⟨(some 1), none, .mov (.t 12)⟩])
 (.seq (.reg none [
    ⟨(some 13), none, .mov (.t 1)⟩,
    ⟨(some 4), none, .mov (.t 13)⟩])
 (.ret))))⟩
def cT : (n : Nat) → TStep n → Nat
  | 0, s => s.elim
  | n + 1, (_, _, _, _, th, el) => 6 + ((th.map (cT n)).sum + (el.map (cT n)).sum)
def cS (n : Nat) (l : List (TStep n)) : Nat := (l.map (cT n)).sum
def nLab (l : List (Int × Int)) : Nat := l.length * 2
def cP (n : Nat) (p : TProg n) : Nat := nLab p.1 + cS n p.2
theorem cS_le : ∀ (n : Nat), (∀ s : TStep n, cT n s ≤ 6 + 6 * tT n s)
  | 0 => fun s => s.elim
  | n + 1 => fun (k, x, v, h, th, el) => by
    have go : ∀ l : List (TStep n), (l.map (cT n)).sum ≤ 6 * (l.length + (l.map (tT n)).sum) := by
      intro l
      induction l with
      | nil => simp
      | cons a l ih =>
        have := cS_le n a
        simp only [List.map_cons, List.sum_cons, List.length_cons]
        omega
    have h1 := go th
    have h2 := go el
    simp only [cT, tT]
    omega
theorem cS_le' {n : Nat} (l : List (TStep n)) : cS n l ≤ 6 * tS n l := by
  unfold cS tS
  induction l with
  | nil => simp
  | cons a l ih =>
    have := cS_le n a
    simp only [List.map_cons, List.sum_cons, List.length_cons]
    omega
theorem cP_le {n : Nat} (p : TProg n) : cP n p ≤ 6 * tP n p := by
  have := cS_le' p.2
  unfold cP tP nLab
  omega
theorem sT : ∀ n, CoSim (Co.step n) (cT n)
  | 0 => fun V V' cs cs' a _ _ h => h.elim
  | n + 1 => by
    have h1 := (sT n).sum
    have hv : CoSim Co.val (fun p : Int × Int × Int => ((), (), ())) := CoSim.pair CoSim.int (CoSim.pair CoSim.int CoSim.int)
    have h2 := (CoSim.pair CoSim.int (CoSim.pair CoSim.int (CoSim.pair hv (CoSim.pair CoSim.int (CoSim.pair h1 h1))))).comp (fun p => 6 + (p.2.2.2.2.1 + p.2.2.2.2.2))
    intro V V' cs cs' a g1 g2 g3
    obtain ⟨a', g4, g5⟩ := h2 V V' cs cs' a g1 g2 g3
    exact ⟨a', g4, g5⟩
theorem sS (n : Nat) : CoSim (Co.sl (Co.step n)) (cS n) := (sT n).sum
theorem sLab : CoSim (Co.sl Co.p2) nLab := (CoSim.pair CoSim.int CoSim.int).len 2
theorem FrI.sl1 {lo hi : Nat} {H H' : Heap} (h : FrI lo hi H H') {b j : Nat} {a : Option Addr} {n c : Nat} (hg : getCells H b j 1 = some [.slice a n c]) : getCells H' b j 1 = some [.slice a n c] := by
  unfold getCells at hg ⊢
  cases hb : H[b]? with
  | none => rw [hb] at hg; cases hg
  | some k =>
    rw [hb] at hg
    simp only at hg
    split at hg
    case isFalse => cases hg
    case isTrue hl =>
    rcases h.2 b (List.getElem?_eq_some_iff.1 hb).1 with h1 | ⟨_, _, k1, k2, h1, h2, _, h3⟩
    · rw [h1, hb]
      simp only
      rw [if_pos hl]
      exact hg
    · rw [hb] at h1
      cases h1
      rw [h2]
      simp only
      rw [h3.1, if_pos hl]
      have e1 : k.cells[j]? = some (.slice a n c) := by
        have := congrArg (fun q => (q.getD []).head?) hg
        simp only [Option.getD_some, List.head?_cons, List.head?_take, List.head?_drop] at this
        simpa using this
      obtain ⟨c', q1, q2⟩ := h3.2 j _ e1
      have q3 : c' = .slice a n c := by
        rcases q2 with q2 | ⟨⟨m, q2⟩, _⟩
        · exact q2
        · cases q2
      subst q3
      obtain ⟨hj, hje⟩ := List.getElem?_eq_some_iff.1 q1
      rw [List.drop_eq_getElem_cons hj, hje]
      rfl
/-- Six numbers of a step written. -/
theorem frI_six {lo hi : Nat} {H : Heap} {b o : Nat} {cs : List Value} {es et : Nat} {ap : Bool} (hb : H[b]? = some ⟨cs, es, et, ap, true⟩) (h1 : lo ≤ b) (h2 : b < hi) (hl : o + 6 ≤ cs.length) (hc : ∀ j, j < 6 → ∃ m, cs[o + j]? = some (.int .i64 m)) {k : Int} (hk : 0 ≤ k) (hkn : k + 6 ≤ 9223372036854775807) : FrI lo hi H (markB H b o k 6) := by
  refine ⟨Nat.le_of_eq (markB_len _ _ _ _ _).symm, fun b' hb' => ?_⟩
  by_cases e : b' = b
  · subst e
    refine .inr ⟨h1, h2, _, _, hb, markB_get hb _ _ _, rfl, setL_length _ _ _, fun i c hi => ?_⟩
    simp only at hi ⊢
    rw [setL_get _ _ _ _ (by rw [seqI_length]; exact hl), seqI_length]
    by_cases hi2 : o ≤ i ∧ i < o + 6
    · rw [if_pos hi2, seqI_at _ _ _ (by omega)]
      obtain ⟨m, hm⟩ := hc (i - o) (by omega)
      rw [show o + (i - o) = i by omega, hi] at hm
      cases hm
      exact ⟨_, rfl, .inr ⟨⟨m, rfl⟩, _, rfl, by omega, by omega⟩⟩
    · rw [if_neg hi2]
      exact ⟨c, hi, .inl rfl⟩
  · exact .inl (markB_ne _ _ _ _ e)
set_option maxHeartbeats 4000000 in
theorem mkSteps_ok {F : Nat → Option IFn} {n : Nat} (hf : F 73 = some c_markStepS) (ihn : MkOk F (Co.sl (Co.step n)) false 73 (cS n)) : MkOk F (Co.sl (Co.step (n + 1))) false 73 (cS (n + 1)) := by
  rintro H v l lo hi lo0 k ⟨cs, hc, u, rfl, hr⟩ hhi hlo hk hkn
  simp only [valOf_one, Option.some.injEq] at hc
  subst hc
  have hr0 := hr
  obtain ⟨hn, a, rfl, ha⟩ := hr
  have hs := sT (n + 1)
  suffices h : ∃ v H', NC F lo0 73 [.slice a l.length l.length, .int .i64 k] H v H' ∧ v = .int .i64 (k + (cS (n + 1) l : Nat)) ∧ FrI lo hi H H' by
    obtain ⟨v, H', h1, rfl, h2⟩ := h
    exact ⟨H', h1, h2⟩
  unfold cS at hkn ⊢
  refine NC.mk hf rfl ?_
  refine seq_reg ?_
  simp only [go_sem, binC]
  refine seq_assoc (seq_reg ?_)
  simp only [go_sem, binC]
  refine seq_block (wpc_loop ?_)
  suffices h : ∀ (j i : Nat) (e : Env) (H' : Heap), i + j = l.length → FrI lo hi H H' → e 0 = .slice a l.length l.length → e 5 = .int .i64 i → e 1 = .int .i64 (k + (((l.map (cT (n + 1))).take i).sum : Nat)) → W F lo0 _ e H' _ from
    h l.length 0 _ _ (by omega) (FrI.refl _ _ _) (by simp only [go_sem, binC]) (by simp only [go_sem, binC]; rfl) (by simp only [go_sem, binC]; simp)
  intro j
  induction j with
  | zero =>
    intro i e H' hi2 hfr e0 e5 e1
    refine lp_step ?_
    refine seq_assoc (seq_reg ?_)
    simp only [go_sem, binC, e0, e5]
    refine seq_cond (t := false) (by simp only [go_sem, binC]; rw [decide_eq_false (by omega)]) ?_
    simp only [go_sem, binC]
    refine seq_exit ?_
    simp only [go_sem, binC, thenX_e, out_e, thenX_n]
    refine seq_reg ?_
    simp only [go_sem, binC, e1]
    obtain rfl : i = l.length := by omega
    refine wpc_ret ⟨Or.inr rfl, _, (by simp only [go_sem, binC]; rfl), ?_, hfr⟩
    rw [List.take_of_length_le (by rw [List.length_map]; omega)]
  | succ j ih =>
    intro i e H' hi2 hfr e0 e5 e1
    have hil : i < l.length := by omega
    have hsum := sum_take (fun x => x) (l.map (cT (n + 1))) i (by rw [List.length_map]; exact hil)
    rw [List.getElem_map] at hsum
    have hle := sum_take_le (l.map (cT (n + 1))) (i + 1)
    obtain ⟨l', hl', hm⟩ := hs.sl _ _ _ _ _ hfr.vsim (CsSim.refl _) (Co.rd_sl.2 hr0)
    obtain ⟨_, a', e6, h7⟩ := Co.rd_sl.1 hl'
    have hll : l'.length = l.length := by have := congrArg List.length hm; simpa using this
    rcases h7 with rfl | ⟨b, o, rfl, h7⟩
    · simp only [List.length_nil] at hll; omega
    obtain ⟨cs, h8, h9⟩ := h7 i (by omega)
    rw [hll] at e6
    simp only [Value.slice.injEq] at e6
    obtain ⟨rfl, _⟩ := e6
    have hci : cT (n + 1) l'[i] = cT (n + 1) l[i] := by
      have := congrArg (fun q => q[i]?) hm
      simp only [List.getElem?_map, List.getElem?_eq_getElem hil, List.getElem?_eq_getElem (show i < l'.length by omega), Option.map_some, Option.some.injEq] at this
      exact this
    rw [← hci] at hsum
    generalize l'[i] = s at h9 hsum
    obtain ⟨c0, c1, ⟨c2, c3, c4⟩, c5, th, el⟩ := s
    obtain ⟨_, _, rfl, ⟨rfl, b0⟩, _, _, rfl, ⟨rfl, b1⟩, _, _, rfl, ⟨_, _, rfl, ⟨rfl, b2⟩, _, _, rfl, ⟨rfl, b3⟩, ⟨rfl, b4⟩⟩, _, _, rfl, ⟨rfl, b5⟩, _, _, rfl, ⟨tv, rfl, r6⟩, ⟨ev, rfl, r7⟩⟩ := h9
    simp only [List.cons_append, List.nil_append] at h8
    obtain ⟨ccs, es, et, ap, hb, hlen, hcut, hlb, hbh⟩ : ∃ ccs es et ap, H'[b]? = some ⟨ccs, es, et, ap, true⟩ ∧ o + i * 8 + 8 ≤ ccs.length ∧ (ccs.drop (o + i * 8)).take 8 = [.int .i64 c0, .int .i64 c1, .int .i64 c2, .int .i64 c3, .int .i64 c4, .int .i64 c5, tv, ev] ∧ lo ≤ b ∧ b < hi := by
      rw [step_w] at h8
      unfold rng at h8
      split at h8
      · rename_i kk hk2
        obtain ⟨g1, g2, es, et, ap, g3⟩ := vwb_some hk2
        split at h8
        · rename_i hl2
          simp only [Option.some.injEq] at h8
          exact ⟨kk, es, et, ap, g3, hl2, h8, g1, g2⟩
        · cases h8
      · cases h8
    clear h8
    have hcj : ∀ j, ccs[o + i * 8 + j]? = if j < 8 then [.int .i64 c0, .int .i64 c1, .int .i64 c2, .int .i64 c3, .int .i64 c4, .int .i64 c5, tv, ev][j]? else ccs[o + i * 8 + j]? := fun j => by
      split
      · rename_i hj
        rw [← hcut, List.getElem?_take_of_lt hj, List.getElem?_drop]
      · rfl
    have hone : ∀ v' : Value, ∀ j, j < 8 → 6 ≤ j → ccs[o + i * 8 + j]? = some v' → ∀ q, getCells (markB H' b (o + i * 8) q 6) b (o + i * 8 + j) 1 = some [v'] := fun v' j h1 h2 h3 q => by
      unfold getCells
      rw [markB_get hb]
      simp only [setL_length]
      rw [if_pos (by omega)]
      have hg : (setL ccs (o + i * 8) (seqI q 6))[o + i * 8 + j]? = some v' := by
        rw [setL_get _ _ _ _ (by rw [seqI_length]; omega), seqI_length, if_neg (by omega)]
        exact h3
      obtain ⟨hj, hje⟩ := List.getElem?_eq_some_iff.1 hg
      rw [List.drop_eq_getElem_cons hj, hje]
      rfl
    obtain ⟨h60, a6, rfl, h62⟩ := r6
    obtain ⟨h70, a7, rfl, h72⟩ := r7
    have hq0 : 0 ≤ k + (((l.map (cT (n + 1))).take i).sum : Nat) := by omega
    have hct : cT (n + 1) (c0, c1, (c2, c3, c4), c5, th, el) = 6 + (cS n th + cS n el) := rfl
    rw [hct] at hsum
    have hqn : (k + (((l.map (cT (n + 1))).take i).sum : Nat)) + (6 + (cS n th + cS n el) : Nat) ≤ 9223372036854775807 := by omega
    have hq2 : k + (((l.map (cT (n + 1))).take (i + 1)).sum : Nat) = (k + (((l.map (cT (n + 1))).take i).sum : Nat)) + (6 + (cS n th + cS n el) : Nat) := by omega
    generalize k + (((l.map (cT (n + 1))).take i).sum : Nat) = q at e1 hq0 hqn hq2
    have hF6 := frI_six hb hlb hbh (o := o + i * 8) (k := q) (by omega) (fun j hj => by
      rw [hcj, if_pos (by omega)]
      have : j = 0 ∨ j = 1 ∨ j = 2 ∨ j = 3 ∨ j = 4 ∨ j = 5 := by omega
      rcases this with rfl | rfl | rfl | rfl | rfl | rfl <;> exact ⟨_, rfl⟩) hq0 (by omega)
    have g6 := hone _ 6 (by omega) (by omega) (by rw [hcj, if_pos (by omega)]; rfl) q
    have g7 := hone _ 7 (by omega) (by omega) (by rw [hcj, if_pos (by omega)]; rfl) q
    have hlen6 : ∀ m, (setL ccs (o + i * 8) (seqI q m)).length = ccs.length := fun m => setL_length _ _ _
    refine lp_step ?_
    refine seq_assoc (seq_reg ?_)
    simp only [go_sem, binC, e0, e5]
    refine seq_cond (t := true) (by simp only [go_sem, binC]; rw [decide_eq_true (by omega)]) ?_
    simp only [go_sem, binC]
    refine seq_skip (seq_block ?_)
    rw [← markB_zero H' b (o + i * 8) q]
    refine seq_reg ?_
    simp only [go_sem, binC, e0, e5, e1, markB_get hb, hlen6]
    refine ⟨⟨by omega, by omega⟩, ⟨by omega, by omega⟩, ?_⟩
    rw [markB_step hb (m := 0) (by omega) (by omega)]
    refine seq_reg ?_
    simp only [go_sem, binC, e1]
    rw [wrap_id (x := q + 1) (by omega) (by omega)]
    refine seq_reg ?_
    simp only [go_sem, binC, e0, e5, e1, markB_get hb, hlen6]
    refine ⟨⟨by omega, by omega⟩, ⟨by omega, by omega⟩, ?_⟩
    rw [markB_step hb (m := 1) (by omega) (by omega)]
    refine seq_reg ?_
    simp only [go_sem, binC, e1]
    rw [wrap_id (x := (q + 1) + 1) (by omega) (by omega)]
    refine seq_reg ?_
    simp only [go_sem, binC, e0, e5, e1, markB_get hb, hlen6]
    refine ⟨⟨by omega, by omega⟩, ⟨by omega, by omega⟩, ?_⟩
    rw [markB_step hb (m := 2) (by omega) (by omega)]
    refine seq_reg ?_
    simp only [go_sem, binC, e1]
    rw [wrap_id (x := ((q + 1) + 1) + 1) (by omega) (by omega)]
    refine seq_reg ?_
    simp only [go_sem, binC, e0, e5, e1, markB_get hb, hlen6]
    refine ⟨⟨by omega, by omega⟩, ⟨by omega, by omega⟩, ?_⟩
    rw [markB_step hb (m := 3) (by omega) (by omega)]
    refine seq_reg ?_
    simp only [go_sem, binC, e1]
    rw [wrap_id (x := (((q + 1) + 1) + 1) + 1) (by omega) (by omega)]
    refine seq_reg ?_
    simp only [go_sem, binC, e0, e5, e1, markB_get hb, hlen6]
    refine ⟨⟨by omega, by omega⟩, ⟨by omega, by omega⟩, ?_⟩
    rw [markB_step hb (m := 4) (by omega) (by omega)]
    refine seq_reg ?_
    simp only [go_sem, binC, e1]
    rw [wrap_id (x := ((((q + 1) + 1) + 1) + 1) + 1) (by omega) (by omega)]
    refine seq_reg ?_
    simp only [go_sem, binC, e0, e5, e1, markB_get hb, hlen6]
    refine ⟨⟨by omega, by omega⟩, ⟨by omega, by omega⟩, ?_⟩
    rw [markB_step hb (m := 5) (by omega) (by omega)]
    refine seq_reg ?_
    simp only [go_sem, binC, e1]
    rw [wrap_id (x := (((((q + 1) + 1) + 1) + 1) + 1) + 1) (by omega) (by omega)]
    obtain ⟨th', ht1, ht2⟩ := sS n _ _ _ _ th hF6.vsim (CsSim.refl [.slice a6 th.length th.length]) ⟨_, rfl, h60, a6, rfl, h62⟩
    obtain ⟨Ha, ka, fa⟩ := ihn _ (.slice a6 th.length th.length) th' lo hi lo0 (q + 6) ⟨_, rfl, ht1⟩ (by have := hfr.1; have := hF6.1; omega) hlo (by omega) (by omega)
    rw [ht2] at ka
    refine seq_reg ?_
    simp only [go_sem, binC, e0, e5, g6]
    refine ⟨⟨by omega, by omega⟩, ?_⟩
    refine op_callN (by simp only [go_sem, binC]; rw [show (((((q + 1) + 1) + 1) + 1) + 1) + 1 = q + 6 by omega]; exact ka) ?_
    simp only [go_sem, binC]
    have hFa := hF6.trans fa
    obtain ⟨el', he1, he2⟩ := sS n _ _ _ _ el hFa.vsim (CsSim.refl [.slice a7 el.length el.length]) ⟨_, rfl, h70, a7, rfl, h72⟩
    obtain ⟨Hb, kb, fb⟩ := ihn _ (.slice a7 el.length el.length) el' lo hi lo0 (q + 6 + (cS n th : Nat)) ⟨_, rfl, he1⟩ (by have := hfr.1; have := hFa.1; omega) hlo (by omega) (by omega)
    rw [he2] at kb
    have g7a := fa.sl1 g7
    refine wpc_reg ?_
    simp only [go_sem, binC, e0, e5, g7a]
    refine ⟨⟨by omega, by omega⟩, ?_⟩
    refine op_callN (by simp only [go_sem, binC]; exact kb) ?_
    simp only [go_sem, binC, out_n, thenX_n]
    have hw1 : IntKind.i64.wrap ((i : Int) + 1) = ((i + 1 : Nat) : Int) := by rw [wrap_id (by omega) (by omega)]; omega
    refine wpc_reg ?_
    simp only [go_sem, binC, e5, hw1]
    simp only [go_sem, binC, thenX_n]
    refine ih (i + 1) _ Hb (by omega) ((hfr.trans hFa).trans fb) (by simp only [go_sem, binC, e0]) (by simp only [go_sem, binC]) (by simp only [go_sem, binC]; rw [hq2]; congr 1; omega)
theorem mkSteps_all {F : Nat → Option IFn} (hf : F 73 = some c_markStepS) : ∀ n, MkOk F (Co.sl (Co.step n)) false 73 (cS n)
  | 0 => by
    rintro H v l lo hi lo0 k ⟨cs, hc, u, rfl, hr⟩ hhi hlo hk hkn
    simp only [valOf_one, Option.some.injEq] at hc
    subst hc
    obtain ⟨hn, a, rfl, ha⟩ := hr
    have h0 : l = [] := by
      cases l with
      | nil => rfl
      | cons s l => exact s.elim
    subst h0
    suffices h : ∃ v H', NC F lo0 73 [.slice a 0 0, .int .i64 k] H v H' ∧ v = .int .i64 k ∧ FrI lo hi H H' by
      obtain ⟨v, H', h1, rfl, h2⟩ := h
      refine ⟨H', ?_, h2⟩
      have e : k + ((cS 0 [] : Nat) : Int) = k := by simp [cS]
      rw [e]
      exact h1
    refine NC.mk hf rfl ?_
    refine seq_reg ?_
    simp only [go_sem, binC]
    refine seq_assoc (seq_reg ?_)
    simp only [go_sem, binC]
    refine seq_block (wpc_loop ?_)
    refine lp_step ?_
    refine seq_assoc (seq_reg ?_)
    simp only [go_sem, binC]
    refine seq_cond (t := false) (by simp only [go_sem, binC]; rfl) ?_
    simp only [go_sem, binC]
    refine seq_exit ?_
    simp only [go_sem, binC, thenX_e, out_e, thenX_n]
    refine seq_reg ?_
    simp only [go_sem, binC]
    exact wpc_ret ⟨Or.inr rfl, _, (by (simp only [go_sem, binC]) <;> rfl), rfl, FrI.refl _ _ _⟩
  | n + 1 => mkSteps_ok hf (mkSteps_all hf n)
end Go.Proofs.YtbjeldblaclpnaaI
end
section
/- Copies of programs in blocks of one's own, and marks on them. -/
set_option linter.unusedVariables false
set_option linter.unusedSimpArgs false
namespace Go.Proofs.YtbjeldblaclpnaaI
open Go Go.RowKit
theorem toLabel_okS {F : Nat → Option IFn} {f : Nat} (hf : F f = some c_toLabel) : ToOkS F Co.p2 true .q f := by
  refine ToOkS.ofQ ?_
  rintro H v ⟨a0, a1⟩ ⟨cs, hc, _, _, rfl, ⟨rfl, b0⟩, ⟨rfl, b1⟩⟩ hs
  simp only [go_sem, binC, Option.some.injEq] at hc
  subst hc
  refine ⟨_, QC.mk hf rfl ?_, ⟨_, rfl, _, _, rfl, ⟨rfl, b0⟩, ⟨rfl, b1⟩⟩⟩
  repeat (refine seq_reg ?_; simp only [go_sem, binC])
  refine wpc_ret ⟨Or.inr rfl, _, ?_, rfl, rfl⟩
  simp only [go_sem, binC]
theorem toVal_okS {F : Nat → Option IFn} {f : Nat} (hf : F f = some c_toVal) : ToOkS F Co.val true .q f := by
  refine ToOkS.ofQ ?_
  rintro H v ⟨a0, a1, a2⟩ ⟨cs, hc, _, _, rfl, ⟨rfl, b0⟩, _, _, rfl, ⟨rfl, b1⟩, ⟨rfl, b2⟩⟩ hs
  simp only [go_sem, binC, Option.some.injEq] at hc
  subst hc
  refine ⟨_, QC.mk hf rfl ?_, ⟨_, rfl, _, _, rfl, ⟨rfl, b0⟩, _, _, rfl, ⟨rfl, b1⟩, ⟨rfl, b2⟩⟩⟩
  repeat (refine seq_reg ?_; simp only [go_sem, binC])
  refine wpc_ret ⟨Or.inr rfl, _, ?_, rfl, rfl⟩
  simp only [go_sem, binC]
theorem toStep_okS {n : Nat} {F : Nat → Option IFn} {f : Nat} (hf : F f = some c_toStep) (g2 : ToOkS F Co.val true .q 144) (g4 : ToOkS F (Co.sl (Co.step n)) false .k 69) (g5 : ToOkS F (Co.sl (Co.step n)) false .k 69) : ToOkS F (Co.step (n + 1)) true .k f := by
  refine ToOkS.ofK ?_
  rintro H v ⟨a0, a1, ⟨a2, a3, a4⟩, a5, a6, a7⟩ ⟨cs, hc, _, _, rfl, ⟨rfl, b0⟩, _, _, rfl, ⟨rfl, b1⟩, _, _, rfl, ⟨_, _, rfl, ⟨rfl, b2⟩, _, _, rfl, ⟨rfl, b3⟩, ⟨rfl, b4⟩⟩, _, _, rfl, ⟨rfl, b5⟩, _, _, rfl, ⟨v6, rfl, r6⟩, ⟨v7, rfl, r7⟩⟩ ⟨s0, s1, ⟨s2, s3, s4⟩, s5, s6, s7⟩
  simp only [go_sem, binC, Option.some.injEq] at hc
  subst hc
  obtain ⟨_, x6⟩ := r6.shape
  subst x6
  obtain ⟨_, x7⟩ := r7.shape
  subst x7
  refine KC.mk hf rfl ?_
  refine seq_reg ?_
  simp only [go_sem, binC]
  refine seq_reg ?_
  simp only [go_sem, binC]
  refine seq_reg ?_
  simp only [go_sem, binC]
  refine seq_reg ?_
  simp only [go_sem, binC]
  refine seq_reg ?_
  simp only [go_sem, binC]
  refine g2 _ _ ⟨a2, a3, a4⟩ ⟨_, rfl, ⟨_, _, rfl, ⟨rfl, b2⟩, _, _, rfl, ⟨rfl, b3⟩, ⟨rfl, b4⟩⟩⟩ ⟨s2, s3, s4⟩ _ _ _ _ (by simp only [go_sem, binC]) ?_
  rintro w2 L2 ⟨_, hc, _, _, rfl, ⟨rfl, bq2⟩, _, _, rfl, ⟨rfl, bq3⟩, ⟨rfl, bq4⟩⟩
  simp only [go_sem, binC, Option.some.injEq] at hc
  subst hc
  simp only [go_sem, binC]
  refine seq_reg ?_
  simp only [go_sem, binC]
  refine seq_reg ?_
  simp only [go_sem, binC]
  refine g4 _ _ a6 ⟨_, rfl, ⟨_, rfl, r6.mono (vw_app 0 H _)⟩⟩ s6 _ _ _ _ (by simp only [go_sem, binC]) ?_
  rintro w4 L4 ⟨_, hc, vq6, rfl, rq6⟩
  simp only [go_sem, binC, Option.some.injEq] at hc
  subst hc
  obtain ⟨_, xq6⟩ := rq6.shape
  subst xq6
  simp only [go_sem, binC]
  refine seq_reg ?_
  simp only [go_sem, binC]
  refine g5 _ _ a7 ⟨_, rfl, ⟨_, rfl, r7.mono (vw_app 0 H _)⟩⟩ s7 _ _ _ _ (by simp only [go_sem, binC]) ?_
  rintro w5 L5 ⟨_, hc, vq7, rfl, rq7⟩
  simp only [go_sem, binC, Option.some.injEq] at hc
  subst hc
  obtain ⟨_, xq7⟩ := rq7.shape
  subst xq7
  simp only [go_sem, binC]
  refine seq_reg ?_
  simp only [go_sem, binC]
  refine wpc_ret ⟨Or.inr rfl, _, by simp only [go_sem, binC], _, rfl, _, rfl, _, _, rfl, ⟨rfl, b0⟩, _, _, rfl, ⟨rfl, b1⟩, _, _, rfl, ⟨_, _, rfl, ⟨rfl, b2⟩, _, _, rfl, ⟨rfl, b3⟩, ⟨rfl, b4⟩⟩, _, _, rfl, ⟨rfl, b5⟩, _, _, rfl, ⟨_, rfl, rq6.mono (vws_in (H.length + 3) (L2 ++ L4) L5 (by simp only [go_sem, binC]; try omega) (by omega) (by simp only [go_sem, binC]) (by simp only [go_sem, binC]))⟩, ⟨_, rfl, rq7.mono (vws_in (H.length + 3) (L2 ++ (L4 ++ L5)) [] (by simp only [go_sem, binC]; try omega) (by omega) (by simp only [go_sem, binC]) (by simp only [go_sem, binC]))⟩⟩
theorem toProg_okS {n : Nat} {F : Nat → Option IFn} {f : Nat} (hf : F f = some c_toProg) (g0 : ToOkS F (Co.sl Co.p2) false .k 68) (g1 : ToOkS F (Co.sl (Co.step n)) false .k 69) : ToOkS F (Co.prog n) true .k f := by
  refine ToOkS.ofK ?_
  rintro H v ⟨a0, a1⟩ ⟨cs, hc, _, _, rfl, ⟨v0, rfl, r0⟩, ⟨v1, rfl, r1⟩⟩ ⟨s0, s1⟩
  simp only [go_sem, binC, Option.some.injEq] at hc
  subst hc
  obtain ⟨_, x0⟩ := r0.shape
  subst x0
  obtain ⟨_, x1⟩ := r1.shape
  subst x1
  refine KC.mk hf rfl ?_
  refine seq_reg ?_
  simp only [go_sem, binC]
  refine seq_reg ?_
  simp only [go_sem, binC]
  refine seq_reg ?_
  simp only [go_sem, binC]
  refine g0 _ _ a0 ⟨_, rfl, ⟨_, rfl, r0.mono (vw_app 0 H _)⟩⟩ s0 _ _ _ _ (by simp only [go_sem, binC]) ?_
  rintro w0 L0 ⟨_, hc, vq0, rfl, rq0⟩
  simp only [go_sem, binC, Option.some.injEq] at hc
  subst hc
  obtain ⟨_, xq0⟩ := rq0.shape
  subst xq0
  simp only [go_sem, binC]
  refine seq_reg ?_
  simp only [go_sem, binC]
  refine g1 _ _ a1 ⟨_, rfl, ⟨_, rfl, r1.mono (vw_app 0 H _)⟩⟩ s1 _ _ _ _ (by simp only [go_sem, binC]) ?_
  rintro w1 L1 ⟨_, hc, vq1, rfl, rq1⟩
  simp only [go_sem, binC, Option.some.injEq] at hc
  subst hc
  obtain ⟨_, xq1⟩ := rq1.shape
  subst xq1
  simp only [go_sem, binC]
  refine seq_reg ?_
  simp only [go_sem, binC]
  refine wpc_ret ⟨Or.inr rfl, _, by simp only [go_sem, binC], _, rfl, _, rfl, _, _, rfl, ⟨_, rfl, rq0.mono (vws_in (H.length + 3) L0 L1 (by simp only [go_sem, binC]; try omega) (by omega) (by simp only [go_sem, binC]) (by simp only [go_sem, binC]))⟩, ⟨_, rfl, rq1.mono (vws_in (H.length + 3) (L0 ++ L1) [] (by simp only [go_sem, binC]; try omega) (by omega) (by simp only [go_sem, binC]) (by simp only [go_sem, binC]))⟩⟩
theorem toStepsS_all {F : Nat → Option IFn} (h1 : F 119 = some c_toStep) (h2 : F 69 = some (toCall .k 119 8 85 96 [(.int .i64 0), (.int .i64 0), (.int .i64 0), (.int .i64 0), (.int .i64 0), (.int .i64 0), (.slice none 0 0), (.slice none 0 0)] true)) (gv : ToOkS F Co.val true .q 144) : ∀ n, ToOkS F (Co.step n) true .k 119 ∧ ToOkS F (Co.sl (Co.step n)) false .k 69 := by
  intro n
  induction n with
  | zero =>
    have z : ToOkS F (Co.step 0) true .k 119 := by
      rintro H v a ⟨cs, _, h⟩
      exact h.elim
    exact ⟨z, toCallS_ok h2 rfl (by omega) z (step_w 0) (va_t (Co.step 0))⟩
  | succ n ih =>
    have z : ToOkS F (Co.step (n + 1)) true .k 119 := toStep_okS h1 gv ih.2 ih.2
    exact ⟨z, toCallS_ok h2 rfl (by omega) z (step_w (n + 1)) (va_t (Co.step (n + 1)))⟩
theorem szStepsT_all {F : Nat → Option IFn} (h1 : F 117 = some c_szStep) (h2 : F 67 = some (szNest 117 8 true)) : ∀ n, SzT F (Co.step n) true 117 (tT n) ∧ SzT F (Co.sl (Co.step n)) false 67 (tS n) := by
  intro n
  induction n with
  | zero =>
    have z : SzT F (Co.step 0) true 117 (tT 0) := by
      rintro H v a left ⟨cs, _, h⟩
      exact h.elim
    exact ⟨z, szNestT_ok h2 z (step_w 0) (va_t (Co.step 0))⟩
  | succ n ih =>
    have z : SzT F (Co.step (n + 1)) true 117 (tT (n + 1)) := szStepT_ok h1 ih.2 ih.2
    exact ⟨z, szNestT_ok h2 z (step_w (n + 1)) (va_t (Co.step (n + 1)))⟩
theorem markProg_ok {n : Nat} {F : Nat → Option IFn} {f : Nat} (hf : F f = some c_markProg) (g0 : MkOk F (Co.sl Co.p2) false 72 nLab) (s0 : CoSim (Co.sl Co.p2) nLab) (g1 : MkOk F (Co.sl (Co.step n)) false 73 (cS n)) (s1 : CoSim (Co.sl (Co.step n)) (cS n)) : MkOk F (Co.prog n) true f (fun a => nLab a.1 + (cS n) a.2) := by
  rintro H v ⟨a0, a1⟩ lo hi lo0 k ⟨cs, hc, _, _, rfl, ⟨v0, rfl, r0⟩, ⟨v1, rfl, r1⟩⟩ hhi hlo hk hkn
  simp only [go_sem, binC, Option.some.injEq] at hc hkn
  subst hc
  have q0 := r0
  have q1 := r1
  obtain ⟨_, x0⟩ := r0.shape
  subst x0
  obtain ⟨_, x1⟩ := r1.shape
  subst x1
  suffices h : ∃ w H', NC F lo0 f [_, .int .i64 k] H w H' ∧ (w = .int .i64 (k + (((nLab a0 + (cS n) a1 : Nat)) : Int)) ∧ FrI lo hi H H') by
    obtain ⟨w, H', h1, rfl, h2⟩ := h
    exact ⟨H', h1, h2⟩
  refine NC.mk hf rfl ?_
  refine seq_reg ?_
  simp only [go_sem, binC]
  refine wpc_gen fun Hb hHb => ?_
  have hab : Ag 0 H.length H Hb := hHb ▸ ag_app _ _
  have hlb : Hb.length = H.length + 1 := by rw [hHb, List.length_append]; rfl
  have hbx := fun o n => hHb ▸ gc_new0 H _ o n
  simp only [go_sem, binC] at hbx
  have hsb : Sub (vwb lo hi H) (vwb lo hi Hb) := vwb_same fun b _ h => hab b (Nat.zero_le _) (by omega)
  have fr : FrI lo hi H Hb := hHb ▸ FrI.grow _ _
  have fr0 : FrI lo hi Hb Hb := FrI.refl _ _ _
  refine seq_reg ?_
  simp only [go_sem, binC, hbx]
  obtain ⟨d0, x0, y0⟩ := s0 _ _ _ _ a0 fr0.vsim (CsSim.refl _) (show (Co.sl Co.p2).rd (vwb lo hi Hb) _ a0 from ⟨_, rfl, r0.mono hsb⟩)
  obtain ⟨H0, m0, f0⟩ := g0 Hb _ d0 lo hi lo0 (k) ⟨_, (by simp only [go_sem, binC]; rfl), x0⟩ (Nat.le_trans (by omega) fr0.1) hlo (by omega) (by rw [y0]; omega)
  rw [y0] at m0
  refine op_callN (by simp only [go_sem, binC]; exact m0) ?_
  simp only [go_sem, binC]
  have fr00 := fr0.trans f0
  refine seq_reg ?_
  simp only [go_sem, binC, hbx, fun o n => (fr00.gc (b := H.length) (by omega) (.inr hhi) o n).trans (hbx o n)]
  obtain ⟨d1, x1, y1⟩ := s1 _ _ _ _ a1 fr00.vsim (CsSim.refl _) (show (Co.sl (Co.step n)).rd (vwb lo hi Hb) _ a1 from ⟨_, rfl, r1.mono hsb⟩)
  obtain ⟨H1, m1, f1⟩ := g1 H0 _ d1 lo hi lo0 (k + (nLab a0 : Nat)) ⟨_, (by simp only [go_sem, binC]; rfl), x1⟩ (Nat.le_trans (by omega) fr00.1) hlo (by omega) (by rw [y1]; omega)
  rw [y1] at m1
  refine op_callN (by simp only [go_sem, binC]; exact m1) ?_
  simp only [go_sem, binC]
  have fr11 := fr00.trans f1
  refine seq_reg ?_
  simp only [go_sem, binC]
  refine wpc_ret ⟨Or.inr rfl, _, (by simp only [go_sem, binC]; rfl), ?_, fr.trans fr11⟩
  congr 1
  omega
def nInt (l : List Int) : Nat := l.length * 1
theorem mkInts_ok {F : Nat → Option IFn} {f : Nat} (hf : F f = some c_mark1) : MkOk F (Co.sl Co.int) false f nInt := MkOk.flat AllI.int rfl (by omega) (mark1_ok hf)
theorem mkLabs_ok {F : Nat → Option IFn} {f : Nat} (hf : F f = some c_mark2) : MkOk F (Co.sl Co.p2) false f nLab := MkOk.flat (AllI.pair AllI.int AllI.int) rfl (by omega) (mark2_ok hf)
end Go.Proofs.YtbjeldblaclpnaaI
end
section
/- Numbers of a program's variables: as many, each a number. -/
set_option linter.unusedVariables false
set_option linter.unusedSimpArgs false
namespace Go.Proofs.YtbjeldblaclpnaaI
open Go Go.RowKit
end Go.Proofs.YtbjeldblaclpnaaI
end
section
/- Values of numbers; what comes of a program, as memory. -/
set_option linter.unusedVariables false
set_option linter.unusedSimpArgs false
namespace Go.Proofs.YtbjeldblaclpnaaI
open Go Go.RowKit
def c_vars : IFn := ⟨1, 18, [.t 2],
 .seq (.reg none [
    ⟨(some 1), none, .box (.t 0)⟩,
    ⟨(some 2), none, .mov (.c (.slice none 0 0))⟩])
 (.seq (.seq (.reg none [
     ⟨(some 3), none, .fad 0 (.t 1)⟩,
     ⟨(some 4), none, .load false 1 (.t 3)⟩])
  (.block 0 (.seq (.reg none [
      ⟨(some 6), none, .bin .eql (.t 4) (.c (.int .i64 2))⟩,
      ⟨(some 5), none, .mov (.t 6)⟩])
   (.cond (.t 5) (.seq (.reg none [
       ⟨(some 7), none, .fad 1 (.t 1)⟩,
       ⟨(some 8), none, .load false 1 (.t 7)⟩,
       ⟨(some 9), none, .lit 1 3 1 [(.int .i64 0)] [(0, 1, (.t 8))]⟩,
       ⟨(some 2), none, .mov (.t 9)⟩])
    (.ret)) (.seq (.seq (.reg none [
        ⟨(some 11), none, .bin .eql (.t 4) (.c (.int .i64 3))⟩,
        ⟨(some 10), none, .mov (.t 11)⟩])
     (.cond (.t 10) (.skip) (.reg none [
        ⟨(some 12), none, .bin .eql (.t 4) (.c (.int .i64 4))⟩,
        ⟨(some 10), none, .mov (.t 12)⟩])))
    (.cond (.t 10) (.seq (.reg none [
        ⟨(some 13), none, .fad 1 (.t 1)⟩,
        ⟨(some 14), none, .load false 1 (.t 13)⟩,
        ⟨(some 15), none, .fad 2 (.t 1)⟩,
        ⟨(some 16), none, .load false 1 (.t 15)⟩,
        ⟨(some 17), none, .lit 1 3 2 [(.int .i64 0), (.int .i64 0)] [(0, 1, (.t 14)), (1, 1, (.t 16))]⟩,
        ⟨(some 2), none, .mov (.t 17)⟩])
     (.ret)) (.skip)))))))
 (.seq (.reg none [
    ⟨(some 2), none, .mov (.c (.slice none 0 0))⟩])
 (.ret)))⟩
def varsL (v : Int × Int × Int) : List Int := if v.1 = 2 then [v.2.1] else if v.1 = 3 ∨ v.1 = 4 then [v.2.1, v.2.2] else []
def ints (l : List Int) : List Value := l.map (fun n => .int .i64 n)
theorem ints_sl {H : Heap} {b o es et lo : Nat} {ap so : Bool} {xs : List Nat} {l : List Int} (h : H[b]? = some ⟨ints l, es, et, ap, so⟩) (hlo : lo ≤ b) (hb : b ∉ xs) (hr : ∀ x ∈ l, RgI x) (ho : o ≤ l.length) (hl : l.length ≤ 9223372036854775807) : SlR Co.int (vwl lo xs H) (.slice (some ⟨b, o, none⟩) (l.drop o).length (l.drop o).length) (l.drop o) := by
  refine ⟨by rw [List.length_drop]; omega, _, rfl, .inr ⟨b, o, rfl, fun i hi => ⟨[.int .i64 (l.drop o)[i]], ?_, rfl, hr _ (List.mem_of_mem_drop (List.getElem_mem hi))⟩⟩⟩
  rw [List.length_drop] at hi
  unfold rng vwl
  rw [if_pos ⟨hlo, hb⟩, h]
  simp only [Option.map_some, Co.int, ints, List.length_map]
  rw [if_pos (by omega)]
  have h1 : ((l.map (fun n => Value.int .i64 n)).drop (o + i * 1)).head? = some (.int .i64 (l.drop o)[i]) := by
    rw [List.head?_drop, List.getElem?_map, List.getElem?_eq_getElem (by omega), List.getElem_drop]
    simp
  cases hd : (l.map (fun n => Value.int .i64 n)).drop (o + i * 1) with
  | nil => rw [hd] at h1; cases h1
  | cons c r => rw [hd] at h1; simp only [List.head?_cons, Option.some.injEq] at h1; subst h1; rfl
theorem ints_sl0 {H : Heap} {b es et : Nat} {ap so : Bool} {l : List Int} (h : H[b]? = some ⟨ints l, es, et, ap, so⟩) (hr : ∀ x ∈ l, RgI x) (hl : l.length ≤ 9223372036854775807) : SlR Co.int (vw 0 H) (sli b 0 l.length) l :=
  (ints_sl (lo := 0) (xs := []) (o := 0) h (Nat.zero_le _) (by simp) hr (Nat.zero_le _) hl).mono (vwl0 _ _ _)
theorem vars_okV {F : Nat → Option IFn} {f : Nat} (hf : F f = some c_vars) : ∀ (H : Heap) (k a b : Int), RgI a → RgI b → ∃ w L, KC F f [.agg #[.int .i64 k, .int .i64 a, .int .i64 b]] H w (H ++ L) ∧ SlR Co.int (vwl H.length [] (H ++ L)) w (varsL (k, a, b)) := by
  intro H k a b ha hb
  suffices h : ∃ w H', KC F f [.agg #[.int .i64 k, .int .i64 a, .int .i64 b]] H w H' ∧ (∃ L, H' = H ++ L ∧ SlR Co.int (vwl H.length [] H') w (varsL (k, a, b))) by
    obtain ⟨w, _, h1, L, rfl, h2⟩ := h
    exact ⟨w, L, h1, h2⟩
  refine KC.mk hf rfl ?_
  refine seq_reg ?_
  simp only [go_sem, binC]
  refine seq_assoc (seq_reg ?_)
  simp only [go_sem, binC]
  refine seq_block (seq_reg ?_)
  simp only [go_sem, binC]
  by_cases h2 : k = 2
  · simp only [go_sem, binC, beq_t h2]
    refine wpc_cond (t := true) rfl ?_
    simp only [go_sem, binC]
    refine seq_reg ?_
    simp only [go_sem, binC]
    refine wpc_ret ?_
    simp only [go_sem, binC, out_r, thenX_r]
    refine ⟨Or.inr rfl, _, (by (simp only [go_sem, binC]) <;> rfl), _, rfl, ?_⟩
    have h1 : varsL (k, a, b) = [a] := by simp [varsL, h2]
    rw [h1]
    exact ints_sl (o := 0) (lo := H.length) (xs := []) (l := [a]) (get_new _ _ 1) (by omega) (by simp) (by intro x hx; simp at hx; subst hx; exact ha) (Nat.zero_le _) (by simp)
  simp only [go_sem, binC, beq_f h2]
  refine wpc_cond (t := false) rfl ?_
  simp only [go_sem, binC]
  refine seq_assoc (seq_reg ?_)
  simp only [go_sem, binC]
  have two : ∀ (e : Env) (K : X → Env → Heap → Prop), True := fun _ _ => trivial
  by_cases h3 : k = 3
  · simp only [go_sem, binC, beq_t h3]
    refine seq_cond (t := true) rfl ?_
    simp only [go_sem, binC]
    refine seq_skip (wpc_cond (t := true) rfl ?_)
    simp only [go_sem, binC]
    refine seq_reg ?_
    simp only [go_sem, binC]
    refine wpc_ret ?_
    simp only [go_sem, binC, out_r, thenX_r]
    refine ⟨Or.inr rfl, _, (by (simp only [go_sem, binC]) <;> rfl), _, rfl, ?_⟩
    have h1 : varsL (k, a, b) = [a, b] := by simp [varsL, h3]
    rw [h1]
    exact ints_sl (o := 0) (lo := H.length) (xs := []) (l := [a, b]) (get_new _ _ 1) (by omega) (by simp) (by intro x hx; simp at hx; rcases hx with rfl | rfl; exact ha; exact hb) (Nat.zero_le _) (by simp)
  simp only [go_sem, binC, beq_f h3]
  refine seq_cond (t := false) rfl ?_
  simp only [go_sem, binC]
  by_cases h4 : k = 4
  · refine seq_reg ?_
    simp only [go_sem, binC, beq_t h4]
    refine wpc_cond (t := true) rfl ?_
    simp only [go_sem, binC]
    refine seq_reg ?_
    simp only [go_sem, binC]
    refine wpc_ret ?_
    simp only [go_sem, binC, out_r, thenX_r]
    refine ⟨Or.inr rfl, _, (by (simp only [go_sem, binC]) <;> rfl), _, rfl, ?_⟩
    have h1 : varsL (k, a, b) = [a, b] := by simp [varsL, h4]
    rw [h1]
    exact ints_sl (o := 0) (lo := H.length) (xs := []) (l := [a, b]) (get_new _ _ 1) (by omega) (by simp) (by intro x hx; simp at hx; rcases hx with rfl | rfl; exact ha; exact hb) (Nat.zero_le _) (by simp)
  refine seq_reg ?_
  simp only [go_sem, binC, beq_f h4]
  refine wpc_cond (t := false) rfl ?_
  simp only [go_sem, binC]
  refine wpc_skip ?_
  simp only [go_sem, binC, out_n, thenX_n]
  refine seq_reg ?_
  simp only [go_sem, binC]
  refine wpc_ret ⟨Or.inr rfl, _, (by (simp only [go_sem, binC]) <;> rfl), _, rfl, ?_⟩
  have h1 : varsL (k, a, b) = [] := by simp [varsL, h2, h3, h4]
  rw [h1]
  exact ⟨by simp, none, rfl, .inl rfl⟩
end Go.Proofs.YtbjeldblaclpnaaI
end
section
/- What comes of a program, kept in memory, and one variable set. -/
set_option linter.unusedVariables false
set_option linter.unusedSimpArgs false
namespace Go.Proofs.YtbjeldblaclpnaaI
open Go Go.RowKit
def blkOf : Value → List Nat
  | .slice (some a) _ _ => [a.block]
  | _ => []
end Go.Proofs.YtbjeldblaclpnaaI
end
section
/- Steps are done. -/
set_option linter.unusedVariables false
set_option linter.unusedSimpArgs false
namespace Go.Proofs.YtbjeldblaclpnaaI
open Go Go.RowKit
theorem inB_iff' {a l h : Int} : inB a l h = true ↔ l ≤ a ∧ a ≤ h := by simp [inB]
theorem varsL_in {k : Nat} {v : Int × Int × Int} (hv : valB k v = true) : ∀ i ∈ varsL v, 0 ≤ i ∧ i < k := by
  obtain ⟨a, b, c⟩ := v
  unfold valB at hv
  simp only [varsL]
  intro i hi
  split at hv
  · rename_i q; simp only at q; subst q; simp at hi
  · split at hv
    · rename_i q; simp only at q; subst q
      simp only [if_true, List.mem_singleton, Bool.and_eq_true, varB, inB_iff'] at hi hv
      subst hi; omega
    · split at hv
      · rename_i q1 q2 q3
        simp only at q1 q2 q3
        rw [if_neg q2, if_pos q3] at hi
        simp only [Bool.and_eq_true, varB, inB_iff'] at hv
        simp only [List.mem_cons, List.not_mem_nil, or_false] at hi
        rcases hi with rfl | rfl <;> omega
      · cases hv
end Go.Proofs.YtbjeldblaclpnaaI
end
section
/- What comes of a program. -/
set_option linter.unusedVariables false
set_option linter.unusedSimpArgs false
namespace Go.Proofs.YtbjeldblaclpnaaI
open Go Go.RowKit
end Go.Proofs.YtbjeldblaclpnaaI
end
section
/- Rules for walks, and lists compared. -/
set_option linter.unusedVariables false
set_option linter.unusedSimpArgs false
namespace Go.Proofs.YtbjeldblaclpnaaI
open Go Go.RowKit
end Go.Proofs.YtbjeldblaclpnaaI
end
section
/- Lists that are made by appending, from nil on: their cells, and what their elements are. -/
set_option linter.unusedVariables false
set_option linter.unusedSimpArgs false
namespace Go.Proofs.YtbjeldblaclpnaaI
open Go Go.RowKit
/-- A list in a block of its own (or nil), its elements read in V. -/
def LsV {α : Type} (V : Vw) (A : Co α) (es et lo : Nat) (H : Heap) (v : Value) (l : List α) : Prop := (v = nilS ∧ l = []) ∨ ∃ b so cs, lo ≤ b ∧ v = sli b 0 l.length ∧ l ≠ [] ∧ l.length ≤ 1048576 ∧ H[b]? = some ⟨cs, es, et, true, so⟩ ∧ cs.length = l.length * es ∧ ∀ i (h : i < l.length), A.rd V ((cs.drop (i * es)).take es) l[i]
section
variable {α : Type} {V : Vw} {A : Co α} {es et lo : Nat} {H : Heap} {v : Value} {l : List α}
theorem LsV.nil : LsV V A es et lo H nilS ([] : List α) := .inl ⟨rfl, rfl⟩
theorem LsV.one (h : LsV V A es et lo H v l) : Go.Proofs.YtbjeldblaclpnaaI.one v = true := by
  rcases h with ⟨rfl, _⟩ | ⟨b, so, cs, _, rfl, _⟩ <;> rfl
theorem LsV.shape (h : LsV V A es et lo H v l) : ∃ a, v = .slice a l.length l.length := by
  rcases h with ⟨rfl, rfl⟩ | ⟨b, so, cs, _, rfl, _⟩
  · exact ⟨none, rfl⟩
  · exact ⟨_, rfl⟩
theorem LsV.keep {H' : Heap} {lo' : Nat} {xs : List Nat} (h : LsV V A es et lo H v l) (hl : lo' ≤ lo) (hx : AgX xs H H') (hn : ∀ b, b ∈ blkOf v → b ∉ xs) : LsV V A es et lo' H' v l := by
  rcases h with h | ⟨b, so, cs, h1, rfl, h3, h4, h5, h6⟩
  · exact .inl h
  · exact .inr ⟨b, so, cs, by omega, rfl, h3, h4, hx.get h5 (hn b (by simp [blkOf, sli])), h6⟩
theorem LsV.mono {V' : Vw} (h : LsV V A es et lo H v l) (hs : Sub V V') : LsV V' A es et lo H v l := by
  rcases h with h | ⟨b, so, cs, h1, rfl, h3, h4, h5, h6, h7⟩
  · exact .inl h
  · exact .inr ⟨b, so, cs, h1, rfl, h3, h4, h5, h6, fun i hi => A.mono hs (h7 i hi)⟩
theorem LsV.blk (h : LsV V A es et lo H v l) {b : Nat} (hb : b ∈ blkOf v) : lo ≤ b ∧ b < H.length ∧ ∃ cs so, H[b]? = some ⟨cs, es, et, true, so⟩ := by
  rcases h with ⟨rfl, _⟩ | ⟨b', so, cs, h1, rfl, h3, h4, h5, h6⟩
  · simp [blkOf, nilS] at hb
  · simp only [blkOf, sli, List.mem_singleton] at hb
    subst hb
    exact ⟨h1, (List.getElem?_eq_some_iff.1 h5).1, cs, so, h5⟩
theorem LsV.nbox (h : LsV V A es et lo H v l) {b : Nat} {cs : List Value} {x y : Nat} {so : Bool} (hb : H[b]? = some ⟨cs, x, y, false, so⟩) : b ∉ blkOf v := fun hm => by
  obtain ⟨_, _, cs', so', h'⟩ := h.blk hm
  rw [hb] at h'
  simp at h'
theorem LsV.sl (h : LsV V A es et lo H v l) (hw : A.w = es) (hs : Sub V (vw 0 H)) : SlR A (vw 0 H) v l := by
  rcases h with ⟨rfl, rfl⟩ | ⟨b, so, cs, h1, rfl, h3, h4, h5, h6, h7⟩
  · exact ⟨by simp, none, rfl, .inl rfl⟩
  · refine ⟨by omega, _, rfl, .inr ⟨b, 0, rfl, fun i hi => ⟨_, ?_, A.mono hs (h7 i hi)⟩⟩⟩
    have hi2 : i * es + es ≤ l.length * es := by rw [← Nat.succ_mul]; exact Nat.mul_le_mul_right _ hi
    unfold rng vw
    rw [if_pos (Nat.zero_le _), h5, hw]
    simp only [Option.map_some, Nat.zero_add]
    rw [if_pos (by omega)]
theorem LsV.at (h : LsV V A es et lo H v l) {i : Nat} (hi : i < l.length) : ∃ b cs, v = .slice (some ⟨b, 0, none⟩) l.length l.length ∧ getCells H b (i * es) es = some cs ∧ A.rd V cs l[i] := by
  rcases h with ⟨rfl, rfl⟩ | ⟨b, so, cs, h1, rfl, h3, h4, h5, h6, h7⟩
  · simp at hi
  · have hi2 : i * es + es ≤ l.length * es := by rw [← Nat.succ_mul]; exact Nat.mul_le_mul_right _ hi
    refine ⟨b, _, rfl, ?_, h7 i hi⟩
    unfold getCells
    rw [h5]
    simp only
    rw [if_pos (by omega)]
/-- The blocks that the list may lie in behind an appending. -/
def BlkN (H : Heap) (v w : Value) : Prop := ∀ b, b ∈ blkOf w → b ∈ blkOf v ∨ H.length ≤ b
theorem cells_of {cs : List Value} {m b o : Nat} {Hx : Heap} (h : getCells Hx b o m = some cs) : cs.length = m := by
  unfold getCells at h
  split at h
  · split at h
    · simp only [Option.some.injEq] at h
      subst h
      rw [List.length_take, List.length_drop]
      omega
    · cases h
  · cases h
theorem take_es {cs ys : List Value} {n i es : Nat} (h : cs.length = n * es) (hi : i < n) : ((cs ++ ys).drop (i * es)).take es = (cs.drop (i * es)).take es := by
  have hi2 : i * es + es ≤ n * es := by rw [← Nat.succ_mul]; exact Nat.mul_le_mul_right _ hi
  rw [List.drop_append_of_le_length (by omega), List.take_append_of_le_length (by rw [List.length_drop]; omega)]
theorem drop_es {cs ys : List Value} {n i es : Nat} (h : cs.length = n * es) : ((cs ++ ys).drop ((n + i) * es)).take es = (ys.drop (i * es)).take es := by
  rw [List.drop_append, List.drop_of_length_le (by rw [h]; exact Nat.mul_le_mul_right _ (by omega)), List.nil_append, h, Nat.add_mul, Nat.add_sub_cancel_left]
/-- A list is appended whose cells are at hand. -/
theorem op_app_lsC {F : Nat → Option IFn} {lo0 bytes m c2 b2 o2 : Nat} {x y : Opd} {e : Env} {ys : List Value} {l2 : List α} {K : Value → Heap → Prop} (hv : LsV V A es et lo H v l) (hx : x.ev e = v) (hy : y.ev e = .slice (some ⟨b2, o2, none⟩) l2.length c2) (hne : l2 ≠ []) (hg : getCells H b2 o2 (l2.length * es) = some ys)
    (hr : ∀ i (h : i < l2.length), A.rd V ((ys.drop (i * es)).take es) l2[i]) (hlo0 : lo0 ≤ lo) (hlo : lo ≤ H.length) (hl : l.length + l2.length ≤ 1048576) (hb : bytes ≤ 1048576)
    (k : ∀ H' w', AgX (blkOf v) H H' → CA H H' → BlkN H v w' → LsV V A es et lo H' w' (l ++ l2) → K w' H') : wpOp F lo0 (.app es et bytes false x y) e H K := by
  have hm : l2.length ≠ 0 := fun h => hne (List.eq_nil_of_length_eq_zero h)
  have hyl := cells_of hg
  have hbytes : (l.length + l2.length) * bytes ≤ 1048576 * 1048576 := Nat.mul_le_mul hl hb
  have hne2 : l ++ l2 ≠ [] := fun h => hne (List.append_eq_nil_iff.1 h).2
  rcases hv with ⟨rfl, rfl⟩ | ⟨b, so, cs, h1, rfl, h3, h4, h5, h6, h7⟩
  · simp only [List.length_nil, Nat.zero_add] at hbytes hl
    refine op_app_nil _ _ _ _ _ (n := 0) (c := 0) (a := ⟨b2, o2, none⟩) (m := l2.length) (c' := c2) (ys := ys) hx hy hm hg (by omega) (by omega) ?_
    refine k _ _ (AgX.app _ _ _) (CA.app _ _) (fun b hb => .inr ?_) (.inr ⟨H.length, true, ys, by omega, rfl, hne, by simpa using hl, get_new0 _ _, hyl, hr⟩)
    simp only [blkOf, sli, List.mem_singleton] at hb
    omega
  · have hbl := (List.getElem?_eq_some_iff.1 h5).1
    refine op_app _ _ _ _ _ (b := ⟨b, 0, none⟩) (n := l.length) (c := l.length) (a := ⟨b2, o2, none⟩) (m := l2.length) (c' := c2) (ys := ys) (kb := ⟨cs, es, et, true, so⟩) hx hy hm hg h5 ⟨by show lo0 ≤ b; omega, rfl, rfl, rfl, rfl, h6, by omega, by omega⟩ ?_
    simp only [Bool.false_eq_true, if_false, Bool.or_false]
    have hca : CA H (H.set b ⟨cs, es, et, false, so && l.length == 0⟩ ++ ([⟨cs ++ ys, es, et, true, so && l.length == 0⟩] : Heap)) := by
      intro b' k' hk'
      by_cases hbb : b' = b
      · subst hbb
        rw [h5] at hk'
        cases hk'
        exact ⟨⟨cs, es, et, false, so && l.length == 0⟩, by rw [List.getElem?_append_left (by rw [List.length_set]; exact hbl), List.getElem?_set_self hbl], rfl⟩
      · exact ⟨k', by rw [List.getElem?_append_left (by rw [List.length_set]; exact (List.getElem?_eq_some_iff.1 hk').1), List.getElem?_set_ne (fun h => hbb h.symm)]; exact hk', rfl⟩
    have hset : ∀ kb : Blk, (H.set b kb).length = H.length := fun kb => List.length_set
    refine k _ _ ((AgX.set H b _).trans (AgX.app [] _ _) (fun b' h _ => by simpa [blkOf, sli] using h) (fun b' h _ => by cases h)) hca (fun b' hb' => .inr ?_) (.inr ⟨H.length, so && l.length == 0, cs ++ ys, by omega, by rw [List.length_append], hne2, by rw [List.length_append]; exact hl, ?_, by rw [List.length_append, List.length_append, h6, hyl, Nat.add_mul], fun i hi => ?_⟩)
    · simp only [blkOf, sli, List.mem_singleton] at hb'
      omega
    · conv => lhs; rw [← hset ⟨cs, es, et, false, so && l.length == 0⟩]
      exact get_new0 _ _
    · rw [List.length_append] at hi
      by_cases hlt : i < l.length
      · rw [List.getElem_append_left hlt, take_es h6 hlt]
        exact h7 i hlt
      · have hir : l.length + (i - l.length) = i := by omega
        rw [List.getElem_append_right (by omega)]
        have := drop_es (cs := cs) (ys := ys) (i := i - l.length) h6
        rw [hir] at this
        rw [this]
        exact hr (i - l.length) (by omega)
/-- One element is appended, out of a literal. -/
theorem op_app_ls1 {F : Nat → Option IFn} {lo0 bytes : Nat} {x y : Opd} {e : Env} {ys : List Value} {a : α} {K : Value → Heap → Prop} (hv : LsV V A es et lo H v l) (hx : x.ev e = v) (hy : y.ev e = sli H.length 0 1) (hw : A.w = es) (hr : A.rd V ys a) (hlo0 : lo0 ≤ lo) (hlo : lo ≤ H.length) (hl : l.length < 1048576) (hb : bytes ≤ 1048576)
    (k : ∀ H' w', AgX (blkOf v) H H' → CA H H' → BlkN H v w' → LsV V A es et lo H' w' (l ++ [a]) → K w' H') : wpOp F lo0 (.app es et bytes false x y) e (H ++ [⟨ys, es, et, true, true⟩]) K := by
  have hyl : ys.length = es := by rw [A.len hr, hw]
  have hv' : LsV V A es et lo (H ++ [⟨ys, es, et, true, true⟩]) v l := hv.keep (Nat.le_refl _) (AgX.app [] H _) (fun _ _ => by simp)
  refine op_app_lsC (m := 1) (l2 := [a]) (b2 := H.length) (o2 := 0) (c2 := 1) (ys := ys) hv' hx hy (by simp) ?_ (fun i hi => ?_) hlo0 (by rw [List.length_append]; omega) (by simp; omega) hb fun H' w' h1 hc h2 h3 => k H' w' ?_ ((CA.app _ _).trans hc) ?_ h3
  · rw [gc_new0, List.getElem?_cons_zero, inBlk_some, List.length_singleton, Nat.one_mul, Nat.zero_add, if_pos (by omega), List.drop_zero, List.take_of_length_le (by omega)]
  · obtain rfl : i = 0 := by simpa using hi
    rw [Nat.zero_mul, List.drop_zero, List.take_of_length_le (by omega)]
    exact hr
  · exact (AgX.app [] H _).trans h1 (fun _ h _ => by cases h) (fun _ h _ => h)
  · intro b hb
    rcases h2 b hb with h | h
    · exact .inl h
    · exact .inr (by rw [List.length_append] at h; omega)
/-- A list is appended that was made so, too. -/
theorem op_app_lsN {F : Nat → Option IFn} {lo0 lo2 bytes : Nat} {x y : Opd} {e : Env} {v2 : Value} {l2 : List α} {K : Value → Heap → Prop} (hv : LsV V A es et lo H v l) (hx : x.ev e = v) (hy : y.ev e = v2) (hv2 : LsV V A es et lo2 H v2 l2) (hlo0 : lo0 ≤ lo) (hlo : lo ≤ H.length) (hl : l.length + l2.length ≤ 1048576) (hb : bytes ≤ 1048576)
    (k : ∀ H' w', AgX (blkOf v) H H' → CA H H' → BlkN H v w' → LsV V A es et lo H' w' (l ++ l2) → K w' H') : wpOp F lo0 (.app es et bytes false x y) e H K := by
  rcases hv2 with ⟨rfl, rfl⟩ | ⟨b, so, cs, h1, rfl, h3, h4, h5, h6, h7⟩
  · obtain ⟨a, ha⟩ := hv.shape
    refine op_app_zero _ _ _ _ _ (hx.trans ha) hy ?_
    rw [← ha]
    exact k H v (AgX.refl _ _) (CA.refl _) (fun b hb => .inl hb) (by rw [List.append_nil]; exact hv)
  · refine op_app_lsC (m := l2.length) hv hx hy h3 ?_ h7 hlo0 hlo hl hb k
    unfold getCells
    rw [h5]
    simp only [Nat.zero_add]
    rw [if_pos (by omega), List.drop_zero, List.take_of_length_le (by omega)]
end
end Go.Proofs.YtbjeldblaclpnaaI
end
