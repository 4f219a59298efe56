/- Texts of this proof, merged: M8. -/
import Derived.Test.YtmakdcbpohlacaaXk5
import Derived.Test.YtmakdcbpohlacaaXk6
import Derived.Test.YtmakdcbpohlacaaXk7
section
/- Texts of this proof, merged: D12, D13, D14, D15, D17, D18, D19, D20, D21, I17, Q5n, Q5r. -/
section
/- The first step that is not fine (the reference's). -/
set_option linter.unusedVariables false
set_option linter.unusedSimpArgs false
namespace Go.Proofs.YtmakdcbpohlacaaI
open Go Go.RowKit
theorem prog_rd {n : Nat} {V : Vw} {lv sv : Value} {ls : List (Int × Int)} {l : List (TStep n)} (h1 : SlR Co.p2 V lv ls) (h2 : SlR (Co.step n) V sv l) : Rd (Co.prog n) true V (.agg #[lv, sv]) (ls, l) := ⟨_, rfl, [lv], [sv], rfl, ⟨lv, rfl, h1⟩, ⟨sv, rfl, h2⟩⟩
def TypeAtOk (F : Nat → Option IFn) (f : Nat) : Prop := ∀ (H : Heap) (n : Nat) (lv sv : Value) (ls : List (Int × Int)) (l : List (TStep n)), SlR Co.p2 (vw 0 H) lv ls → SlR (Co.step n) (vw 0 H) sv l → (Co.prog n).sm (ls, l) → progB n (ls, l) = true →
  ∃ b so out H', KC F f [.agg #[lv, sv]] H (sli b 0 out.length) H' ∧ (AgX [] H H' ∧ OwnL Co.p2 2 59 H.length [] H' b so out ∧ out.length = (allL n l).length ∧ out.all labB = true ∧ out = atL n ls (7, 7) l)
theorem sTypeAt_ok {F : Nat → Option IFn} {f : Nat} (hf : F f = some c_sTypeAt) (gp : ProgOk F 28) (ga : ∀ H, QC F 120 [] H (.agg #[.int .i64 7, .int .i64 7])) (gat : ∀ n, AtOk F 119 n) : TypeAtOk F f := by
  intro H n lv sv ls l hlv hsv hsm hpb
  have olv : one lv = true := by obtain ⟨_, a, rfl, _⟩ := hlv; rfl
  have osv : one sv = true := by obtain ⟨_, a, rfl, _⟩ := hsv; rfl
  have hcnt : (allL n l).length ≤ 8 := progB_cnt hpb hsm
  suffices h : ∃ v' H', KC F f [.agg #[lv, sv]] H v' H' ∧ (∃ b so out, v' = sli b 0 out.length ∧ (AgX [] H H' ∧ OwnL Co.p2 2 59 H.length [] H' b so out ∧ out.length = (allL n l).length ∧ out.all labB = true ∧ out = atL n ls (7, 7) l)) by
    obtain ⟨v', H', h1, b, so, out, rfl, h2⟩ := h
    exact ⟨b, so, out, H', h1, h2⟩
  refine KC.mk hf rfl ?_
  refine seq_reg ?_
  simp only [go_sem, binC, olv, osv]
  refine seq_assoc (seq_reg ?_)
  simp only [go_sem, binC, inBlk_some]
  refine op_callQ (by simp only [go_sem, binC]; exact gp _ n _ (ls, l) (prog_rd (hlv.mono (vw_app 0 H _)) (hsv.mono (vw_app 0 H _))) hsm) ?_
  simp only [go_sem, binC, hpb]
  refine seq_cond (t := false) rfl ?_
  simp only [go_sem, binC]
  refine seq_skip (seq_regD ?_)
  simp only [go_sem, binC, inBlk_some]
  refine op_callQ (by simp only [go_sem, binC]; exact ga _) ?_
  simp only [go_sem, binC]
  have hal : ([] : List (Int × Int)).all labB = true := rfl
  have hown : OwnL Co.p2 2 59 H.length [] (H ++ [⟨[lv, sv], 0, 0, false, true⟩, ⟨[], 2, 59, true, true⟩]) (H.length + 1) true ([] : List (Int × Int)) := ⟨by omega, by simp, [], get_new _ _ 1, by simp, fun i hi => by simp at hi⟩
  obtain ⟨b4, so4, out4, H4, k4, x4, c4, bb4, o4, n4, a4, q4⟩ := gat n _ H.length lv sv sv ls l (7, 7) _ _ [] osv (hlv.mono (vw_app 0 H _)) (hsv.mono (vw_app 0 H _)) hown (fun s hs => by
    have := progB_sh hpb s hs
    simp only [shB, Bool.and_eq_true] at this
    exact this.1) rfl hal (by simp; omega)
  refine op_callN (by simp only [go_sem, binC]; exact k4) ?_
  simp only [go_sem, binC]
  refine wpc_ret ⟨Or.inr rfl, _, (by (simp only [go_sem, binC]) <;> rfl), b4, so4, out4, rfl, (AgX.app [] H _).trans x4 (fun _ h _ => h) (fun b' h1 h2 => by simp only [List.mem_singleton] at h1; omega), o4, by simpa using n4, a4, by simpa using q4⟩
theorem OwnG.at {α : Type} {A : Co α} {es et lo vl : Nat} {xs : List Nat} {H : Heap} {b : Nat} {so : Bool} {l : List α} (h : OwnG A es et lo vl xs H b so l) {i : Nat} (hi : i < l.length) : ∃ cs, getCells H b (i * es) es = some cs ∧ A.rd (vwl vl (b :: xs) H) cs l[i] := by
  obtain ⟨h3, h4, cs, h5, h6, h7⟩ := h
  have hi2 : i * es + es ≤ l.length * es := by rw [← Nat.succ_mul]; exact Nat.mul_le_mul_right _ hi
  refine ⟨_, ?_, h7 i hi⟩
  unfold getCells
  rw [h5]
  simp only
  rw [if_pos (by omega)]
def WhyOk (F : Nat → Option IFn) (f : Nat) : Prop := ∀ (H : Heap) (n : Nat) (lv sv : Value) (ls : List (Int × Int)) (l : List (TStep n)), SlR Co.p2 (vw 0 H) lv ls → SlR (Co.step n) (vw 0 H) sv l → (Co.prog n).sm (ls, l) → ∃ (i : Int) (t : Bool), QC F f [.agg #[lv, sv]] H (.tuple #[.int .i64 i, .bool t])
def why0 (ls : List (Int × Int)) : List Shal → List (Int × Int) → Nat → Int × Bool
  | s :: ss, h :: hs, i => if fineB ls s h = true then why0 ls ss hs (i + 1) else (i, true)
  | _, _, _ => (0, false)
def whyV (n : Nat) (p : TProg n) : Int × Bool := if progB n p = true then why0 p.1 (allL n p.2) (atL n p.1 (7, 7) p.2) 0 else (0, false)
theorem whyV_no {n : Nat} {ls : List (Int × Int)} {l : List (TStep n)} (h : progB n (ls, l) = false) : whyV n (ls, l) = (0, false) := if_neg (by rw [h]; simp)
theorem whyV_yes {n : Nat} {ls : List (Int × Int)} {l : List (TStep n)} (h : progB n (ls, l) = true) : whyV n (ls, l) = why0 ls (allL n l) (atL n ls (7, 7) l) 0 := if_pos h
def WhyV (F : Nat → Option IFn) (f : Nat) : Prop := ∀ (H : Heap) (n : Nat) (lv sv : Value) (ls : List (Int × Int)) (l : List (TStep n)), SlR Co.p2 (vw 0 H) lv ls → SlR (Co.step n) (vw 0 H) sv l → (Co.prog n).sm (ls, l) → QC F f [.agg #[lv, sv]] H (.tuple #[.int .i64 (whyV n (ls, l)).1, .bool (whyV n (ls, l)).2])
theorem sWhyV_ok {F : Nat → Option IFn} {f : Nat} (hf : F f = some c_sWhy) (gp : ProgOk F 28) (gall : ∀ n, AllOk F 116 n) (gta : TypeAtOk F 117) (gfi : FineOk F 118) : WhyV F f := by
  intro H n lv sv ls l hlv hsv hsm
  have olv : one lv = true := by obtain ⟨_, a, rfl, _⟩ := hlv; rfl
  have osv : one sv = true := by obtain ⟨_, a, rfl, _⟩ := hsv; rfl
  refine QC.mk hf rfl ?_
  refine seq_reg ?_
  simp only [go_sem, binC, olv, osv]
  refine seq_assoc (seq_reg ?_)
  simp only [go_sem, binC, inBlk_some]
  refine op_callQ (by simp only [go_sem, binC]; exact gp _ n _ (ls, l) (prog_rd (hlv.mono (vw_app 0 H _)) (hsv.mono (vw_app 0 H _))) hsm) ?_
  simp only [go_sem, binC]
  cases hpb : progB n (ls, l) with
  | false =>
    refine seq_cond (t := true) rfl ?_
    simp only [go_sem, binC]
    refine seq_assoc (seq_reg ?_)
    simp only [go_sem, binC]
    refine seq_ret ⟨Or.inr rfl, .tuple #[.int .i64 0, .bool false], rfl, by rw [whyV_no hpb], rfl⟩
  | true =>
    have hcnt : (allL n l).length ≤ 8 := progB_cnt hpb hsm
    have hsh := progB_sh hpb
    have hlab := progB_lab hpb
    refine seq_cond (t := false) rfl ?_
    simp only [go_sem, binC]
    refine wpc_gen fun H1 hH1 => ?_
    have ht1 : AgX [] H H1 := hH1 ▸ AgX.app [] _ _
    have hp1 : H1[H.length]? = some ⟨[lv, sv], 0, 0, false, true⟩ := hH1 ▸ get_new0 _ _
    clear hH1
    refine seq_skip (seq_reg ?_)
    simp only [go_sem, binC, gc_of hp1, inBlk_some]
    obtain ⟨v2, H2, k2, x2, b2, so2, rfl, o2⟩ := gall n H1 sv l (hsv.mono (agx_sub ht1)) (by omega)
    refine op_callK (by simp only [go_sem, binC]; exact k2) ?_
    simp only [go_sem, binC]
    have hp2 := x2.get hp1 (by simp)
    have ht2 := ht1.tr x2
    refine seq_reg ?_
    simp only [go_sem, binC, gc_of hp2, inBlk_some]
    obtain ⟨b3, so3, out, H3, k3, x3, o3, n3, a3, q3⟩ := gta H2 n lv sv ls l (hlv.mono (agx_sub ht2)) (hsv.mono (agx_sub ht2)) hsm hpb
    refine op_callK (by simp only [go_sem, binC]; exact k3) ?_
    simp only [go_sem, binC]
    have hp3 := x3.get hp2 (by simp)
    have ht3 := ht2.tr x3
    have o2' := o2.sub x3 (xs' := []) (by simp) (fun _ _ _ _ _ => ⟨by simp, by simp⟩)
    refine seq_assoc (seq_reg ?_)
    simp only [go_sem, binC]
    refine seq_block (wpc_loop ?_)
    suffices h : ∀ (k i : Nat) (e : Env), i + k = (allL n l).length → e 1 = ptr H.length 0 → e 4 = sli b2 0 (allL n l).length → e 5 = sli b3 0 out.length → e 6 = .int .i64 i → whyV n (ls, l) = why0 ls ((allL n l).drop i) (out.drop i) i → W F H.length _ e H3 _ from
      h (allL n l).length 0 _ (by omega) (by simp only [go_sem, binC]) (by simp only [go_sem, binC]) (by simp only [go_sem, binC]) (by (simp only [go_sem, binC]) <;> rfl) (by rw [whyV_yes hpb, List.drop_zero, List.drop_zero, q3])
    intro k
    induction k with
    | zero =>
      intro i e hi e1 e4 e5 e6 hw
      refine lp_step ?_
      refine seq_assoc (seq_reg ?_)
      simp only [go_sem, binC, e4, e6]
      refine seq_cond (t := false) (by simp only [go_sem, binC]; rw [decide_eq_false (by omega)]) ?_
      simp only [go_sem, binC]
      refine seq_exit ?_
      simp only [go_sem, binC, thenX_e, out_e, thenX_n]
      refine seq_reg ?_
      simp only [go_sem, binC]
      refine wpc_ret ⟨Or.inr rfl, .tuple #[.int .i64 0, .bool false], rfl, ?_, rfl⟩
      rw [hw, List.drop_of_length_le (by omega)]
      rfl
    | succ k ih =>
      intro i e hi e1 e4 e5 e6 hw
      have hil : i < (allL n l).length := by omega
      have hio : i < out.length := by omega
      obtain ⟨cs, g1, tv, ev, hcs, otv, oev, rg⟩ := o2'.at hil
      obtain ⟨cs2, g2, x1, y1, hxy, ⟨hx1, rx⟩, ⟨hy1, ry⟩⟩ := o3.at hio
      have hshi := hsh _ (List.getElem_mem hil)
      have hoi : labB out[i] = true := List.all_eq_true.1 a3 _ (List.getElem_mem _)
      rw [List.drop_eq_getElem_cons hil, List.drop_eq_getElem_cons hio, why0] at hw
      generalize (allL n l)[i] = s at hcs rg hshi hw
      generalize out[i] = hr at hx1 hy1 rx ry hoi hw
      obtain ⟨sk, sx, ⟨sa, sbb, sc⟩, sg⟩ := s
      obtain ⟨r1, r2⟩ := hr
      subst hx1 hy1
      subst hxy
      subst hcs
      refine lp_step ?_
      refine seq_assoc (seq_reg ?_)
      simp only [go_sem, binC, e4, e6]
      refine seq_cond (t := true) (by simp only [go_sem, binC]; rw [decide_eq_true (by omega)]) ?_
      simp only [go_sem, binC]
      refine seq_skip (seq_block ?_)
      refine seq_regD ?_
      simp only [go_sem, binC, e1, e4, e5, e6, gc_of hp3, inBlk_some, g1, g2]
      refine ⟨⟨by omega, by omega⟩, ⟨by omega, by omega⟩, ?_⟩
      refine op_callQ (by simp only [go_sem, binC]; exact gfi H3 lv sv tv ev ls _ _ _ _ _ _ (r1, r2) osv otv oev rg (hlv.mono (agx_sub ht3)) hlab hshi hoi) ?_
      simp only [go_sem, binC]
      cases hfi : fineB ls (sk, sx, (sa, sbb, sc), sg) (r1, r2) with
      | false =>
        refine wpc_cond (t := true) rfl ?_
        simp only [go_sem, binC]
        refine seq_reg ?_
        simp only [go_sem, binC, e6]
        refine wpc_ret ?_
        simp only [go_sem, binC, out_r, thenX_r]
        rw [hfi, if_neg (by simp)] at hw
        exact ⟨Or.inr rfl, .tuple #[.int .i64 i, .bool true], by simp [resV, resL, res1, putE_get, notT], by rw [hw], rfl⟩
      | true =>
        refine wpc_cond (t := false) rfl ?_
        simp only [go_sem, binC]
        refine wpc_skip ?_
        simp only [go_sem, binC, out_n, thenX_n]
        refine wpc_reg ?_
        simp only [go_sem, binC, e6]
        have hw1 : IntKind.i64.wrap ((i : Int) + 1) = ((i + 1 : Nat) : Int) := by rw [wrap_id (by omega) (by omega)]; omega
        rw [hw1]
        simp only [go_sem, binC, thenX_n]
        rw [hfi, if_pos rfl] at hw
        exact ih (i + 1) _ (by omega) (by simp only [go_sem, binC, e1]) (by simp only [go_sem, binC, e4]) (by simp only [go_sem, binC, e5]) (by simp only [go_sem, binC]) hw
theorem sWhy_ok {F : Nat → Option IFn} {f : Nat} (hf : F f = some c_sWhy) (gp : ProgOk F 28) (gall : ∀ n, AllOk F 116 n) (gta : TypeAtOk F 117) (gfi : FineOk F 118) : WhyOk F f := fun H n lv sv ls l h1 h2 h3 => ⟨_, _, sWhyV_ok hf gp gall gta gfi H n lv sv ls l h1 h2 h3⟩
end Go.Proofs.YtmakdcbpohlacaaI
end
section
/- Steps copied, and steps without one. -/
set_option linter.unusedVariables false
set_option linter.unusedSimpArgs false
namespace Go.Proofs.YtmakdcbpohlacaaI
open Go Go.RowKit
def woApp : ICode := (.reg none [
        ⟨(some 65), none, .mov (.t 5)⟩,
        ⟨(some 66), none, .load true 8 (.t 7)⟩,
        ⟨(some 67), none, .lit 8 68 1 [(.int .i64 0), (.int .i64 0), (.int .i64 0), (.int .i64 0), (.int .i64 0), (.int .i64 0), (.slice none 0 0), (.slice none 0 0)] [(0, 8, (.t 66))]⟩,
        ⟨(some 68), none, .app 8 68 96 false (.t 65) (.t 67)⟩,
        ⟨(some 5), none, .mov (.t 68)⟩])
def c_sWithout : IFn := ⟨2, 70, [.t 4],
 .seq (.reg none [
    ⟨(some 4), none, .mov (.c (.slice none 0 0))⟩])
 (.seq (.reg none [
    ⟨(some 10), none, .lit 8 68 0 [] []⟩,
    ⟨(some 5), none, .mov (.t 10)⟩])
 (.seq (.seq (.reg none [
     ⟨(some 6), none, .mov (.c (.int .i64 0))⟩])
  (.block 0 (.loop (.seq (.seq (.reg none [
        ⟨(some 11), none, .mov (.t 6)⟩,
        ⟨(some 12), none, .mov (.t 0)⟩,
        ⟨(some 13), none, .len (.t 12)⟩,
        ⟨(some 14), none, .bin .lss (.t 11) (.t 13)⟩])
     (.cond (.t 14) (.skip) (.exit 0)))
    (.seq (.block 1 (.seq (.reg none [
         ⟨(some 17), none, .mov (.t 0)⟩,
         ⟨(some 18), none, .mov (.t 6)⟩,
         ⟨(some 19), none, .iad 8 (.t 17) (.t 18)⟩,
         ⟨(some 20), none, .load true 8 (.t 19)⟩,
         ⟨(some 7), none, .new [(.int .i64 0), (.int .i64 0), (.int .i64 0), (.int .i64 0), (.int .i64 0), (.int .i64 0), (.slice none 0 0), (.slice none 0 0)]⟩,
         ⟨none, none, .store 8 (.t 7) (.t 20)⟩])
      (.seq (.seq (.reg none [
          ⟨(some 21), none, .mov (.t 1)⟩,
          ⟨(some 22), none, .bin .eql (.t 21) (.c (.int .i64 0))⟩])
       (.cond (.t 22) (.seq (.reg none [
           ⟨(some 1), none, .mov (.c (.int .i64 (-1)))⟩])
        (.exit 1)) (.skip)))
      (.seq (.reg (some 7) [
         ⟨(some 23), none, .fad 6 (.t 7)⟩,
         ⟨(some 24), none, .load false 1 (.t 23)⟩,
         ⟨(some 25), none, .call .q (.f 67) [(.t 24)]⟩,
         ⟨(some 26), none, .bin .add (.c (.int .i64 1)) (.t 25)⟩,
         ⟨(some 27), none, .fad 7 (.t 7)⟩,
         ⟨(some 28), none, .load false 1 (.t 27)⟩,
         ⟨(some 29), none, .call .q (.f 67) [(.t 28)]⟩,
         ⟨(some 30), none, .bin .add (.t 26) (.t 29)⟩,
         ⟨(some 8), none, .mov (.t 30)⟩])
      (.seq (.seq (.reg none [
          ⟨(some 31), none, .mov (.t 1)⟩,
          ⟨(some 32), none, .bin .gtr (.t 31) (.c (.int .i64 0))⟩,
          ⟨(some 33), none, .mov (.t 32)⟩,
          ⟨(some 34), (some (33, true)), .mov (.t 1)⟩,
          ⟨(some 35), (some (33, true)), .mov (.t 8)⟩,
          ⟨(some 36), (some (33, true)), .bin .lss (.t 34) (.t 35)⟩,
          ⟨(some 37), none, .pick (.t 33) (.t 36) (.c (.bool false))⟩])
       (.cond (.t 37) (.seq (.reg none [
           ⟨(some 38), none, .fad 6 (.t 7)⟩,
           ⟨(some 39), none, .load false 1 (.t 38)⟩,
           ⟨(some 40), none, .call .q (.f 67) [(.t 39)]⟩,
           ⟨(some 9), none, .mov (.t 40)⟩])
        (.seq (.seq (.reg none [
            ⟨(some 41), none, .mov (.t 1)⟩,
            ⟨(some 42), none, .bin .sub (.t 41) (.c (.int .i64 1))⟩,
            ⟨(some 43), none, .mov (.t 9)⟩,
            ⟨(some 44), none, .bin .lss (.t 42) (.t 43)⟩])
         (.cond (.t 44) (.reg none [
            ⟨(some 45), none, .fad 6 (.t 7)⟩,
            ⟨(some 46), none, .load false 1 (.t 45)⟩,
            ⟨(some 47), none, .mov (.t 1)⟩,
            ⟨(some 48), none, .bin .sub (.t 47) (.c (.int .i64 1))⟩,
            ⟨(some 49), none, .call .k (.f 113) [(.t 46), (.t 48)]⟩,
            ⟨(some 50), none, .fad 6 (.t 7)⟩,
            ⟨none, none, .store 1 (.t 50) (.t 49)⟩]) (.reg none [
            ⟨(some 51), none, .fad 7 (.t 7)⟩,
            ⟨(some 52), none, .load false 1 (.t 51)⟩,
            ⟨(some 53), none, .mov (.t 1)⟩,
            ⟨(some 54), none, .bin .sub (.t 53) (.c (.int .i64 1))⟩,
            ⟨(some 55), none, .mov (.t 9)⟩,
            ⟨(some 56), none, .bin .sub (.t 54) (.t 55)⟩,
            ⟨(some 57), none, .call .k (.f 113) [(.t 52), (.t 56)]⟩,
            ⟨(some 58), none, .fad 7 (.t 7)⟩,
            ⟨none, none, .store 1 (.t 58) (.t 57)⟩])))
        (.reg none [
          ⟨(some 1), none, .mov (.c (.int .i64 (-1)))⟩]))) (.seq (.reg none [
           ⟨(some 59), none, .mov (.t 1)⟩,
           ⟨(some 60), none, .mov (.t 8)⟩,
           ⟨(some 61), none, .bin .geq (.t 59) (.t 60)⟩])
        (.cond (.t 61) (.reg none [
           ⟨(some 62), none, .mov (.t 1)⟩,
           ⟨(some 63), none, .mov (.t 8)⟩,
           ⟨(some 64), none, .bin .sub (.t 62) (.t 63)⟩,
           ⟨(some 1), none, .mov (.t 64)⟩]) (.skip)))))
      woApp)))))
    (.reg none [
      ⟨(some 15), none, .mov (.t 6)⟩,
      ⟨(some 16), none, .bin .add (.t 15) (.c (.int .i64 1))⟩,
      ⟨(some 6), none, .mov (.t 16)⟩]))))))
 (.seq (.reg none [
    ⟨(some 69), none, .mov (.t 5)⟩,
    ⟨(some 4), none, .mov (.t 69)⟩])
 (.ret))))⟩
def cpApp : ICode := (.reg none [
        ⟨(some 25), none, .mov (.t 3)⟩,
        ⟨(some 26), none, .load true 8 (.t 5)⟩,
        ⟨(some 27), none, .lit 8 68 1 [(.int .i64 0), (.int .i64 0), (.int .i64 0), (.int .i64 0), (.int .i64 0), (.int .i64 0), (.slice none 0 0), (.slice none 0 0)] [(0, 8, (.t 26))]⟩,
        ⟨(some 28), none, .app 8 68 96 false (.t 25) (.t 27)⟩,
        ⟨(some 3), none, .mov (.t 28)⟩])
def c_sCopy : IFn := ⟨1, 30, [.t 2],
 .seq (.reg none [
    ⟨(some 2), none, .mov (.c (.slice none 0 0))⟩])
 (.seq (.reg none [
    ⟨(some 6), none, .lit 8 68 0 [] []⟩,
    ⟨(some 3), none, .mov (.t 6)⟩])
 (.seq (.seq (.reg none [
     ⟨(some 4), none, .mov (.c (.int .i64 0))⟩])
  (.block 0 (.loop (.seq (.seq (.reg none [
        ⟨(some 7), none, .mov (.t 4)⟩,
        ⟨(some 8), none, .mov (.t 0)⟩,
        ⟨(some 9), none, .len (.t 8)⟩,
        ⟨(some 10), none, .bin .lss (.t 7) (.t 9)⟩])
     (.cond (.t 10) (.skip) (.exit 0)))
    (.seq (.block 1 (.seq (.reg none [
         ⟨(some 13), none, .mov (.t 0)⟩,
         ⟨(some 14), none, .mov (.t 4)⟩,
         ⟨(some 15), none, .iad 8 (.t 13) (.t 14)⟩,
         ⟨(some 16), none, .load true 8 (.t 15)⟩,
         ⟨(some 5), none, .new [(.int .i64 0), (.int .i64 0), (.int .i64 0), (.int .i64 0), (.int .i64 0), (.int .i64 0), (.slice none 0 0), (.slice none 0 0)]⟩,
         ⟨none, none, .store 8 (.t 5) (.t 16)⟩])
      (.seq (.reg none [
         ⟨(some 17), none, .fad 6 (.t 5)⟩,
         ⟨(some 18), none, .load false 1 (.t 17)⟩,
         ⟨(some 19), none, .call .k (.f 114) [(.t 18)]⟩,
         ⟨(some 20), none, .fad 6 (.t 5)⟩,
         ⟨none, none, .store 1 (.t 20) (.t 19)⟩])
      (.seq (.reg none [
         ⟨(some 21), none, .fad 7 (.t 5)⟩,
         ⟨(some 22), none, .load false 1 (.t 21)⟩,
         ⟨(some 23), none, .call .k (.f 114) [(.t 22)]⟩,
         ⟨(some 24), none, .fad 7 (.t 5)⟩,
         ⟨none, none, .store 1 (.t 24) (.t 23)⟩])
      cpApp))))
    (.reg none [
      ⟨(some 11), none, .mov (.t 4)⟩,
      ⟨(some 12), none, .bin .add (.t 11) (.c (.int .i64 1))⟩,
      ⟨(some 4), none, .mov (.t 12)⟩]))))))
 (.seq (.reg none [
    ⟨(some 29), none, .mov (.t 3)⟩,
    ⟨(some 2), none, .mov (.t 29)⟩])
 (.ret))))⟩
theorem step_atV {n : Nat} {V : Vw} {v : Value} {l : List (TStep (n + 1))} (h : SlR (Co.step (n + 1)) V v l) {i : Nat} (hi : i < l.length) : ∃ (b o : Nat) (k x a bb c g : Int) (tv ev : Value) (tl el : List (TStep n)), v = .slice (some ⟨b, o, none⟩) l.length l.length ∧ l[i] = (k, x, (a, bb, c), g, tl, el) ∧
    (Rg k ∧ Rg x ∧ Rg a ∧ Rg bb ∧ Rg c ∧ Rg g) ∧ one tv = true ∧ one ev = true ∧ (∀ H', Sub V (vw 0 H') → getCells H' b (o + i * 8) 8 = some [.int .i64 k, .int .i64 x, .int .i64 a, .int .i64 bb, .int .i64 c, .int .i64 g, tv, ev]) ∧ SlR (Co.step n) V tv tl ∧ SlR (Co.step n) V ev el := by
  obtain ⟨_, a, rfl, h2⟩ := h
  obtain ⟨b, o, rfl, h3⟩ := h2.resolve_left (fun h => by rw [h] at hi; simp at hi)
  obtain ⟨cs, h4, h5⟩ := h3 i hi
  generalize hs : l[i] = s at h5
  obtain ⟨k, x, ⟨a, bb, c⟩, g, tl, el⟩ := s
  obtain ⟨_, _, rfl, ⟨rfl, r1⟩, _, _, rfl, ⟨rfl, r2⟩, _, _, rfl, ⟨_, _, rfl, ⟨rfl, r3⟩, _, _, rfl, ⟨rfl, r4⟩, ⟨rfl, r5⟩⟩, _, _, rfl, ⟨rfl, r6⟩, _, _, rfl, ⟨tv, rfl, h6⟩, ⟨ev, rfl, h7⟩⟩ := h5
  have o6 : one tv = true := by obtain ⟨_, _, rfl, _⟩ := h6; rfl
  have o7 : one ev = true := by obtain ⟨_, _, rfl, _⟩ := h7; rfl
  exact ⟨b, o, k, x, a, bb, c, g, tv, ev, tl, el, rfl, rfl, ⟨r1, r2, r3, r4, r5, r6⟩, o6, o7, fun H' hs => rng_gc (rng_sub hs h4), h6, h7⟩
/-- A list that grows, and a step's box. -/
structure Cd (H : Heap) (vl : Nat) (xs0 : List Nat) (d b : Nat) (so : Bool) (acc : List (TStep (d + 1))) (bs : Nat) (cells : List Value) (Hc : Heap) : Prop where
  ag : AgX [] H Hc
  own : OwnG (Co.step (d + 1)) 8 68 H.length vl (bs :: xs0) Hc b so acc
  box : Hc[bs]? = some ⟨cells, 0, 0, false, true⟩
  lo : H.length ≤ bs
  ne : b < bs
  xs : ∀ b', b' ∈ xs0 → b' < H.length
  vl : vl ≤ H.length
section
variable {H : Heap} {vl : Nat} {xs0 : List Nat} {d b : Nat} {so : Bool} {acc : List (TStep (d + 1))} {bs : Nat} {cells cells' : List Value} {Hc Hc' : Heap}
theorem Cd.grow (h : Cd H vl xs0 d b so acc bs cells Hc) (hx : AgX [] Hc Hc') : Cd H vl xs0 d b so acc bs cells Hc' :=
  ⟨h.ag.tr hx, h.own.sub hx (by simp) (fun b' _ h5 h6 h7 => ⟨by simp, h7⟩), hx.get h.box (by simp), h.lo, h.ne, h.xs, h.vl⟩
theorem Cd.store (h : Cd H vl xs0 d b so acc bs cells Hc) : Cd H vl xs0 d b so acc bs cells' (Hc.set bs ⟨cells', 0, 0, false, true⟩) := by
  have h3 := h.ne
  refine ⟨h.ag.setN h.lo _, h.own.sub (AgX.set _ _ _) (by simp; omega) (fun b' _ h5 h6 h7 => ⟨by simp only [List.mem_cons, not_or] at h7 ⊢; exact ⟨h7.1, List.not_mem_nil⟩, h7⟩), List.getElem?_set_self (List.getElem?_eq_some_iff.1 h.box).1, h.lo, h3, h.xs, h.vl⟩
/-- What lies in old blocks is seen. -/
theorem Cd.old (h : Cd H vl xs0 d b so acc bs cells Hc) : Sub (vwl vl xs0 H) (vwl vl (b :: bs :: xs0) Hc) := by
  have h1 := h.own.1
  have h2 := h.lo
  exact vwl_sub h.ag (Nat.le_refl _) fun b' h3 h4 h5 => ⟨by simp, by simp only [List.mem_cons, not_or]; exact ⟨by omega, by omega, h5⟩⟩
/-- What is new is seen. -/
theorem Cd.new (h : Cd H vl xs0 d b so acc bs cells Hc) (hx : AgX [] Hc Hc') (k : Blk) : Sub (vwl Hc.length [] Hc') (vwl vl (b :: bs :: xs0) (Hc'.set bs k)) := by
  have h1 := h.own.1
  have h2 := h.lo
  have h3 := h.ne
  have h4 := (List.getElem?_eq_some_iff.1 h.box).1
  have h5 := h.xs
  have h6 := h.vl
  refine vwl_sub (AgX.set _ _ _) (by omega) fun b' h7 h8 _ => ⟨by simp; omega, ?_⟩
  simp only [List.mem_cons, not_or]
  exact ⟨by omega, by omega, fun hm => by have := h5 _ hm; omega⟩
end
theorem woApp_ok {F : Nat → Option IFn} {H Hc : Heap} {vl : Nat} {xs0 : List Nat} {d b : Nat} {so : Bool} {acc : List (TStep (d + 1))} {bs lo : Nat} {cells : List Value} {e : Env} {K : X → Env → Heap → Prop} (hB : Cd H vl xs0 d b so acc bs cells Hc) (e1 : e 5 = sli b 0 acc.length) (e2 : e 7 = ptr bs 0) (hS : StC d (vwl vl (b :: bs :: xs0) Hc) cells) (hlo : lo ≤ H.length) (hl : acc.length < 1048576)
    (hK : ∀ e' Hc' b' so' a, (e' 0 = e 0 ∧ e' 1 = e 1 ∧ e' 6 = e 6 ∧ e' 5 = sli b' 0 (acc.length + 1)) → AgX [] H Hc' → OwnG (Co.step (d + 1)) 8 68 H.length vl xs0 Hc' b' so' (acc ++ [a]) → (Co.step (d + 1)).sm a → K .n e' Hc') : wpc F lo woApp e Hc K := by
  obtain ⟨sk, sx, sa, sb, sc, sh, tv, ev, tl, el, rfl, ⟨rk, rx, ra, rb', rc, rh⟩, htl, hel, mtl, mel⟩ := hS
  have hrd := step_rd rk rx ra rb' rc rh htl hel
  obtain ⟨_, at', rfl, _⟩ := htl
  obtain ⟨_, ae', rfl, _⟩ := hel
  have hbl := (List.getElem?_eq_some_iff.1 hB.box).1
  have h1 := hB.lo
  have hx0 := hB.xs
  have hob := hB.own.1
  unfold woApp
  refine wpc_reg ?_
  simp only [go_sem, binC, e1, e2, gc_of hB.box, inBlk_some]
  refine op_app_own (xs := bs :: xs0) hB.own (by simp only [go_sem, binC, e1]) (by simp only [go_sem, binC]) hlo (step_w _) hrd hl (by omega) (fun b' hm => by
    rcases List.mem_cons.1 hm with rfl | hm
    · exact hbl
    · have := hx0 b' hm; omega) fun H' hx hown => ?_
  simp only [go_sem, binC]
  refine hK _ H' _ _ _ ⟨by simp only [go_sem, binC], by simp only [go_sem, binC], by simp only [go_sem, binC], by simp only [go_sem, binC]⟩ (agx_nil hB.ag hx hob) (hown.sub (AgX.refl [] H') (by simp) fun b' _ _ _ h => ⟨by simp, fun hm => h (List.mem_cons_of_mem _ hm)⟩) (step_smM mtl mel)
theorem cpApp_ok {F : Nat → Option IFn} {H Hc : Heap} {vl : Nat} {xs0 : List Nat} {d b : Nat} {so : Bool} {acc : List (TStep (d + 1))} {bs lo : Nat} {cells : List Value} {e : Env} {K : X → Env → Heap → Prop} (hB : Cd H vl xs0 d b so acc bs cells Hc) (e1 : e 3 = sli b 0 acc.length) (e2 : e 5 = ptr bs 0) (hS : StC d (vwl vl (b :: bs :: xs0) Hc) cells) (hlo : lo ≤ H.length) (hl : acc.length < 1048576)
    (hK : ∀ e' Hc' b' so' a, (e' 0 = e 0 ∧ e' 4 = e 4 ∧ e' 3 = sli b' 0 (acc.length + 1)) → AgX [] H Hc' → OwnG (Co.step (d + 1)) 8 68 H.length vl xs0 Hc' b' so' (acc ++ [a]) → (Co.step (d + 1)).sm a → K .n e' Hc') : wpc F lo cpApp e Hc K := by
  obtain ⟨sk, sx, sa, sb, sc, sh, tv, ev, tl, el, rfl, ⟨rk, rx, ra, rb', rc, rh⟩, htl, hel, mtl, mel⟩ := hS
  have hrd := step_rd rk rx ra rb' rc rh htl hel
  obtain ⟨_, at', rfl, _⟩ := htl
  obtain ⟨_, ae', rfl, _⟩ := hel
  have hbl := (List.getElem?_eq_some_iff.1 hB.box).1
  have h1 := hB.lo
  have hx0 := hB.xs
  have hob := hB.own.1
  unfold cpApp
  refine wpc_reg ?_
  simp only [go_sem, binC, e1, e2, gc_of hB.box, inBlk_some]
  refine op_app_own (xs := bs :: xs0) hB.own (by simp only [go_sem, binC, e1]) (by simp only [go_sem, binC]) hlo (step_w _) hrd hl (by omega) (fun b' hm => by
    rcases List.mem_cons.1 hm with rfl | hm
    · exact hbl
    · have := hx0 b' hm; omega) fun H' hx hown => ?_
  simp only [go_sem, binC]
  refine hK _ H' _ _ _ ⟨by simp only [go_sem, binC], by simp only [go_sem, binC], by simp only [go_sem, binC]⟩ (agx_nil hB.ag hx hob) (hown.sub (AgX.refl [] H') (by simp) fun b' _ _ _ h => ⟨by simp, fun hm => h (List.mem_cons_of_mem _ hm)⟩) (step_smM mtl mel)
def CopyOk (F : Nat → Option IFn) (f n : Nat) : Prop := ∀ (H : Heap) (v : Value) (l : List (TStep n)), SlR (Co.step n) (vw 0 H) v l → (Co.sl (Co.step n)).sm l → ∃ b so l' H', KC F f [v] H (sli b 0 l'.length) H' ∧ (AgX [] H H' ∧ OwnL (Co.step n) 8 68 H.length [] H' b so l' ∧ (Co.sl (Co.step n)).sm l' ∧ l'.length = l.length)
theorem sCopy_ok {F : Nat → Option IFn} {f n : Nat} (hf : F f = some c_sCopy) (ih : ∀ m, n = m + 1 → CopyOk F 114 m) : CopyOk F f n := by
  intro H v l hv hsm
  have hv0 := hv
  obtain ⟨h0, av, rfl, hv1⟩ := hv
  have hsm1 := hsm.1
  suffices h : ∃ v' H', KC F f [.slice av l.length l.length] H v' H' ∧ (∃ b so l', v' = sli b 0 l'.length ∧ (AgX [] H H' ∧ OwnL (Co.step n) 8 68 H.length [] H' b so l' ∧ (Co.sl (Co.step n)).sm l' ∧ l'.length = l.length)) by
    obtain ⟨v', H', h1, b, so, l', rfl, h2⟩ := h
    exact ⟨b, so, l', H', h1, h2⟩
  refine KC.mk hf rfl ?_
  refine seq_reg ?_
  simp only [go_sem, binC]
  refine seq_reg ?_
  simp only [go_sem, binC]
  refine seq_assoc (seq_reg ?_)
  simp only [go_sem, binC]
  refine wpc_gen fun Hb hHb => ?_
  have ht0 : AgX [] H Hb := hHb ▸ AgX.app [] _ _
  have ho0 : OwnL (Co.step n) 8 68 H.length [] Hb H.length true [] := hHb ▸ OwnG.nil (Nat.le_refl _)
  clear hHb
  refine seq_block (wpc_loop ?_)
  suffices h : ∀ (k i : Nat) (e : Env) (Hc : Heap) (b : Nat) (so : Bool) (acc : List (TStep n)), i + k = l.length → acc.length = i → AgX [] H Hc → OwnL (Co.step n) 8 68 H.length [] Hc b so acc → (∀ a ∈ acc, (Co.step n).sm a) → e 0 = .slice av l.length l.length → e 3 = sli b 0 acc.length → e 4 = .int .i64 i → W F H.length _ e Hc _ from
    h l.length 0 _ Hb H.length true [] (by omega) rfl ht0 ho0 (fun a h => by cases h) (by simp only [go_sem, binC]) (by (simp only [go_sem, binC]) <;> rfl) (by (simp only [go_sem, binC]) <;> rfl)
  intro k
  induction k with
  | zero =>
    intro i e Hc b so acc hi hacc ht ho hsa e0 e3 e4
    refine lp_step ?_
    refine seq_assoc (seq_reg ?_)
    simp only [go_sem, binC, e0, e4]
    refine seq_cond (t := false) (by simp only [go_sem, binC]; rw [decide_eq_false (by omega)]) ?_
    simp only [go_sem, binC]
    refine seq_exit ?_
    simp only [go_sem, binC, thenX_e, out_e, thenX_n]
    refine seq_reg ?_
    simp only [go_sem, binC, e3]
    exact wpc_ret ⟨Or.inr rfl, _, (by (simp only [go_sem, binC]) <;> rfl), b, so, acc, rfl, ht, ho, ⟨by omega, hsa⟩, by omega⟩
  | succ k ihk =>
    intro i e Hc b so acc hi hacc ht ho hsa e0 e3 e4
    have hil : i < l.length := by omega
    cases n with
    | zero => exact (l[i]).elim
    | succ n =>
    obtain ⟨vb, vo, sk, sx, sa, sbb, sc, sg, tv, ev, tl, el, hav, hs, rg, otv, oev, hgc, htl, hel⟩ := step_atV hv0 hil
    simp only [Value.slice.injEq, and_true] at hav
    subst hav
    have hA := ih n rfl
    have hsmi := hsm.2 _ (List.getElem_mem hil)
    rw [hs] at hsmi
    obtain ⟨_, _, _, _, mtl, mel⟩ := hsmi
    have hbl : b < Hc.length := by obtain ⟨_, _, cs, h, _⟩ := ho; exact (List.getElem?_eq_some_iff.1 h).1
    refine lp_step ?_
    refine seq_assoc (seq_reg ?_)
    simp only [go_sem, binC, e0, e4]
    refine seq_cond (t := true) (by simp only [go_sem, binC]; rw [decide_eq_true (by omega)]) ?_
    simp only [go_sem, binC]
    refine seq_skip (seq_block ?_)
    refine seq_reg ?_
    simp only [go_sem, binC, e0, e4, hgc _ (agx_sub ht), otv, oev]
    refine ⟨⟨by omega, by omega⟩, by have := ht.1; omega, ?_⟩
    refine wpc_gen fun H1 hH1 => ?_
    have hB : Cd H H.length [] n b so acc Hc.length [.int .i64 sk, .int .i64 sx, .int .i64 sa, .int .i64 sbb, .int .i64 sc, .int .i64 sg, tv, ev] H1 := by
      subst hH1
      exact ⟨ht.appN _, ho.sub (AgX.app [] _ _) (by simp) (fun b' h4 h5 h6 h7 => ⟨by simp, by simp; omega⟩), get_new0 _ _, ht.1, hbl, by simp, Nat.le_refl _⟩
    clear hH1
    refine seq_reg ?_
    simp only [go_sem, binC, gc_of hB.box, inBlk_some]
    obtain ⟨b3, so3, l3, H3, k3, x3, o3, m3, n3⟩ := hA H1 tv tl (htl.mono (agx_sub hB.ag)) mtl
    refine op_callK (by simp only [go_sem, binC]; exact k3) ?_
    have hB3 := hB.grow x3
    simp only [go_sem, binC, hB3.box]
    refine ⟨by have := hB.lo; omega, ?_⟩
    have hB4 := hB3.store (cells' := [.int .i64 sk, .int .i64 sx, .int .i64 sa, .int .i64 sbb, .int .i64 sc, .int .i64 sg, sli b3 0 l3.length, ev])
    have r3 := (o3.slR (step_w n) (by simp)).mono (hB.new x3 ⟨[.int .i64 sk, .int .i64 sx, .int .i64 sa, .int .i64 sbb, .int .i64 sc, .int .i64 sg, sli b3 0 l3.length, ev], 0, 0, false, true⟩)
    refine seq_reg ?_
    simp only [go_sem, binC, gc_of hB4.box, inBlk_some]
    obtain ⟨b5, so5, l5, H5, k5, x5, o5, m5, n5⟩ := hA _ ev el (hel.mono (agx_sub hB4.ag)) mel
    refine op_callK (by simp only [go_sem, binC]; exact k5) ?_
    have hB5 := hB4.grow x5
    simp only [go_sem, binC, hB5.box]
    refine ⟨by have := hB.lo; omega, ?_⟩
    have hB6 := hB5.store (cells' := [.int .i64 sk, .int .i64 sx, .int .i64 sa, .int .i64 sbb, .int .i64 sc, .int .i64 sg, sli b3 0 l3.length, sli b5 0 l5.length])
    have r5 := (o5.slR (step_w n) (by simp)).mono (hB4.new x5 ⟨[.int .i64 sk, .int .i64 sx, .int .i64 sa, .int .i64 sbb, .int .i64 sc, .int .i64 sg, sli b3 0 l3.length, sli b5 0 l5.length], 0, 0, false, true⟩)
    have r6 := r3.mono ((vwl_sub x5 (Nat.le_refl _) (fun b' _ _ h => ⟨by simp, h⟩)).trans (vwl_sub (AgX.set H5 Hc.length ⟨[.int .i64 sk, .int .i64 sx, .int .i64 sa, .int .i64 sbb, .int .i64 sc, .int .i64 sg, sli b3 0 l3.length, sli b5 0 l5.length], 0, 0, false, true⟩) (Nat.le_refl _) (fun b' _ _ h => ⟨by simp at h ⊢; exact h.2, h⟩)) : Sub (vwl H.length [b, Hc.length] _) (vwl H.length [b, Hc.length] _))
    obtain ⟨g1, g2, g3, g4, g5, g6⟩ := rg
    refine cpApp_ok hB6 (by simp only [go_sem, binC, e3]) (by simp only [go_sem, binC]) ⟨_, _, _, _, _, _, _, _, l3, l5, rfl, ⟨g1, g2, g3, g4, g5, g6⟩, r6, r5, m3, m5⟩ (Nat.le_refl _) (by omega) fun e7 H7 b7 so7 a7 ⟨f0, f4, f3⟩ x7 o7 s7 => ?_
    simp only [go_sem, binC, out_n, thenX_n]
    refine wpc_reg ?_
    simp only [go_sem, binC, f4, e4]
    have hw1 : IntKind.i64.wrap ((i : Int) + 1) = ((i + 1 : Nat) : Int) := by rw [wrap_id (by omega) (by omega)]; omega
    rw [hw1]
    simp only [go_sem, binC, thenX_n]
    refine ihk (i + 1) _ H7 b7 so7 (acc ++ [a7]) (by omega) (by simp [hacc]) x7 o7 (fun a ha => ?_) (by simp only [go_sem, binC, f0, e0]) (by (simp only [go_sem, binC, f3]) <;> (rw [List.length_append]; rfl)) (by simp only [go_sem, binC])
    rcases List.mem_append.1 ha with ha | ha
    · exact hsa a ha
    · simp only [List.mem_singleton] at ha; subst ha; exact s7
theorem sCopy_all {F : Nat → Option IFn} (hf : F 114 = some c_sCopy) : ∀ n, CopyOk F 114 n
  | 0 => sCopy_ok hf fun m h => by omega
  | n + 1 => sCopy_ok hf fun m h => by cases h; exact sCopy_all hf n
end Go.Proofs.YtmakdcbpohlacaaI
end
section
/- Steps without one. -/
set_option linter.unusedVariables false
set_option linter.unusedSimpArgs false
namespace Go.Proofs.YtmakdcbpohlacaaI
open Go Go.RowKit
def WoOk (F : Nat → Option IFn) (f n : Nat) : Prop := ∀ (H : Heap) (v : Value) (l : List (TStep n)) (x : Int) (vl : Nat) (xs0 : List Nat), (∀ b', b' ∈ xs0 → b' < H.length) → vl ≤ H.length → SlR (Co.step n) (vwl vl xs0 H) v l → (Co.sl (Co.step n)).sm l →
  ∃ b so l' H', KC F f [v, .int .i64 x] H (sli b 0 l'.length) H' ∧ (AgX [] H H' ∧ OwnG (Co.step n) 8 68 H.length vl xs0 H' b so l' ∧ (Co.sl (Co.step n)).sm l' ∧ l'.length ≤ l.length)
theorem wpc_genK {F : Nat → Option IFn} {lo : Nat} {c : ICode} {e : Env} {H : Heap} {K : X → Env → Heap → Prop} (h : ∀ KK, KK = K → wpc F lo c e H KK) : wpc F lo c e H K := h _ rfl
theorem vwl0 (lo : Nat) (xs : List Nat) (H : Heap) : Sub (vwl lo xs H) (vw 0 H) := (vwl_vw _ _ _).trans (vw_grow (Nat.zero_le _) fun _ _ _ => rfl)
theorem sWithout_ok {F : Nat → Option IFn} {f n : Nat} (hf : F f = some c_sWithout) (gc : ∀ n, CntOk F 67 n) (ih : ∀ m, n = m + 1 → WoOk F 113 m) : WoOk F f n := by
  intro H v l x0 vl xs0 hxs hvl hv hsm
  have hv0 := hv
  obtain ⟨h0, av, rfl, hv1⟩ := hv
  have hsm1 := hsm.1
  suffices h : ∃ v' H', KC F f [.slice av l.length l.length, .int .i64 x0] H v' H' ∧ (∃ b so l', v' = sli b 0 l'.length ∧ (AgX [] H H' ∧ OwnG (Co.step n) 8 68 H.length vl xs0 H' b so l' ∧ (Co.sl (Co.step n)).sm l' ∧ l'.length ≤ l.length)) by
    obtain ⟨v', H', h1, b, so, l', rfl, h2⟩ := h
    exact ⟨b, so, l', H', h1, h2⟩
  refine KC.mk hf rfl ?_
  refine seq_reg ?_
  simp only [go_sem, binC]
  refine seq_reg ?_
  simp only [go_sem, binC]
  refine seq_assoc (seq_reg ?_)
  simp only [go_sem, binC]
  refine wpc_gen fun Hb hHb => ?_
  have ht0 : AgX [] H Hb := hHb ▸ AgX.app [] _ _
  have ho0 : OwnG (Co.step n) 8 68 H.length vl xs0 Hb H.length true [] := hHb ▸ OwnG.nil (Nat.le_refl _)
  clear hHb
  refine seq_block (wpc_loop ?_)
  suffices h : ∀ (k i : Nat) (e : Env) (Hc : Heap) (b : Nat) (so : Bool) (acc : List (TStep n)) (x : Int), i + k = l.length → acc.length ≤ i → AgX [] H Hc → OwnG (Co.step n) 8 68 H.length vl xs0 Hc b so acc → (∀ a ∈ acc, (Co.step n).sm a) → e 0 = .slice av l.length l.length → e 1 = .int .i64 x → e 5 = sli b 0 acc.length → e 6 = .int .i64 i → W F H.length _ e Hc _ from
    h l.length 0 _ Hb H.length true [] x0 (by omega) (by simp) ht0 ho0 (fun a h => by cases h) (by simp only [go_sem, binC]) (by simp only [go_sem, binC]) (by (simp only [go_sem, binC]) <;> rfl) (by (simp only [go_sem, binC]) <;> rfl)
  intro k
  induction k with
  | zero =>
    intro i e Hc b so acc x hi hacc ht ho hsa e0 e1 e5 e6
    refine lp_step ?_
    refine seq_assoc (seq_reg ?_)
    simp only [go_sem, binC, e0, e6]
    refine seq_cond (t := false) (by simp only [go_sem, binC]; rw [decide_eq_false (by omega)]) ?_
    simp only [go_sem, binC]
    refine seq_exit ?_
    simp only [go_sem, binC, thenX_e, out_e, thenX_n]
    refine seq_reg ?_
    simp only [go_sem, binC, e5]
    exact wpc_ret ⟨Or.inr rfl, _, (by (simp only [go_sem, binC]) <;> rfl), b, so, acc, rfl, ht, ho, ⟨by omega, hsa⟩, by omega⟩
  | succ k ihk =>
    intro i e Hc b so acc x hi hacc ht ho hsa e0 e1 e5 e6
    have hil : i < l.length := by omega
    cases n with
    | zero => exact (l[i]).elim
    | succ n =>
    obtain ⟨vb, vo, sk, sx, sa, sbb, sc, sg, tv, ev, tl, el, hav, hs, rg, otv, oev, hgc, htl, hel⟩ := step_atV hv0 hil
    simp only [Value.slice.injEq, and_true] at hav
    subst hav
    have hA := ih n rfl
    have hsmi := hsm.2 _ (List.getElem_mem hil)
    rw [hs] at hsmi
    obtain ⟨_, _, _, _, mtl, mel⟩ := hsmi
    obtain ⟨g1, g2, g3, g4, g5, g6⟩ := rg
    have hbl : b < Hc.length := by obtain ⟨_, _, cs, h, _⟩ := ho; exact (List.getElem?_eq_some_iff.1 h).1
    have hw1 : IntKind.i64.wrap ((i : Int) + 1) = ((i + 1 : Nat) : Int) := by rw [wrap_id (by omega) (by omega)]; omega
    refine lp_step ?_
    refine seq_assoc (seq_reg ?_)
    simp only [go_sem, binC, e0, e6]
    refine seq_cond (t := true) (by simp only [go_sem, binC]; rw [decide_eq_true (by omega)]) ?_
    simp only [go_sem, binC]
    refine seq_skip (seq_block ?_)
    refine seq_reg ?_
    simp only [go_sem, binC, e0, e6, hgc _ ((vwl0 _ _ _).trans (agx_sub ht)), otv, oev]
    refine ⟨⟨by omega, by omega⟩, by have := ht.1; omega, ?_⟩
    refine wpc_gen fun H1 hH1 => ?_
    have hB : Cd H vl xs0 n b so acc Hc.length [.int .i64 sk, .int .i64 sx, .int .i64 sa, .int .i64 sbb, .int .i64 sc, .int .i64 sg, tv, ev] H1 := by
      subst hH1
      exact ⟨ht.appN _, ho.sub (AgX.app [] _ _) (by simp) (fun b' h4 h5 h6 h7 => ⟨by simp, by simp only [List.mem_cons, not_or]; exact ⟨by omega, h7⟩⟩), get_new0 _ _, ht.1, hbl, hxs, hvl⟩
    have ho1 : OwnG (Co.step (n + 1)) 8 68 H.length vl xs0 H1 b so acc := by
      subst hH1
      exact ho.sub (AgX.app [] _ _) (by simp) (fun b' h4 h5 h6 h7 => ⟨by simp, h7⟩)
    clear hH1
    refine seq_assoc (seq_reg ?_)
    simp only [go_sem, binC, e1]
    by_cases hx0 : x = 0
    · simp only [go_sem, binC, beq_t hx0]
      refine seq_cond (t := true) rfl ?_
      simp only [go_sem, binC]
      refine seq_assoc (seq_reg ?_)
      simp only [go_sem, binC]
      refine seq_exit ?_
      simp only [go_sem, binC, out_e, thenX_n]
      refine wpc_reg ?_
      simp only [go_sem, binC, e6, hw1]
      simp only [go_sem, binC, thenX_n]
      exact ihk (i + 1) _ H1 b so acc (-1) (by omega) (by omega) hB.ag ho1 hsa (by simp only [go_sem, binC, e0]) (by simp only [go_sem, binC]) (by simp only [go_sem, binC, e5]) (by simp only [go_sem, binC])
    simp only [go_sem, binC, beq_f hx0]
    refine seq_cond (t := false) rfl ?_
    simp only [go_sem, binC]
    refine seq_skip (seq_regD ?_)
    simp only [go_sem, binC, gc_of hB.box, inBlk_some]
    refine op_callQ (by simp only [go_sem, binC]; exact gc n H1 tv tl (htl.mono ((vwl0 _ _ _).trans (agx_sub hB.ag)))) ?_
    simp only [go_sem, binC, gc_of hB.box, inBlk_some]
    refine op_callQ (by simp only [go_sem, binC]; exact gc n H1 ev el (hel.mono ((vwl0 _ _ _).trans (agx_sub hB.ag)))) ?_
    simp only [go_sem, binC]
    generalize hsz : IntKind.i64.wrap (IntKind.i64.wrap (1 + Wr (cntL n tl)) + Wr (cntL n el)) = sz
    refine wpc_genK fun KK hKK => ?_
    have tail : ∀ (e' : Env) (Hc' : Heap) (cells : List Value) (x' : Int), e' 0 = e 0 → e' 1 = .int .i64 x' → e' 5 = e 5 → e' 6 = e 6 → e' 7 = ptr Hc.length 0 → Cd H vl xs0 n b so acc Hc.length cells Hc' → StC n (vwl vl (b :: Hc.length :: xs0) Hc') cells → wpc F H.length woApp e' Hc' KK := by
      intro e' Hc' cells x' q0 q1 q5 q6 q7 hB' hS'
      rw [hKK]
      refine woApp_ok hB' (by rw [q5]; exact e5) q7 hS' (Nat.le_refl _) (by omega) fun e7 H7 b7 so7 a7 ⟨f0, f1, f6, f5⟩ x7 o7 s7 => ?_
      simp only [go_sem, binC, out_n, thenX_n]
      refine wpc_reg ?_
      simp only [go_sem, binC, f6, q6, e6, hw1]
      simp only [go_sem, binC, thenX_n]
      refine ihk (i + 1) _ H7 b7 so7 (acc ++ [a7]) x' (by omega) (by simp; omega) x7 o7 (fun a ha => ?_) (by simp only [go_sem, binC, f0, q0, e0]) (by simp only [go_sem, binC, f1, q1]) (by (simp only [go_sem, binC, f5]) <;> (rw [List.length_append]; rfl)) (by simp only [go_sem, binC])
      rcases List.mem_append.1 ha with ha | ha
      · exact hsa a ha
      · simp only [List.mem_singleton] at ha; subst ha; exact s7
    have hold : StC n (vwl vl (b :: Hc.length :: xs0) H1) [.int .i64 sk, .int .i64 sx, .int .i64 sa, .int .i64 sbb, .int .i64 sc, .int .i64 sg, tv, ev] :=
      ⟨_, _, _, _, _, _, _, _, tl, el, rfl, ⟨g1, g2, g3, g4, g5, g6⟩, htl.mono hB.old, hel.mono hB.old, mtl, mel⟩
    refine seq_assoc (seq_reg ?_)
    simp only [go_sem, binC, e1]
    have hpos : ∀ P : Prop, P → P := fun _ h => h
    by_cases hgt : 0 < x ∧ x < sz
    · have d1 : decide (0 < x) = true := decide_eq_true hgt.1
      have d2 : decide (x < sz) = true := decide_eq_true hgt.2
      simp only [go_sem, binC, d1, d2, e1]
      refine seq_cond (t := true) rfl ?_
      simp only [go_sem, binC]
      refine seq_assoc (seq_reg ?_)
      simp only [go_sem, binC, gc_of hB.box, inBlk_some]
      refine op_callQ (by simp only [go_sem, binC]; exact gc n H1 tv tl (htl.mono ((vwl0 _ _ _).trans (agx_sub hB.ag)))) ?_
      simp only [go_sem, binC]
      refine seq_assoc (seq_assoc (seq_reg ?_))
      simp only [go_sem, binC, e1]
      by_cases hin : IntKind.i64.wrap (x - 1) < Wr (cntL n tl)
      · simp only [go_sem, binC, decide_eq_true hin]
        refine seq_cond (t := true) rfl ?_
        simp only [go_sem, binC]
        refine seq_reg ?_
        simp only [go_sem, binC, e1, gc_of hB.box, inBlk_some]
        obtain ⟨b3, so3, l3, H3, k3, x3, o3, m3, n3⟩ := hA H1 tv tl (IntKind.i64.wrap (x - 1)) vl (b :: Hc.length :: xs0) (fun b' hm => by
          have h1 := (List.getElem?_eq_some_iff.1 hB.box).1
          have h2 := hB.ag.1
          simp only [List.mem_cons] at hm
          rcases hm with rfl | rfl | hm
          · omega
          · exact h1
          · have := hxs b' hm; omega) (by have := hB.ag.1; omega) (htl.mono hB.old) mtl
        refine op_callK (by simp only [go_sem, binC]; exact k3) ?_
        have hB3 := hB.grow x3
        simp only [go_sem, binC, hB3.box]
        refine ⟨by have := hB.lo; omega, ?_⟩
        have hB4 := hB3.store (cells' := [.int .i64 sk, .int .i64 sx, .int .i64 sa, .int .i64 sbb, .int .i64 sc, .int .i64 sg, sli b3 0 l3.length, ev])
        have hb3l := o3.1
        have hbxl := (List.getElem?_eq_some_iff.1 hB.box).1
        have hbxs := hB.ne
        have hHl := hB.ag.1
        have r3 := (o3.slR (step_w n) (by
          simp only [List.mem_cons, not_or]
          exact ⟨by omega, by omega, fun hm => by have := hxs _ hm; omega⟩)).mono (vwl_sub (AgX.set H3 Hc.length ⟨[.int .i64 sk, .int .i64 sx, .int .i64 sa, .int .i64 sbb, .int .i64 sc, .int .i64 sg, sli b3 0 l3.length, ev], 0, 0, false, true⟩) (Nat.le_refl _) (fun b' _ _ h => ⟨by simp only [List.mem_cons, not_or, List.not_mem_nil, not_false_eq_true, and_true] at h ⊢; exact h.2.1, h⟩) : Sub (vwl vl (b :: Hc.length :: xs0) H3) (vwl vl (b :: Hc.length :: xs0) _))
        refine seq_reg ?_
        simp only [go_sem, binC]
        exact tail _ _ _ (-1) (by simp only [go_sem, binC]) (by simp only [go_sem, binC]) (by simp only [go_sem, binC]) (by simp only [go_sem, binC]) (by simp only [go_sem, binC]) hB4 ⟨_, _, _, _, _, _, _, _, l3, el, rfl, ⟨g1, g2, g3, g4, g5, g6⟩, r3, hel.mono hB4.old, m3, mel⟩
      · simp only [go_sem, binC, decide_eq_false hin]
        refine seq_cond (t := false) rfl ?_
        simp only [go_sem, binC]
        refine seq_reg ?_
        simp only [go_sem, binC, e1, gc_of hB.box, inBlk_some]
        obtain ⟨b3, so3, l3, H3, k3, x3, o3, m3, n3⟩ := hA H1 ev el (IntKind.i64.wrap (IntKind.i64.wrap (x - 1) - Wr (cntL n tl))) vl (b :: Hc.length :: xs0) (fun b' hm => by
          have h1 := (List.getElem?_eq_some_iff.1 hB.box).1
          have h2 := hB.ag.1
          simp only [List.mem_cons] at hm
          rcases hm with rfl | rfl | hm
          · omega
          · exact h1
          · have := hxs b' hm; omega) (by have := hB.ag.1; omega) (hel.mono hB.old) mel
        refine op_callK (by simp only [go_sem, binC]; exact k3) ?_
        have hB3 := hB.grow x3
        simp only [go_sem, binC, hB3.box]
        refine ⟨by have := hB.lo; omega, ?_⟩
        have hB4 := hB3.store (cells' := [.int .i64 sk, .int .i64 sx, .int .i64 sa, .int .i64 sbb, .int .i64 sc, .int .i64 sg, tv, sli b3 0 l3.length])
        have hb3l := o3.1
        have hbxl := (List.getElem?_eq_some_iff.1 hB.box).1
        have hbxs := hB.ne
        have hHl := hB.ag.1
        have r3 := (o3.slR (step_w n) (by
          simp only [List.mem_cons, not_or]
          exact ⟨by omega, by omega, fun hm => by have := hxs _ hm; omega⟩)).mono (vwl_sub (AgX.set H3 Hc.length ⟨[.int .i64 sk, .int .i64 sx, .int .i64 sa, .int .i64 sbb, .int .i64 sc, .int .i64 sg, tv, sli b3 0 l3.length], 0, 0, false, true⟩) (Nat.le_refl _) (fun b' _ _ h => ⟨by simp only [List.mem_cons, not_or, List.not_mem_nil, not_false_eq_true, and_true] at h ⊢; exact h.2.1, h⟩) : Sub (vwl vl (b :: Hc.length :: xs0) H3) (vwl vl (b :: Hc.length :: xs0) _))
        refine seq_reg ?_
        simp only [go_sem, binC]
        exact tail _ _ _ (-1) (by simp only [go_sem, binC]) (by simp only [go_sem, binC]) (by simp only [go_sem, binC]) (by simp only [go_sem, binC]) (by simp only [go_sem, binC]) hB4 ⟨_, _, _, _, _, _, _, _, tl, l3, rfl, ⟨g1, g2, g3, g4, g5, g6⟩, htl.mono hB4.old, r3, mtl, m3⟩
    · have hno : ∀ K' : Env → Heap → Prop, (∀ e', e' 0 = e 0 → e' 1 = .int .i64 x → e' 5 = e 5 → e' 6 = e 6 → e' 7 = ptr Hc.length 0 → e' 8 = .int .i64 sz → K' e' H1) → True := fun _ _ => trivial
      by_cases d1 : 0 < x
      · have d2 : ¬ x < sz := fun h => hgt ⟨d1, h⟩
        simp only [go_sem, binC, decide_eq_true d1, decide_eq_false d2, e1]
        refine seq_cond (t := false) rfl ?_
        simp only [go_sem, binC]
        refine seq_assoc (seq_reg ?_)
        simp only [go_sem, binC, e1]
        refine seq_cond (t := true) (by (simp only [go_sem, binC]) <;> (rw [decide_eq_true (by omega)])) ?_
        simp only [go_sem, binC]
        refine seq_reg ?_
        simp only [go_sem, binC, e1]
        exact tail _ _ _ _ (by simp only [go_sem, binC]) (by simp only [go_sem, binC]; rfl) (by simp only [go_sem, binC]) (by simp only [go_sem, binC]) (by simp only [go_sem, binC]) hB hold
      · simp only [go_sem, binC, decide_eq_false d1]
        refine seq_cond (t := false) rfl ?_
        simp only [go_sem, binC]
        refine seq_assoc (seq_reg ?_)
        simp only [go_sem, binC, e1]
        by_cases d3 : sz ≤ x
        · simp only [go_sem, binC, decide_eq_true d3]
          refine seq_cond (t := true) rfl ?_
          simp only [go_sem, binC]
          refine seq_reg ?_
          simp only [go_sem, binC, e1]
          exact tail _ _ _ _ (by simp only [go_sem, binC]) (by simp only [go_sem, binC]; rfl) (by simp only [go_sem, binC]) (by simp only [go_sem, binC]) (by simp only [go_sem, binC]) hB hold
        · simp only [go_sem, binC, decide_eq_false d3]
          refine seq_cond (t := false) rfl ?_
          simp only [go_sem, binC]
          refine seq_skip ?_
          exact tail _ _ _ x (by simp only [go_sem, binC]) (by simp only [go_sem, binC, e1]) (by simp only [go_sem, binC]) (by simp only [go_sem, binC]) (by simp only [go_sem, binC]) hB hold
theorem sWithout_all {F : Nat → Option IFn} (hf : F 113 = some c_sWithout) (gc : ∀ n, CntOk F 67 n) : ∀ n, WoOk F 113 n
  | 0 => sWithout_ok hf gc fun m h => by omega
  | n + 1 => sWithout_ok hf gc fun m h => by cases h; exact sWithout_all hf gc n
end Go.Proofs.YtmakdcbpohlacaaI
end
section
/- Programs that are drawn so that most are fine. -/
set_option linter.unusedVariables false
set_option linter.unusedSimpArgs false
namespace Go.Proofs.YtmakdcbpohlacaaI
open Go Go.RowKit
def c_drFine : IFn := ⟨1, 27, [.cell true 2 2],
 .seq (.reg none [
    ⟨(some 2), none, .new [(.slice none 0 0), (.slice none 0 0)]⟩])
 (.seq (.reg none [
    ⟨(some 7), none, .mov (.t 0)⟩,
    ⟨(some 8), none, .call .n (.f 104) [(.t 7)]⟩,
    ⟨(some 3), none, .new [(.slice none 0 0), (.slice none 0 0)]⟩,
    ⟨none, none, .store 2 (.t 3) (.t 8)⟩])
 (.seq (.seq (.reg none [
     ⟨(some 4), none, .mov (.c (.int .i64 0))⟩])
  (.block 0 (.loop (.seq (.seq (.reg none [
        ⟨(some 9), none, .mov (.t 4)⟩,
        ⟨(some 10), none, .bin .lss (.t 9) (.c (.int .i64 6))⟩])
     (.cond (.t 10) (.skip) (.exit 0)))
    (.seq (.block 1 (.seq (.reg none [
         ⟨(some 14), none, .load true 2 (.t 3)⟩,
         ⟨(some 15), none, .call .q (.f 112) [(.t 14)]⟩,
         ⟨(some 13), none, .mov (.t 15)⟩,
         ⟨(some 16), none, .ext (.t 13) 0⟩,
         ⟨(some 17), none, .ext (.t 13) 1⟩,
         ⟨(some 5), none, .mov (.t 16)⟩,
         ⟨(some 6), none, .mov (.t 17)⟩])
      (.seq (.seq (.reg none [
          ⟨(some 18), none, .mov (.t 6)⟩,
          ⟨(some 19), none, .un .not (.t 18)⟩])
       (.cond (.t 19) (.seq (.reg none [
           ⟨(some 20), none, .load true 2 (.t 3)⟩,
           ⟨none, none, .store 2 (.t 2) (.t 20)⟩])
        (.ret)) (.skip)))
      (.reg none [
        ⟨(some 21), none, .fad 1 (.t 3)⟩,
        ⟨(some 22), none, .load false 1 (.t 21)⟩,
        ⟨(some 23), none, .mov (.t 5)⟩,
        ⟨(some 24), none, .call .k (.f 113) [(.t 22), (.t 23)]⟩,
        ⟨(some 25), none, .fad 1 (.t 3)⟩,
        ⟨none, none, .store 1 (.t 25) (.t 24)⟩]))))
    (.reg none [
      ⟨(some 11), none, .mov (.t 4)⟩,
      ⟨(some 12), none, .bin .add (.t 11) (.c (.int .i64 1))⟩,
      ⟨(some 4), none, .mov (.t 12)⟩]))))))
 (.seq (.reg none [
    ⟨(some 26), none, .load true 2 (.t 3)⟩,
    ⟨none, none, .store 2 (.t 2) (.t 26)⟩])
 (.ret))))⟩
theorem drFine_ok {F : Nat → Option IFn} {f : Nat} (hf : F f = some c_drFine) {H0 : Heap} {rb : Nat} {bv : Value} {code : List Int} (hc : RdC H0 rb bv code) (gpr : DrawS F H0 rb bv 104 [] 40000 (ProgQ 3)) (gwh : WhyOk F 112) (gwo : ∀ n, WoOk F 113 n) : DrawS F H0 rb bv f [] 40000 (ProgQ 3) := by
  refine DrawS.mk hf rfl fun H p lo hs hp hp2 hlo => ?_
  have hl := hs.lt
  refine seq_reg ?_
  simp only [go_sem, binC]
  refine wpc_gen fun H1 hH1 => ?_
  have hs1 : St H0 rb bv p H1 := hH1 ▸ hs.appN hc _
  have ht1 : AgX [rb] H H1 := hH1 ▸ AgX.app [rb] _ _
  have hb1 : H1[H.length]? = some ⟨[nilS, nilS], 0, 0, false, true⟩ := hH1 ▸ get_new0 _ _
  have hn1 : H1.length = H.length + 1 := by rw [hH1, List.length_append]; rfl
  clear hH1
  refine seq_reg ?_
  simp only [go_sem, binC]
  obtain ⟨v2, H2, p2, k2, x2, s2, c2, lv, sv, ls, l, rfl, hV2⟩ := gpr H1 p lo hs1 hp hp2 hlo
  refine op_callN (by simp only [go_sem, binC]; exact k2) ?_
  have olv : one lv = true := by obtain ⟨⟨_, a, rfl, _⟩, _⟩ := hV2; rfl
  have osv : one sv = true := by obtain ⟨_, ⟨_, a, rfl, _⟩, _⟩ := hV2; rfl
  have hl2 := x2.1
  simp only [go_sem, binC, olv, osv]
  refine ⟨by omega, ?_⟩
  refine wpc_gen fun H3 hH3 => ?_
  have hne : H.length ≠ rb := by omega
  have hs3 : St H0 rb bv p2 H3 := hH3 ▸ s2.appN hc _
  have ht3 : AgX [rb] H H3 := hH3 ▸ (ht1.tr x2).appN _
  have hb3 : H3[H.length]? = some ⟨[nilS, nilS], 0, 0, false, true⟩ := by
    have := x2.get hb1 (by simpa using hne)
    rw [hH3, List.getElem?_append_left (List.getElem?_eq_some_iff.1 this).1]
    exact this
  have hbx : H3[H2.length]? = some ⟨[lv, sv], 0, 0, false, true⟩ := hH3 ▸ get_new0 _ _
  have hV3 : ProgV 3 (vwl H.length [H2.length, H.length] H3) lv sv ls l := by
    subst hH3
    exact hV2.mono (vwl_sub (AgX.app [] H2 _) (by omega) fun b' h1 h2 _ => ⟨by simp, by simp; omega⟩)
  clear hH3 hV2
  refine seq_assoc (seq_reg ?_)
  simp only [go_sem, binC]
  refine seq_block (wpc_loop ?_)
  suffices h : ∀ (k i : Nat) (e : Env) (Hc : Heap) (sv : Value) (l : List (TStep 3)), i + k = 6 → St H0 rb bv p2 Hc → AgX [rb] H Hc → Hc[H.length]? = some ⟨[nilS, nilS], 0, 0, false, true⟩ → Hc[H2.length]? = some ⟨[lv, sv], 0, 0, false, true⟩ → ProgV 3 (vwl H.length [H2.length, H.length] Hc) lv sv ls l →
      e 2 = ptr H.length 0 → e 3 = ptr H2.length 0 → e 4 = .int .i64 i → W F lo _ e Hc _ from
    h 6 0 _ H3 sv l rfl hs3 ht3 hb3 hbx hV3 (by simp only [go_sem, binC]) (by simp only [go_sem, binC]) (by (simp only [go_sem, binC]) <;> rfl)
  intro k
  induction k with
  | zero =>
    intro i e Hc sv l hik hsc htc htwo hbox hV e2 e3 e4
    refine lp_step ?_
    refine seq_assoc (seq_reg ?_)
    simp only [go_sem, binC, e4]
    refine seq_cond (t := false) (by simp only [go_sem, binC]; rw [decide_eq_false (by omega)]) ?_
    simp only [go_sem, binC]
    refine seq_exit ?_
    simp only [go_sem, binC, thenX_e, out_e, thenX_n]
    refine seq_reg ?_
    have osv : one sv = true := by obtain ⟨_, ⟨_, a, rfl, _⟩, _⟩ := hV; rfl
    simp only [go_sem, binC, e2, e3, gc_of hbox, inBlk_some, htwo, olv, osv]
    refine ⟨by omega, ?_⟩
    have h2l := (List.getElem?_eq_some_iff.1 htwo).1
    exact wpc_ret ⟨Or.inr rfl, _, (by (simp only [go_sem, binC, e2, gc_set h2l]) <;> rfl), p2, htc.setN (Nat.le_refl _) _, hsc.setN hc hl _, by omega, _, _, ls, l, rfl, hV.mono (vwl_sub (AgX.set _ _ _) (Nat.le_refl _) fun b' _ h5 h6 => ⟨by simp only [List.mem_cons, not_or, List.not_mem_nil, not_false_eq_true, and_true] at h6 ⊢; exact h6.2, by simp⟩)⟩
  | succ k ih =>
    intro i e Hc sv l hik hsc htc htwo hbox hV e2 e3 e4
    have osv : one sv = true := by obtain ⟨_, ⟨_, a, rfl, _⟩, _⟩ := hV; rfl
    have hV0 : ProgV 3 (vw 0 Hc) lv sv ls l := hV.mono (vwl0 _ _ _)
    have hw1 : IntKind.i64.wrap ((i : Int) + 1) = ((i + 1 : Nat) : Int) := by rw [wrap_id (by omega) (by omega)]; omega
    refine lp_step ?_
    refine seq_assoc (seq_reg ?_)
    simp only [go_sem, binC, e4]
    refine seq_cond (t := true) (by simp only [go_sem, binC]; rw [decide_eq_true (by omega)]) ?_
    simp only [go_sem, binC]
    refine seq_skip (seq_block ?_)
    refine seq_reg ?_
    simp only [go_sem, binC, e3, gc_of hbox, inBlk_some]
    obtain ⟨wi, wt, kw⟩ := gwh Hc 3 lv sv ls l hV0.1 hV0.2.1 hV0.2.2.1
    refine op_callQ (by simp only [go_sem, binC]; exact kw) ?_
    simp only [go_sem, binC]
    refine seq_assoc (seq_reg ?_)
    simp only [go_sem, binC]
    cases wt with
    | false =>
      refine seq_cond (t := true) rfl ?_
      simp only [go_sem, binC]
      refine seq_assoc (seq_reg ?_)
      simp only [go_sem, binC, e2, e3, gc_of hbox, inBlk_some, htwo, olv, osv]
      refine ⟨by omega, ?_⟩
      refine seq_ret ?_
      simp only [go_sem, binC, out_r, thenX_r]
      have h2l := (List.getElem?_eq_some_iff.1 htwo).1
      exact ⟨Or.inr rfl, _, (by (simp only [go_sem, binC, e2, gc_set h2l]) <;> rfl), p2, htc.setN (Nat.le_refl _) _, hsc.setN hc hl _, by omega, _, _, ls, l, rfl, hV.mono (vwl_sub (AgX.set _ _ _) (Nat.le_refl _) fun b' _ h5 h6 => ⟨by simp only [List.mem_cons, not_or, List.not_mem_nil, not_false_eq_true, and_true] at h6 ⊢; exact h6.2, by simp⟩)⟩
    | true =>
      refine seq_cond (t := false) rfl ?_
      simp only [go_sem, binC]
      refine seq_skip (wpc_reg ?_)
      simp only [go_sem, binC, e3, gc_of hbox, inBlk_some]
      have hbl := (List.getElem?_eq_some_iff.1 hbox).1
      have hHl := htc.1
      obtain ⟨b5, so5, l5, H5, k5, x5, o5, m5, n5⟩ := gwo 3 Hc sv l wi H.length [H2.length, H.length] (by
        intro b' hb'
        simp only [List.mem_cons, List.not_mem_nil, or_false] at hb'
        rcases hb' with rfl | rfl
        · exact hbl
        · have := (List.getElem?_eq_some_iff.1 htwo).1; omega) hHl hV.2.1 hV.2.2.1.2
      refine op_callK (by simp only [go_sem, binC]; exact k5) ?_
      have hbox5 := x5.get hbox (by simp)
      simp only [go_sem, binC, e3, hbox5]
      refine ⟨by omega, ?_⟩
      simp only [go_sem, binC, out_n, thenX_n]
      refine wpc_reg ?_
      simp only [go_sem, binC, e4, hw1]
      simp only [go_sem, binC, thenX_n]
      have hb5l := o5.1
      have h2l := (List.getElem?_eq_some_iff.1 htwo).1
      have ht5 : AgX [rb] H H5 := htc.trans x5 (fun _ h _ => h) (fun b' h1 _ => by cases h1)
      have hview : Sub (vwl H.length [H2.length, H.length] H5) (vwl H.length [H2.length, H.length] (H5.set H2.length ⟨[lv, sli b5 0 l5.length], 0, 0, false, true⟩)) := vwl_sub (AgX.set _ _ _) (Nat.le_refl _) fun b' _ h5 h6 => ⟨by simp only [List.mem_cons, not_or, List.not_mem_nil, not_false_eq_true, and_true] at h6 ⊢; exact h6.1, h6⟩
      have hsv5 := (o5.slR (step_w 3) (by simp; omega)).mono hview
      have hlv5 := (hV.1.mono (vwl_sub x5 (Nat.le_refl _) fun b' _ _ h => ⟨by simp, h⟩ : Sub (vwl H.length [H2.length, H.length] Hc) (vwl H.length [H2.length, H.length] H5))).mono hview
      exact ih (i + 1) _ _ (sli b5 0 l5.length) l5 (by omega) ((hsc.mono hc x5 (fun _ h => by cases h)).setN hc (by omega) _) (ht5.setN (by omega) _) (by rw [List.getElem?_set_ne (by omega)]; exact x5.get htwo (by simp)) (List.getElem?_set_self (List.getElem?_eq_some_iff.1 hbox5).1) ⟨hlv5, hsv5, ⟨hV.2.2.1.1, m5⟩, hV.2.2.2.1, hV.2.2.2.2.1, by have := hV.2.2.2.2.2; omega⟩ (by simp only [go_sem, binC, e2]) (by simp only [go_sem, binC, e3]) (by simp only [go_sem, binC])
end Go.Proofs.YtmakdcbpohlacaaI
end
section
/- Programs in which something is not as it was: what is kept. -/
set_option linter.unusedVariables false
set_option linter.unusedSimpArgs false
namespace Go.Proofs.YtmakdcbpohlacaaI
open Go Go.RowKit
def ProgR (H H' : Heap) (v : Value) : Prop := ∃ d lv sv ls, ∃ l : List (TStep d), v = .agg #[lv, sv] ∧ SlR Co.p2 (vwl H.length [] H') lv ls ∧ SlR (Co.step d) (vwl H.length [] H') sv l ∧ (Co.prog d).sm (ls, l) ∧ ls ≠ [] ∧ ls.length ≤ 1000
structure Be (H0 : Heap) (rb : Nat) (bv : Value) (H : Heap) (d bl bs : Nat) (sol sos : Bool) (ls : List (Int × Int)) (l : List (TStep (d + 1))) (b5 : Nat) (p : Int) (Hc : Heap) : Prop where
  st : St H0 rb bv p Hc
  ag : AgX [rb] H Hc
  two : Hc[H.length + 1]? = some ⟨[nilS, nilS], 0, 0, false, true⟩
  box : Hc[b5]? = some ⟨[sli bl 0 ls.length, sli bs 0 l.length], 0, 0, false, true⟩
  lab : OwnL Co.p2 2 59 H.length [] Hc bl sol ls
  stp : OwnL (Co.step (d + 1)) 8 68 H.length [bl, b5, H.length + 1] Hc bs sos l
  sm : ∀ a ∈ l, (Co.step (d + 1)).sm a
  ne : ls ≠ []
  len : ls.length ≤ 500 ∧ l.length ≤ 500
  lo : H.length + 1 < bl ∧ H.length + 1 < b5 ∧ H.length + 1 < bs ∧ bl ≠ b5 ∧ bs ≠ b5 ∧ bs ≠ bl
  rbl : rb < H.length
/-- Labels look at no memory. -/
theorem OwnG.p2 {es et lo vl vl' : Nat} {xs xs' ys : List Nat} {H H' : Heap} {b : Nat} {so : Bool} {l : List (Int × Int)} (h : OwnG Co.p2 es et lo vl xs H b so l) (hx : AgX ys H H') (hb : b ∉ ys) : OwnG Co.p2 es et lo vl' xs' H' b so l := by
  obtain ⟨h3, h4, cs, h5, h6, h7⟩ := h
  exact ⟨h3, h4, cs, hx.get h5 hb, h6, h7⟩
section
variable {H0 : Heap} {rb : Nat} {bv : Value} {code : List Int} {H : Heap} {d bl bs : Nat} {sol sos so' : Bool} {ls : List (Int × Int)} {l : List (TStep (d + 1))} {b5 : Nat} {p q : Int} {Hc Hc' H' : Heap}
theorem Be.lts (h : Be H0 rb bv H d bl bs sol sos ls l b5 p Hc) : bl < Hc.length ∧ bs < Hc.length ∧ b5 < Hc.length := by
  refine ⟨?_, ?_, (List.getElem?_eq_some_iff.1 h.box).1⟩
  · obtain ⟨_, _, cs, h, _⟩ := h.lab; exact (List.getElem?_eq_some_iff.1 h).1
  · obtain ⟨_, _, cs, h, _⟩ := h.stp; exact (List.getElem?_eq_some_iff.1 h).1
theorem Be.draw (h : Be H0 rb bv H d bl bs sol sos ls l b5 p Hc) (hx : AgX [rb] Hc Hc') (hs : St H0 rb bv q Hc') : Be H0 rb bv H d bl bs sol sos ls l b5 q Hc' := by
  have h1 := h.rbl
  obtain ⟨l1, l2, l3, l4, l5, l6⟩ := h.lo
  exact ⟨hs, h.ag.tr hx, hx.get h.two (by simp; omega), hx.get h.box (by simp; omega), h.lab.sub hx (by simp; omega) (fun b' _ h5 _ _ => ⟨by simp; omega, by simp⟩), h.stp.sub hx (by simp; omega) (fun b' _ h5 _ h7 => ⟨by simp; omega, h7⟩), h.sm, h.ne, h.len, h.lo, h1⟩
theorem Be.grow (hc : RdC H0 rb bv code) (h : Be H0 rb bv H d bl bs sol sos ls l b5 p Hc) (L : Heap) : Be H0 rb bv H d bl bs sol sos ls l b5 p (Hc ++ L) :=
  h.draw (AgX.app [rb] _ _) (h.st.appN hc _)
/-- A step was appended. -/
theorem Be.step (hc : RdC H0 rb bv code) (h : Be H0 rb bv H d bl bs sol sos ls l b5 p Hc) {a : TStep (d + 1)} (hx : AgX [bs] Hc H') (ho : OwnL (Co.step (d + 1)) 8 68 H.length [bl, b5, H.length + 1] H' (Hc.length + 1) so' (l ++ [a])) (ha : (Co.step (d + 1)).sm a) (hl : l.length < 400) :
    Be H0 rb bv H d bl (Hc.length + 1) sol so' ls (l ++ [a]) b5 p (H'.set b5 ⟨[sli bl 0 ls.length, sli (Hc.length + 1) 0 (l.length + 1)], 0, 0, false, true⟩) := by
  have h1 := h.rbl
  obtain ⟨l1, l2, l3, l4, l5, l6⟩ := h.lo
  obtain ⟨t1, t2, t3⟩ := h.lts
  have hbox := hx.get h.box (by simp; omega)
  have hs' : St H0 rb bv p H' := h.st.mono hc hx (fun b' hm => by simp only [List.mem_singleton] at hm; omega)
  refine ⟨hs'.setN hc (by omega) _, (h.ag.trans hx (fun _ h _ => h) (fun b' h2 h3 => by simp only [List.mem_singleton] at h2; omega)).setN (by omega) _, ?_, ?_, ?_, ?_, ?_, h.ne, ?_, ?_, h1⟩
  · rw [List.getElem?_set_ne (by omega)]
    exact hx.get h.two (by simp; omega)
  · rw [List.getElem?_set_self (List.getElem?_eq_some_iff.1 hbox).1, List.length_append]
    rfl
  · have hl1 : OwnL Co.p2 2 59 H.length [] H' bl sol ls := h.lab.p2 hx (by simp; omega)
    exact hl1.p2 (AgX.set _ _ _) (by simp; omega)
  · exact ho.sub (AgX.set _ _ _) (by simp; omega) (fun b' h2 h3 h4 h5 => ⟨by simp only [List.mem_cons, not_or, List.not_mem_nil, not_false_eq_true, and_true] at h5 ⊢; exact h5.2.1, h5⟩)
  · intro x hx
    rcases List.mem_append.1 hx with hx | hx
    · exact h.sm x hx
    · simp only [List.mem_singleton] at hx; subst hx; exact ha
  · rw [List.length_append, List.length_singleton]
    have := h.len
    omega
  · exact ⟨l1, l2, by omega, l4, by omega, by omega⟩
end
end Go.Proofs.YtmakdcbpohlacaaI
end
section
/- Programs in which something is not as it was. -/
set_option linter.unusedVariables false
set_option linter.unusedSimpArgs false
namespace Go.Proofs.YtmakdcbpohlacaaI
open Go Go.RowKit
def beLoop4 : ICode := (.seq (.seq (.reg none [
              ⟨(some 73), none, .fad 1 (.t 5)⟩,
              ⟨(some 74), none, .load false 1 (.t 73)⟩,
              ⟨(some 75), none, .len (.t 74)⟩,
              ⟨(some 76), none, .bin .leq (.t 75) (.c (.int .i64 8))⟩])
           (.cond (.t 76) (.skip) (.exit 1)))
          (.block 2 (.reg none [
             ⟨(some 77), none, .fad 1 (.t 5)⟩,
             ⟨(some 78), none, .load false 1 (.t 77)⟩,
             ⟨(some 79), none, .build [(.int .i64 0), (.int .i64 0), (.int .i64 0), (.int .i64 0), (.int .i64 0), (.int .i64 0), (.slice none 0 0), (.slice none 0 0)] [(0, 1, (.c (.int .i64 3)))]⟩,
             ⟨(some 80), none, .lit 8 68 1 [(.int .i64 0), (.int .i64 0), (.int .i64 0), (.int .i64 0), (.int .i64 0), (.int .i64 0), (.slice none 0 0), (.slice none 0 0)] [(0, 8, (.t 79))]⟩,
             ⟨(some 81), none, .app 8 68 96 false (.t 78) (.t 80)⟩,
             ⟨(some 82), none, .fad 1 (.t 5)⟩,
             ⟨none, none, .store 1 (.t 82) (.t 81)⟩])))
def beLoop5 : ICode := (.seq (.seq (.reg none [
               ⟨(some 85), none, .mov (.t 6)⟩,
               ⟨(some 86), none, .bin .lss (.t 85) (.c (.int .i64 4))⟩])
            (.cond (.t 86) (.skip) (.exit 3)))
           (.seq (.block 4 (.reg none [
               ⟨(some 89), none, .fad 1 (.t 5)⟩,
               ⟨(some 90), none, .load false 1 (.t 89)⟩,
               ⟨(some 91), none, .build [(.int .i64 0), (.int .i64 0), (.int .i64 0), (.int .i64 0), (.int .i64 0), (.int .i64 0), (.slice none 0 0), (.slice none 0 0)] [(0, 1, (.c (.int .i64 2))), (6, 1, (.t 90))]⟩,
               ⟨(some 92), none, .lit 8 68 1 [(.int .i64 0), (.int .i64 0), (.int .i64 0), (.int .i64 0), (.int .i64 0), (.int .i64 0), (.slice none 0 0), (.slice none 0 0)] [(0, 8, (.t 91))]⟩,
               ⟨(some 93), none, .fad 1 (.t 5)⟩,
               ⟨none, none, .store 1 (.t 93) (.t 92)⟩]))
           (.reg none [
             ⟨(some 87), none, .mov (.t 6)⟩,
             ⟨(some 88), none, .bin .add (.t 87) (.c (.int .i64 1))⟩,
             ⟨(some 6), none, .mov (.t 88)⟩])))
def c_drBent : IFn := ⟨2, 106, [.cell true 2 4],
 .seq (.reg none [
    ⟨(some 3), none, .box (.t 1)⟩,
    ⟨(some 4), none, .new [(.slice none 0 0), (.slice none 0 0)]⟩])
 (.seq (.reg (some 9) [
    ⟨(some 7), none, .lit 2 59 0 [] []⟩,
    ⟨(some 8), none, .fad 0 (.t 3)⟩,
    ⟨(some 9), none, .load false 1 (.t 8)⟩,
    ⟨(some 10), none, .app 2 59 16 false (.t 7) (.t 9)⟩,
    ⟨(some 11), none, .fad 1 (.t 3)⟩,
    ⟨(some 12), none, .load false 1 (.t 11)⟩,
    ⟨(some 13), none, .call .k (.f 114) [(.t 12)]⟩,
    ⟨(some 14), none, .build [(.slice none 0 0), (.slice none 0 0)] [(0, 1, (.t 10)), (1, 1, (.t 13))]⟩,
    ⟨(some 5), none, .new [(.slice none 0 0), (.slice none 0 0)]⟩,
    ⟨none, none, .store 2 (.t 5) (.t 14)⟩])
 (.seq (.seq (.reg none [
     ⟨(some 15), none, .mov (.t 0)⟩,
     ⟨(some 16), none, .call .n (.f 105) [(.t 15), (.c (.int .i64 8))]⟩])
  (.block 0 (.seq (.reg none [
      ⟨(some 24), none, .bin .eql (.t 16) (.c (.int .i64 0))⟩,
      ⟨(some 23), none, .mov (.t 24)⟩])
   (.cond (.t 23) (.reg none [
      ⟨(some 25), none, .fad 0 (.t 5)⟩,
      ⟨(some 26), none, .load false 1 (.t 25)⟩,
      ⟨(some 27), none, .iad 2 (.t 26) (.c (.int .i64 0))⟩,
      ⟨(some 28), none, .fad 0 (.t 27)⟩,
      ⟨none, none, .store 1 (.t 28) (.c (.int .i64 8))⟩]) (.seq (.reg none [
       ⟨(some 30), none, .bin .eql (.t 16) (.c (.int .i64 1))⟩,
       ⟨(some 29), none, .mov (.t 30)⟩])
    (.cond (.t 29) (.reg (some 7) [
       ⟨(some 31), none, .fad 1 (.t 5)⟩,
       ⟨(some 32), none, .load false 1 (.t 31)⟩,
       ⟨(some 33), none, .mov (.t 0)⟩,
       ⟨(some 34), none, .call .n (.f 105) [(.t 33), (.c (.int .i64 6))]⟩,
       ⟨(some 35), none, .bin .sub (.t 34) (.c (.int .i64 1))⟩,
       ⟨(some 36), none, .build [(.int .i64 0), (.int .i64 0), (.int .i64 0), (.int .i64 0), (.int .i64 0), (.int .i64 0), (.slice none 0 0), (.slice none 0 0)] [(0, 1, (.t 35))]⟩,
       ⟨(some 37), none, .lit 8 68 1 [(.int .i64 0), (.int .i64 0), (.int .i64 0), (.int .i64 0), (.int .i64 0), (.int .i64 0), (.slice none 0 0), (.slice none 0 0)] [(0, 8, (.t 36))]⟩,
       ⟨(some 38), none, .app 8 68 96 false (.t 32) (.t 37)⟩,
       ⟨(some 39), none, .fad 1 (.t 5)⟩,
       ⟨none, none, .store 1 (.t 39) (.t 38)⟩]) (.seq (.reg none [
        ⟨(some 41), none, .bin .eql (.t 16) (.c (.int .i64 2))⟩,
        ⟨(some 40), none, .mov (.t 41)⟩])
     (.cond (.t 40) (.reg none [
        ⟨(some 42), none, .fad 1 (.t 5)⟩,
        ⟨(some 43), none, .load false 1 (.t 42)⟩,
        ⟨(some 44), none, .fad 0 (.t 5)⟩,
        ⟨(some 45), none, .load false 1 (.t 44)⟩,
        ⟨(some 46), none, .len (.t 45)⟩,
        ⟨(some 47), none, .build [(.int .i64 0), (.int .i64 0), (.int .i64 0)] [(0, 1, (.c (.int .i64 1)))]⟩,
        ⟨(some 48), none, .build [(.int .i64 0), (.int .i64 0), (.int .i64 0), (.int .i64 0), (.int .i64 0), (.int .i64 0), (.slice none 0 0), (.slice none 0 0)] [(0, 1, (.c (.int .i64 1))), (1, 1, (.t 46)), (2, 3, (.t 47))]⟩,
        ⟨(some 49), none, .lit 8 68 1 [(.int .i64 0), (.int .i64 0), (.int .i64 0), (.int .i64 0), (.int .i64 0), (.int .i64 0), (.slice none 0 0), (.slice none 0 0)] [(0, 8, (.t 48))]⟩,
        ⟨(some 50), none, .app 8 68 96 false (.t 43) (.t 49)⟩,
        ⟨(some 51), none, .fad 1 (.t 5)⟩,
        ⟨none, none, .store 1 (.t 51) (.t 50)⟩]) (.seq (.reg none [
         ⟨(some 53), none, .bin .eql (.t 16) (.c (.int .i64 3))⟩,
         ⟨(some 52), none, .mov (.t 53)⟩])
      (.cond (.t 52) (.reg (some 15) [
         ⟨(some 54), none, .fad 1 (.t 5)⟩,
         ⟨(some 55), none, .load false 1 (.t 54)⟩,
         ⟨(some 56), none, .lit 1 3 6 [(.int .i64 0), (.int .i64 0), (.int .i64 0), (.int .i64 0), (.int .i64 0), (.int .i64 0)] [(0, 1, (.c (.int .i64 1))), (1, 1, (.c (.int .i64 1))), (2, 1, (.c (.int .i64 2))), (3, 1, (.c (.int .i64 3))), (4, 1, (.c (.int .i64 0))), (5, 1, (.c (.int .i64 5)))]⟩,
         ⟨(some 57), none, .mov (.t 0)⟩,
         ⟨(some 58), none, .call .n (.f 105) [(.t 57), (.c (.int .i64 6))]⟩,
         ⟨(some 59), none, .iad 1 (.t 56) (.t 58)⟩,
         ⟨(some 60), none, .load false 1 (.t 59)⟩,
         ⟨(some 61), none, .lit 1 3 3 [(.int .i64 0), (.int .i64 0), (.int .i64 0)] [(0, 1, (.c (.int .i64 10))), (1, 1, (.c (.int .i64 (-1)))), (2, 1, (.c (.int .i64 4)))]⟩,
         ⟨(some 62), none, .mov (.t 0)⟩,
         ⟨(some 63), none, .call .n (.f 105) [(.t 62), (.c (.int .i64 3))]⟩,
         ⟨(some 64), none, .iad 1 (.t 61) (.t 63)⟩,
         ⟨(some 65), none, .load false 1 (.t 64)⟩,
         ⟨(some 66), none, .build [(.int .i64 0), (.int .i64 0), (.int .i64 0)] [(0, 1, (.t 60)), (1, 1, (.t 65))]⟩,
         ⟨(some 67), none, .build [(.int .i64 0), (.int .i64 0), (.int .i64 0), (.int .i64 0), (.int .i64 0), (.int .i64 0), (.slice none 0 0), (.slice none 0 0)] [(0, 1, (.c (.int .i64 1))), (2, 3, (.t 66))]⟩,
         ⟨(some 68), none, .lit 8 68 1 [(.int .i64 0), (.int .i64 0), (.int .i64 0), (.int .i64 0), (.int .i64 0), (.int .i64 0), (.slice none 0 0), (.slice none 0 0)] [(0, 8, (.t 67))]⟩,
         ⟨(some 69), none, .app 8 68 96 false (.t 55) (.t 68)⟩,
         ⟨(some 70), none, .fad 1 (.t 5)⟩,
         ⟨none, none, .store 1 (.t 70) (.t 69)⟩]) (.seq (.reg none [
          ⟨(some 72), none, .bin .eql (.t 16) (.c (.int .i64 4))⟩,
          ⟨(some 71), none, .mov (.t 72)⟩])
       (.cond (.t 71) (.block 1 (.loop beLoop4)) (.seq (.reg none [
           ⟨(some 84), none, .bin .eql (.t 16) (.c (.int .i64 5))⟩,
           ⟨(some 83), none, .mov (.t 84)⟩])
        (.cond (.t 83) (.seq (.reg none [
            ⟨(some 6), none, .mov (.c (.int .i64 0))⟩])
         (.block 3 (.loop beLoop5))) (.seq (.reg none [
            ⟨(some 95), none, .bin .eql (.t 16) (.c (.int .i64 6))⟩,
            ⟨(some 94), none, .mov (.t 95)⟩])
         (.cond (.t 94) (.reg none [
            ⟨(some 96), none, .fad 0 (.t 5)⟩,
            ⟨(some 97), none, .load false 1 (.t 96)⟩,
            ⟨(some 98), none, .build [(.int .i64 0), (.int .i64 0)] []⟩,
            ⟨(some 99), none, .build [(.int .i64 0), (.int .i64 0)] []⟩,
            ⟨(some 100), none, .build [(.int .i64 0), (.int .i64 0)] []⟩,
            ⟨(some 101), none, .build [(.int .i64 0), (.int .i64 0)] []⟩,
            ⟨(some 102), none, .lit 2 59 4 [(.int .i64 0), (.int .i64 0), (.int .i64 0), (.int .i64 0), (.int .i64 0), (.int .i64 0), (.int .i64 0), (.int .i64 0)] [(0, 2, (.t 98)), (2, 2, (.t 99)), (4, 2, (.t 100)), (6, 2, (.t 101))]⟩,
            ⟨(some 103), none, .app 2 59 16 false (.t 97) (.t 102)⟩,
            ⟨(some 104), none, .fad 0 (.t 5)⟩,
            ⟨none, none, .store 1 (.t 104) (.t 103)⟩]) (.reg none [
            ⟨(some 17), none, .fad 1 (.t 5)⟩,
            ⟨(some 18), none, .load false 1 (.t 17)⟩,
            ⟨(some 19), none, .build [(.int .i64 0), (.int .i64 0), (.int .i64 0), (.int .i64 0), (.int .i64 0), (.int .i64 0), (.slice none 0 0), (.slice none 0 0)] [(0, 1, (.c (.int .i64 3))), (5, 1, (.c (.int .i64 3)))]⟩,
            ⟨(some 20), none, .lit 8 68 1 [(.int .i64 0), (.int .i64 0), (.int .i64 0), (.int .i64 0), (.int .i64 0), (.int .i64 0), (.slice none 0 0), (.slice none 0 0)] [(0, 8, (.t 19))]⟩,
            ⟨(some 21), none, .app 8 68 96 false (.t 18) (.t 20)⟩,
            ⟨(some 22), none, .fad 1 (.t 5)⟩,
            ⟨none, none, .store 1 (.t 22) (.t 21)⟩])))))))))))))))))
 (.seq (.reg none [
    ⟨(some 105), none, .load true 2 (.t 5)⟩,
    ⟨none, none, .store 2 (.t 4) (.t 105)⟩])
 (.ret))))⟩
theorem rg0 : Rg 0 := by unfold Rg; omega
theorem rgk {k : Int} (h : 0 ≤ k ∧ k ≤ 100 := by omega) : Rg k := by unfold Rg; omega
def mkSt (d : Nat) (k x a b c h : Int) (tl el : List (TStep d)) : TStep (d + 1) := (k, x, (a, b, c), h, tl, el)
theorem mkSt_rd {d : Nat} {V : Vw} {k x a b c h : Int} {tv ev : Value} {tl el : List (TStep d)} (rk : Rg k) (rx : Rg x) (ra : Rg a) (rb : Rg b) (rc : Rg c) (rh : Rg h) (htl : SlR (Co.step d) V tv tl) (hel : SlR (Co.step d) V ev el) :
    (Co.step (d + 1)).rd V [.int .i64 k, .int .i64 x, .int .i64 a, .int .i64 b, .int .i64 c, .int .i64 h, tv, ev] (mkSt d k x a b c h tl el) := step_rd rk rx ra rb rc rh htl hel
theorem mkSt_sm {d : Nat} {k x a b c h : Int} {tl el : List (TStep d)} (mtl : (Co.sl (Co.step d)).sm tl) (mel : (Co.sl (Co.step d)).sm el) : (Co.step (d + 1)).sm (mkSt d k x a b c h tl el) := step_smM mtl mel
/-- The loop that appends until there are more than eight. -/
theorem beLoop4_ok {F : Nat → Option IFn} {H0 : Heap} {rb : Nat} {bv : Value} {code : List Int} (hc : RdC H0 rb bv code) {H : Heap} {d bl b5 lo : Nat} {sol : Bool} {ls : List (Int × Int)} {p : Int} {K : X → Env → Heap → Prop} (hlo : lo ≤ rb) : ∀ (k : Nat) (e : Env) (Hc : Heap) (bs : Nat) (sos : Bool) (l : List (TStep (d + 1))), (8 < l.length ∨ l.length + k = 9) → Be H0 rb bv H d bl bs sol sos ls l b5 p Hc → l.length < 300 → e 4 = ptr (H.length + 1) 0 → e 5 = ptr b5 0 →
    (∀ e' Hc' bs' sos' l', Be H0 rb bv H d bl bs' sol sos' ls l' b5 p Hc' → e' 4 = ptr (H.length + 1) 0 → e' 5 = ptr b5 0 → K (.e 1) e' Hc') → W F lo (.lp beLoop4) e Hc K := by
  intro k
  induction k with
  | zero =>
    intro e Hc bs sos l hk hB hl e4 e5 hK
    unfold beLoop4
    refine lp_step ?_
    refine seq_assoc (seq_reg ?_)
    simp only [go_sem, binC, e5, gc_of hB.box, inBlk_some]
    refine seq_cond (t := false) (by simp only [go_sem, binC]; rw [decide_eq_false (by omega)]) ?_
    simp only [go_sem, binC]
    refine seq_exit ?_
    simp only [go_sem, binC, thenX_e]
    exact hK _ Hc bs sos l hB (by simp only [go_sem, binC, e4]) (by simp only [go_sem, binC, e5])
  | succ k ih =>
    intro e Hc bs sos l hk hB hl e4 e5 hK
    by_cases h8 : 8 < l.length
    · unfold beLoop4
      refine lp_step ?_
      refine seq_assoc (seq_reg ?_)
      simp only [go_sem, binC, e5, gc_of hB.box, inBlk_some]
      refine seq_cond (t := false) (by simp only [go_sem, binC]; rw [decide_eq_false (by omega)]) ?_
      simp only [go_sem, binC]
      refine seq_exit ?_
      simp only [go_sem, binC, thenX_e]
      exact hK _ Hc bs sos l hB (by simp only [go_sem, binC, e4]) (by simp only [go_sem, binC, e5])
    obtain ⟨l1, l2, l3, l4, l5, l6⟩ := hB.lo
    obtain ⟨t1, t2, t3⟩ := hB.lts
    have hrbl := hB.rbl
    have hbox := hB.box
    refine lp_step ?_
    unfold beLoop4
    refine seq_assoc (seq_reg ?_)
    simp only [go_sem, binC, e5, gc_of hbox, inBlk_some]
    refine seq_cond (t := true) (by simp only [go_sem, binC]; rw [decide_eq_true (by omega)]) ?_
    simp only [go_sem, binC]
    refine seq_skip (wpc_block (wpc_reg ?_))
    simp only [go_sem, binC, e5, gc_of hbox, inBlk_some]
    refine op_app_own (xs := [bl, b5, H.length + 1]) hB.stp (by simp only [go_sem, binC]) (by simp only [go_sem, binC]) (by omega) (step_w _) (mkSt_rd (d := d) (tl := []) (el := []) (rgk (k := 3)) rg0 rg0 rg0 rg0 rg0 (slr_nil _ _) (slr_nil _ _)) (by omega) (by omega) (by simp; omega) fun H' hx hown => ?_
    have hbx : H'[b5]? = some ⟨[sli bl 0 ls.length, sli bs 0 l.length], 0, 0, false, true⟩ := hx.get hbox (by simp; omega)
    simp only [go_sem, binC, e5, hbx]
    refine ⟨by omega, ?_⟩
    simp only [go_sem, binC, out_n, thenX_n]
    have hB2 := hB.step hc hx hown (mkSt_sm (sm_nil _) (sm_nil _)) (by omega)
    have hla : ∀ a : TStep (d + 1), (l ++ [a]).length = l.length + 1 := fun a => by simp
    refine ih _ _ _ _ _ (.inr ?_) hB2 ?_ (by simp only [go_sem, binC, e4]) (by simp only [go_sem, binC, e5]) hK
    · rw [hla]; omega
    · rw [hla]; omega
end Go.Proofs.YtmakdcbpohlacaaI
end
section
/- Programs in which something is not as it was: the walk. -/
set_option linter.unusedVariables false
set_option linter.unusedSimpArgs false
namespace Go.Proofs.YtmakdcbpohlacaaI
open Go Go.RowKit
section
variable {H0 : Heap} {rb : Nat} {bv : Value} {code : List Int} {H : Heap} {d bl bs : Nat} {sol sos so' : Bool} {ls : List (Int × Int)} {l : List (TStep (d + 1))} {b5 : Nat} {p q : Int} {Hc Hc' H' : Heap}
theorem Be.wrap (hc : RdC H0 rb bv code) (h : Be H0 rb bv H d bl bs sol sos ls l b5 p Hc) :
    Be H0 rb bv H (d + 1) bl Hc.length sol true ls [mkSt (d + 1) 2 0 0 0 0 0 l []] b5 p ((Hc ++ ([⟨[.int .i64 2, .int .i64 0, .int .i64 0, .int .i64 0, .int .i64 0, .int .i64 0, sli bs 0 l.length, nilS], 8, 68, true, true⟩] : Heap)).set b5 ⟨[sli bl 0 ls.length, sli Hc.length 0 1], 0, 0, false, true⟩) := by
  have h1 := h.rbl
  obtain ⟨l1, l2, l3, l4, l5, l6⟩ := h.lo
  obtain ⟨t1, t2, t3⟩ := h.lts
  have hg := h.grow hc ([⟨[.int .i64 2, .int .i64 0, .int .i64 0, .int .i64 0, .int .i64 0, .int .i64 0, sli bs 0 l.length, nilS], 8, 68, true, true⟩] : Heap)
  have hbl := (List.getElem?_eq_some_iff.1 hg.box).1
  have hsl := (h.stp.slR (step_w _) (by simp; omega)).mono (vwl_sub (AgX.app [] Hc ([⟨[.int .i64 2, .int .i64 0, .int .i64 0, .int .i64 0, .int .i64 0, .int .i64 0, sli bs 0 l.length, nilS], 8, 68, true, true⟩] : Heap)) (Nat.le_refl _) (xs' := [Hc.length, bl, b5, H.length + 1]) fun b' h2 h3 h4 => ⟨by simp, by simp only [List.mem_cons, not_or] at h4 ⊢; exact ⟨by omega, h4⟩⟩)
  have hsm := h.sm
  have hlen := h.len
  refine ⟨hg.st.setN hc (by omega) _, hg.ag.setN (by omega) _, ?_, List.getElem?_set_self hbl, hg.lab.p2 (AgX.set _ _ _) (by simp; omega), ?_, ?_, h.ne, ⟨hlen.1, by simp⟩, ⟨l1, l2, by omega, l4, by omega, by omega⟩, h1⟩
  · rw [List.getElem?_set_ne (by omega)]
    exact hg.two
  · refine OwnG.sub (xs := [bl, b5, H.length + 1]) (H := Hc ++ ([⟨[.int .i64 2, .int .i64 0, .int .i64 0, .int .i64 0, .int .i64 0, .int .i64 0, sli bs 0 l.length, nilS], 8, 68, true, true⟩] : Heap)) ⟨by omega, by simp, _, get_new0 _ _, by simp, fun i hi => ?_⟩ (AgX.set _ _ _) (by simp; omega) (fun b' h2 h3 h4 h5 => ⟨by simp only [List.mem_cons, not_or, List.not_mem_nil, not_false_eq_true, and_true] at h5 ⊢; exact h5.2.1, h5⟩)
    obtain rfl : i = 0 := by simpa using hi
    exact mkSt_rd (rgk (k := 2)) rg0 rg0 rg0 rg0 rg0 hsl (slr_nil _ _)
  · intro a ha
    simp only [List.mem_singleton] at ha
    subst ha
    exact mkSt_sm ⟨by omega, hsm⟩ (sm_nil _)
/-- Labels were appended. -/
theorem Be.labs (hc : RdC H0 rb bv code) (h : Be H0 rb bv H d bl bs sol sos ls l b5 p Hc) {b' : Nat} {ls' : List (Int × Int)} (hx : AgX [bl] Hc H') (hb : b' = bl ∨ Hc.length ≤ b') (ho : OwnL Co.p2 2 59 H.length [] H' b' so' ls') (hne : ls' ≠ []) (hl : ls'.length ≤ 500) :
    Be H0 rb bv H d b' bs so' sos ls' l b5 p (H'.set b5 ⟨[sli b' 0 ls'.length, sli bs 0 l.length], 0, 0, false, true⟩) := by
  have h1 := h.rbl
  obtain ⟨l1, l2, l3, l4, l5, l6⟩ := h.lo
  obtain ⟨t1, t2, t3⟩ := h.lts
  have hbox := hx.get h.box (by simp; omega)
  have hs' : St H0 rb bv p H' := h.st.mono hc hx (fun b' hm => by simp only [List.mem_singleton] at hm; omega)
  refine ⟨hs'.setN hc (by omega) _, (h.ag.trans hx (fun _ h _ => h) (fun b' h2 h3 => by simp only [List.mem_singleton] at h2; omega)).setN (by omega) _, ?_, List.getElem?_set_self (List.getElem?_eq_some_iff.1 hbox).1, ho.p2 (AgX.set _ _ _) (by simp; omega), ?_, h.sm, hne, ⟨hl, h.len.2⟩, ⟨by omega, l2, l3, by omega, l5, by omega⟩, h1⟩
  · rw [List.getElem?_set_ne (by omega)]
    exact hx.get h.two (by simp; omega)
  · have h2 : OwnL (Co.step (d + 1)) 8 68 H.length [b', b5, H.length + 1] H' bs sos l := h.stp.sub hx (by simp; omega) (fun c h3 h4 h5 h6 => by
      simp only [List.mem_cons, not_or, List.not_mem_nil, not_false_eq_true, and_true] at h6 ⊢
      exact ⟨h6.1, by omega, h6.2⟩)
    exact h2.sub (AgX.set _ _ _) (by simp; omega) (fun c h3 h4 h5 h6 => ⟨by simp only [List.mem_cons, not_or, List.not_mem_nil, not_false_eq_true, and_true] at h6 ⊢; exact h6.2.1, h6⟩)
/-- The first label's readers were changed. -/
theorem Be.first (hc : RdC H0 rb bv code) (h : Be H0 rb bv H d bl bs sol sos ls l b5 p Hc) : ∃ cs es et, Hc[bl]? = some ⟨cs, es, et, true, sol⟩ ∧ 1 ≤ cs.length ∧ ∃ ls', ls'.length = ls.length ∧ Be H0 rb bv H d bl bs sol sos ls' l b5 p (Hc.set bl ⟨cs.set 0 (.int .i64 8), es, et, true, sol⟩) := by
  have h1 := h.rbl
  have hag := h.ag
  obtain ⟨l1, l2, l3, l4, l5, l6⟩ := h.lo
  obtain ⟨t1, t2, t3⟩ := h.lts
  obtain ⟨q1, q2, cs, q3, q4, q5⟩ := h.lab
  obtain ⟨a, r, rfl⟩ : ∃ a r, ls = a :: r := by
    cases ls with
    | nil => exact absurd rfl h.ne
    | cons a r => exact ⟨a, r, rfl⟩
  have hcl : 2 ≤ cs.length := by rw [q4, List.length_cons]; omega
  have hlen := h.len
  refine ⟨cs, 2, 59, q3, by omega, (8, a.2) :: r, by simp, ?_⟩
  refine ⟨h.st.setN hc (by omega) _, h.ag.setN (by omega) _, ?_, ?_, ⟨q1, by simpa using q2, cs.set 0 (.int .i64 8), List.getElem?_set_self t1, by simpa using q4, ?_⟩, h.stp.sub (AgX.set _ _ _) (by simp; omega) (fun c h3 h4 h5 h6 => ⟨by simp only [List.mem_cons, not_or, List.not_mem_nil, not_false_eq_true, and_true] at h6 ⊢; exact h6.1, h6⟩), h.sm, by simp, ⟨by simpa using hlen.1, hlen.2⟩, h.lo, h1⟩
  · rw [List.getElem?_set_ne (by omega)]; exact h.two
  · rw [List.getElem?_set_ne (by omega)]
    exact h.box
  · intro i hi
    cases i with
    | zero =>
      obtain ⟨x1, y1, e1, ⟨rfl, _⟩, ⟨rfl, hy⟩⟩ := q5 0 (by simp)
      obtain ⟨c0, c1, cr, rfl⟩ : ∃ c0 c1 cr, cs = c0 :: c1 :: cr := by
        match cs, hcl with
        | c0 :: c1 :: cr, _ => exact ⟨c0, c1, cr, rfl⟩
      simp only [Nat.zero_mul, List.drop_zero, List.take_succ_cons, List.take_zero, List.cons_append, List.nil_append, List.cons.injEq, and_true, List.getElem_cons_zero] at e1
      obtain ⟨_, e2⟩ := e1
      refine ⟨[.int .i64 8], [.int .i64 a.2], ?_, ⟨rfl, by simp⟩, ⟨rfl, hy⟩⟩
      simp [e2]
    | succ i =>
      have hq := q5 (i + 1) (by simpa using hi)
      have e1 : (cs.set 0 (.int .i64 8)).drop ((i + 1) * 2) = cs.drop ((i + 1) * 2) := by
        rw [List.drop_set_of_lt]
        omega
      rw [e1]
      exact hq
end
/-- The loop that wraps. -/
theorem beLoop5_ok {F : Nat → Option IFn} {H0 : Heap} {rb : Nat} {bv : Value} {code : List Int} (hc : RdC H0 rb bv code) {H : Heap} {bl b5 lo : Nat} {sol : Bool} {ls : List (Int × Int)} {p : Int} {K : X → Env → Heap → Prop} (hlo : lo ≤ rb) : ∀ (k i : Nat) (e : Env) (Hc : Heap) (d bs : Nat) (sos : Bool) (l : List (TStep (d + 1))), i + k = 4 → Be H0 rb bv H d bl bs sol sos ls l b5 p Hc → e 4 = ptr (H.length + 1) 0 → e 5 = ptr b5 0 → e 6 = .int .i64 i →
    (∀ e' Hc' d' bs' sos' l', Be H0 rb bv H d' bl bs' sol sos' ls l' b5 p Hc' → e' 4 = ptr (H.length + 1) 0 → e' 5 = ptr b5 0 → K (.e 3) e' Hc') → W F lo (.lp beLoop5) e Hc K := by
  intro k
  induction k with
  | zero =>
    intro i e Hc d bs sos l hk hB e4 e5 e6 hK
    unfold beLoop5
    refine lp_step ?_
    refine seq_assoc (seq_reg ?_)
    simp only [go_sem, binC, e6]
    refine seq_cond (t := false) (by simp only [go_sem, binC]; rw [decide_eq_false (by omega)]) ?_
    simp only [go_sem, binC]
    refine seq_exit ?_
    simp only [go_sem, binC, thenX_e]
    exact hK _ Hc d bs sos l hB (by simp only [go_sem, binC, e4]) (by simp only [go_sem, binC, e5])
  | succ k ih =>
    intro i e Hc d bs sos l hk hB e4 e5 e6 hK
    obtain ⟨l1, l2, l3, l4, l5, l6⟩ := hB.lo
    obtain ⟨t1, t2, t3⟩ := hB.lts
    have hrbl := hB.rbl
    have hbox := hB.box
    have hbx : ∀ L : Heap, (Hc ++ L)[b5]? = some ⟨[sli bl 0 ls.length, sli bs 0 l.length], 0, 0, false, true⟩ := fun L => by rw [List.getElem?_append_left t3]; exact hbox
    have hw1 : IntKind.i64.wrap ((i : Int) + 1) = ((i + 1 : Nat) : Int) := by rw [wrap_id (by omega) (by omega)]; omega
    refine lp_step ?_
    unfold beLoop5
    refine seq_assoc (seq_reg ?_)
    simp only [go_sem, binC, e6]
    refine seq_cond (t := true) (by simp only [go_sem, binC]; rw [decide_eq_true (by omega)]) ?_
    simp only [go_sem, binC]
    refine seq_skip (seq_block (wpc_reg ?_))
    simp only [go_sem, binC, e5, gc_of hbox, inBlk_some, hbx]
    refine ⟨by omega, ?_⟩
    simp only [go_sem, binC, out_n, thenX_n]
    refine wpc_reg ?_
    simp only [go_sem, binC, e6, hw1]
    simp only [go_sem, binC, thenX_n]
    exact ih (i + 1) _ _ _ _ _ _ (by omega) (hB.wrap hc) (by simp only [go_sem, binC, e4]) (by simp only [go_sem, binC, e5]) (by simp only [go_sem, binC]) hK
end Go.Proofs.YtmakdcbpohlacaaI
end
section
/- Programs in which something is not as it was: the whole. -/
set_option linter.unusedVariables false
set_option linter.unusedSimpArgs false
namespace Go.Proofs.YtmakdcbpohlacaaI
open Go Go.RowKit
def beEnd : ICode := (.seq (.reg none [
    ⟨(some 105), none, .load true 2 (.t 5)⟩,
    ⟨none, none, .store 2 (.t 4) (.t 105)⟩])
 (.ret))
theorem wpc_K0 {F : Nat → Option IFn} {lo : Nat} {c : ICode} {e : Env} {H : Heap} {K : X → Env → Heap → Prop} (h : wpc F lo c e H K) : wpc F lo c e H K := h
set_option maxRecDepth 20000 in
theorem drBent_ok {F : Nat → Option IFn} {f : Nat} (hf : F f = some c_drBent) (hpk : F 105 = some c_pick) (gcp : ∀ n, CopyOk F 114 n) {H0 : Heap} {rb : Nat} {bv : Value} {code : List Int} (hc : RdC H0 rb bv code) {H : Heap} {p : Int} {lo : Nat} {lv sv : Value} {ls : List (Int × Int)} {l : List (TStep 3)}
    (hs : St H0 rb bv p H) (hp : 0 ≤ p) (hp2 : p + 10 ≤ 1000000) (hlo : lo ≤ rb) (hV : ProgV 3 (vw 0 H) lv sv ls l) : ∃ v H' p', NC F lo f [ptr rb 0, .agg #[lv, sv]] H v H' ∧ (AgX [rb] H H' ∧ St H0 rb bv p' H' ∧ (p ≤ p' ∧ p' ≤ p + 10) ∧ ProgR H H' v) := by
  suffices h : ∃ v H', NC F lo f [ptr rb 0, .agg #[lv, sv]] H v H' ∧ (∃ p', AgX [rb] H H' ∧ St H0 rb bv p' H' ∧ (p ≤ p' ∧ p' ≤ p + 10) ∧ ProgR H H' v) by
    obtain ⟨v, H', h1, p', h2⟩ := h
    exact ⟨v, H', p', h1, h2⟩
  have hl := hs.lt
  have hc0 := hc.low
  have olv : one lv = true := by obtain ⟨⟨_, a, rfl, _⟩, _⟩ := hV; rfl
  have osv : one sv = true := by obtain ⟨_, ⟨_, a, rfl, _⟩, _⟩ := hV; rfl
  obtain ⟨hlv, hsv, hsm, hne, hl1, hl2⟩ := hV
  obtain ⟨vb, vo, ys, hlvE, hg, hyl, hye⟩ := sl_cells (w := 2) rfl hlv hne
  have hlen0 : ls.length ≠ 0 := fun h => hne (List.eq_nil_of_length_eq_zero h)
  refine NC.mk hf rfl ?_
  refine seq_reg ?_
  simp only [go_sem, binC, olv, osv]
  refine wpc_gen fun H1 hH1 => ?_
  have hs1 : St H0 rb bv p H1 := hH1 ▸ hs.appN hc _
  have ht1 : AgX [rb] H H1 := hH1 ▸ AgX.app [rb] _ _
  have h3 : H1[H.length]? = some ⟨[lv, sv], 0, 0, false, true⟩ := hH1 ▸ get_new0 _ _
  have h4 : H1[H.length + 1]? = some ⟨[nilS, nilS], 0, 0, false, true⟩ := hH1 ▸ get_new _ _ 1
  have hn1 : H1.length = H.length + 2 := by rw [hH1, List.length_append]; rfl
  have hcv : ∀ L, Sub (vw 0 H) (vw 0 (H1 ++ L)) := fun L => by rw [hH1, List.append_assoc]; exact vw_app 0 _ _
  have hgl : ∀ L, getCells (H1 ++ L) vb vo (ls.length * 2) = some ys := fun L => by
    unfold getCells at hg ⊢
    rw [hH1]
    split at hg
    · rename_i k hk
      rw [List.append_assoc, List.getElem?_append_left (List.getElem?_eq_some_iff.1 hk).1, hk]
      exact hg
    · cases hg
  clear hH1
  have hg3 : ∀ (L : Heap), getCells (H1 ++ L) H.length 0 1 = some [lv] := fun L => by
    rw [gc_of (show (H1 ++ L)[H.length]? = _ from by rw [List.getElem?_append_left (List.getElem?_eq_some_iff.1 h3).1]; exact h3)]
    rfl
  have hg3' : ∀ (L : Heap), getCells (H1 ++ L) H.length 1 1 = some [sv] := fun L => by
    rw [gc_of (show (H1 ++ L)[H.length]? = _ from by rw [List.getElem?_append_left (List.getElem?_eq_some_iff.1 h3).1]; exact h3)]
    rfl
  refine seq_regD ?_
  simp only [go_sem, binC, hg3]
  subst hlvE
  refine op_app_lit (b := H1.length) (c := 0) (m := ls.length) (so := true) (by (simp only [go_sem, binC]) <;> rfl) (by (simp only [go_sem, binC]) <;> rfl) hlen0 (hgl _) (get_new0 _ _) (by omega) (by omega) (by omega) ?_
  simp only [go_sem, binC, hg3']
  obtain ⟨b4, so4, l4, H4, k4, x4, o4, m4, n4⟩ := gcp 3 (H1 ++ [⟨[], 2, 59, true, true⟩, ⟨ys, 2, 59, true, true⟩]) sv l (hsv.mono (hcv _)) hsm.2
  refine op_callK (by simp only [go_sem, binC]; exact k4) ?_
  have hx4l := x4.1
  have hcl : (H1 ++ [⟨[], 2, 59, true, true⟩, ⟨ys, 2, 59, true, true⟩] : Heap).length = H1.length + 2 := by rw [List.length_append]; rfl
  rw [hcl] at hx4l
  simp only [go_sem, binC]
  refine ⟨by omega, ?_⟩
  refine wpc_gen fun H5 hH5 => ?_
  have hB : Be H0 rb bv H 2 (H1.length + 1) b4 true so4 ls l4 H4.length p H5 := by
    have hb4 := o4.1
    rw [hcl] at hb4
    have hb4l : b4 < H4.length := by obtain ⟨_, _, cs, h, _⟩ := o4; exact (List.getElem?_eq_some_iff.1 h).1
    have hx5 : AgX [] H4 H5 := hH5 ▸ AgX.app [] _ _
    have hxx : AgX [] (H1 ++ [⟨[], 2, 59, true, true⟩, ⟨ys, 2, 59, true, true⟩]) H5 := x4.tr hx5
    have hx15 : AgX [rb] H1 H5 := (AgX.app [rb] H1 _).trans hxx (fun _ h _ => h) (fun _ h _ => by cases h)
    refine ⟨(hs1.appN hc _).mono hc hxx (fun _ h => by cases h), ht1.tr hx15, hx15.get h4 (by simp; omega), hH5 ▸ get_new0 _ _, ⟨by omega, by omega, ys, hxx.get (get_new _ _ 1) (by simp), hyl, fun i hi => hye i hi⟩, ?_, m4.2, hne, ⟨by omega, by omega⟩, ⟨by omega, by omega, by omega, by omega, by omega, by omega⟩, hl⟩
    obtain ⟨q1, q2, cs, q3, q4, q5⟩ := o4
    rw [hcl] at q1
    refine ⟨by omega, q2, cs, hx5.get q3 (by simp), q4, fun i hi => (Co.step 3).mono (vwl_sub hx5 (by rw [hcl]; omega) fun b' h6 h7 h8 => ⟨by simp, ?_⟩) (q5 i hi)⟩
    rw [hcl] at h7
    simp only [List.mem_cons, not_or, List.not_mem_nil, not_false_eq_true, and_true] at h8 ⊢
    exact ⟨h8, by omega, by omega, by omega⟩
  clear hH5 o4 x4
  refine seq_assoc (seq_reg ?_)
  simp only [go_sem, binC]
  refine op_draw (n := 8) hpk hc hB.st (by omega) (by omega) hlo (by simp only [go_sem, binC]) (by simp only [go_sem, binC]) fun H6 hl6 hx6 hs6 => ?_
  have hB6 := hB.draw hx6 hs6
  generalize hbb : H4.length = b5 at hB6
  generalize hll : H1.length + 1 = bl at hB6
  simp only [go_sem, binC, hbb]
  refine wpc_genK fun KK hKK => ?_
  clear hB hx6 hs6 hl6 h3 h4 hg3 hg3' hgl hcv
  obtain ⟨q1, q2, q3, q4, q5, q6⟩ := hB6.lo
  obtain ⟨t1, t2, t3⟩ := hB6.lts
  have hrbl := hB6.rbl
  have hbox := hB6.box
  have hstp := hB6.stp
  have hlen := hB6.len
  -- the end
  refine wpc_K0 (seq_block ?_)
  rw [hKK]
  have fin : ∀ (e' : Env) (Hc : Heap) (p' : Int) (d' bs' : Nat) (bl' : Nat) (sol' sos' : Bool) (ls' : List (Int × Int)) (l' : List (TStep (d' + 1))), Be H0 rb bv H d' bl' bs' sol' sos' ls' l' b5 p' Hc → (p ≤ p' ∧ p' ≤ p + 10) → e' 4 = ptr (H.length + 1) 0 → e' 5 = ptr b5 0 → wpc F lo beEnd e' Hc (fin [.cell true 2 4] fun v H' => ∃ p', AgX [rb] H H' ∧ St H0 rb bv p' H' ∧ (p ≤ p' ∧ p' ≤ p + 10) ∧ ProgR H H' v) := by
    intro e' Hc p' d' bs' bl' sol' sos' ls' l' hE hp' e4 e5
    obtain ⟨z1, z2, z3, z4, z5, z6⟩ := hE.lo
    unfold beEnd
    refine seq_reg ?_
    simp only [go_sem, binC, e4, e5, gc_of hE.box, inBlk_some, hE.two]
    refine ⟨by omega, ?_⟩
    have h2l := (List.getElem?_eq_some_iff.1 hE.two).1
    have hl1 := hE.lab.slR rfl (by simp)
    have hs1 := hE.stp.slR (step_w _) (by simp; omega)
    have hlen := hE.len
    refine wpc_ret ⟨Or.inr rfl, _, (by (simp only [go_sem, binC, e4, gc_set h2l]) <;> rfl), p', hE.ag.setN (by omega) _, hE.st.setN hc (by omega) _, hp', d' + 1, _, _, ls', l', rfl, ?_, hs1.mono (vwl_sub (AgX.set _ _ _) (Nat.le_refl _) fun b' _ h5 h6 => ⟨by simp only [List.mem_cons, not_or, List.not_mem_nil, not_false_eq_true, and_true] at h6 ⊢; exact h6.2.2, by simp⟩), ⟨p2_sm (show ls'.length ≤ 1048576 by omega), ⟨show l'.length ≤ 1048576 by omega, hE.sm⟩⟩, hE.ne, by omega⟩
    exact ((hE.lab.p2 (xs' := []) (vl' := H.length) (AgX.set Hc (H.length + 1) _) (by simp; omega) : OwnL Co.p2 2 59 H.length [] _ bl' sol' ls').slR rfl (by simp))
  refine seq_reg ?_
  by_cases c0 : pickV code p 8 = 0
  · simp only [go_sem, binC, beq_t c0]
    refine wpc_cond (t := true) rfl ?_
    simp only [go_sem, binC]
    obtain ⟨cs, es, et, z1, z2, ls', z3, z4⟩ := hB6.first hc
    refine wpc_reg ?_
    simp only [go_sem, binC, gc_of hbox, inBlk_some, z1]
    refine ⟨⟨by omega, by omega⟩, ⟨by omega, z2⟩, ?_⟩
    simp only [go_sem, binC, out_n, thenX_n]
    exact fin _ _ _ _ _ _ _ _ _ _ z4 (by omega) (by simp only [go_sem, binC]) (by simp only [go_sem, binC])
  simp only [go_sem, binC, beq_f c0]
  refine wpc_cond (t := false) rfl ?_
  simp only [go_sem, binC]
  refine seq_reg ?_
  by_cases c1 : pickV code p 8 = 1
  · simp only [go_sem, binC, beq_t c1]
    refine wpc_cond (t := true) rfl ?_
    simp only [go_sem, binC]
    obtain ⟨N, n1⟩ : ∃ N, H6.length = N := ⟨_, rfl⟩
    have hgb : ∀ (B : Heap), B[b5]? = some ⟨[sli bl 0 ls.length, sli b4 0 l4.length], 0, 0, false, true⟩ → ∀ L, getCells (hide [rb] B ++ L) b5 1 1 = some [sli b4 0 l4.length] := fun B hb L => gc_hidO L (by rw [gc_of hb]; rfl) (by simp; omega)
    have hgb0 : getCells (hide [rb] H6) b5 1 1 = some [sli b4 0 l4.length] := by
      have := hgb H6 hbox []
      rwa [List.append_nil] at this
    refine wpc_regX [rb] (by simp; omega) ?_
    refine wpx_A rfl ?_
    simp only [go_sem, binC]
    refine wpx_A rfl ?_
    simp only [go_sem, binC, hgb0]
    refine wpx_A rfl ?_
    simp only [go_sem, binC]
    refine wpx_pick (n := 6) hpk hc hB6.st (by omega) (by omega) hlo (by simp only [go_sem, binC]) (by simp only [go_sem, binC]) fun B1 hl1 hx1 hs1' => ?_
    have hB7 := hB6.draw hx1 hs1'
    have hbd := pickV_bd code (p + 1) (n := 6) (by omega)
    refine wpx_A rfl ?_
    simp only [go_sem, binC]
    rw [wrap_id (x := pickV code (p + 1) 6 - 1) (by omega) (by omega)]
    refine wpx_A rfl ?_
    simp only [go_sem, binC]
    refine wpx_A rfl ?_
    simp only [go_sem, binC]
    refine wpx_zero ?_
    simp only [go_sem, binC, hide_length]
    refine op_app_own (xs := [bl, b5, H.length + 1]) hB7.stp (by simp only [go_sem, binC]) (by simp only [go_sem, binC]) (by omega) (step_w _) (mkSt_rd (d := 2) (tl := []) (el := []) (show Rg (pickV code (p + 1) 6 - 1) from by unfold Rg; omega) rg0 rg0 rg0 rg0 rg0 (slr_nil _ _) (slr_nil _ _)) (by omega) (by omega) (by simp; omega) fun H' hx hown => ?_
    have hbx : H'[b5]? = some ⟨[sli bl 0 ls.length, sli b4 0 l4.length], 0, 0, false, true⟩ := hx.get hB7.box (by simp; omega)
    simp only [go_sem, binC, hbx]
    refine ⟨by omega, ?_⟩
    simp only [go_sem, binC, out_n, thenX_n]
    exact fin _ _ _ _ _ _ _ _ _ _ (hB7.step hc hx hown (mkSt_sm (sm_nil _) (sm_nil _)) (by omega)) (by omega) (by simp only [go_sem, binC]) (by simp only [go_sem, binC])
  simp only [go_sem, binC, beq_f c1]
  refine wpc_cond (t := false) rfl ?_
  simp only [go_sem, binC]
  refine seq_reg ?_
  by_cases c2 : pickV code p 8 = 2
  · simp only [go_sem, binC, beq_t c2]
    refine wpc_cond (t := true) rfl ?_
    simp only [go_sem, binC]
    refine wpc_reg ?_
    simp only [go_sem, binC, gc_of hbox, inBlk_some]
    refine op_app_own (xs := [bl, b5, H.length + 1]) hB6.stp (by simp only [go_sem, binC]) (by simp only [go_sem, binC]) (by omega) (step_w _) (mkSt_rd (d := 2) (tl := []) (el := []) (rgk (k := 1)) (show Rg (ls.length : Int) from by unfold Rg; omega) (rgk (k := 1)) rg0 rg0 rg0 (slr_nil _ _) (slr_nil _ _)) (by omega) (by omega) (by simp; omega) fun H' hx hown => ?_
    have hbx : H'[b5]? = some ⟨[sli bl 0 ls.length, sli b4 0 l4.length], 0, 0, false, true⟩ := hx.get hB6.box (by simp; omega)
    simp only [go_sem, binC, hbx]
    refine ⟨by omega, ?_⟩
    simp only [go_sem, binC, out_n, thenX_n]
    exact fin _ _ _ _ _ _ _ _ _ _ (hB6.step hc hx hown (mkSt_sm (sm_nil _) (sm_nil _)) (by omega)) (by omega) (by simp only [go_sem, binC]) (by simp only [go_sem, binC])
  simp only [go_sem, binC, beq_f c2]
  refine wpc_cond (t := false) rfl ?_
  simp only [go_sem, binC]
  refine seq_reg ?_
  by_cases c3 : pickV code p 8 = 3
  · simp only [go_sem, binC, beq_t c3]
    refine wpc_cond (t := true) rfl ?_
    simp only [go_sem, binC]
    obtain ⟨N, n1⟩ : ∃ N, H6.length = N := ⟨_, rfl⟩
    have hgb : ∀ (B : Heap), B[b5]? = some ⟨[sli bl 0 ls.length, sli b4 0 l4.length], 0, 0, false, true⟩ → ∀ L, getCells (hide [rb] B ++ L) b5 1 1 = some [sli b4 0 l4.length] := fun B hb L => gc_hidO L (by rw [gc_of hb]; rfl) (by simp; omega)
    have hgb0 : getCells (hide [rb] H6) b5 1 1 = some [sli b4 0 l4.length] := by
      have := hgb H6 hbox []
      rwa [List.append_nil] at this
    refine wpc_regX [rb] (by simp; omega) ?_
    refine wpx_A rfl ?_
    simp only [go_sem, binC]
    refine wpx_A rfl ?_
    simp only [go_sem, binC, hgb0]
    refine wpx_A rfl ?_
    simp only [go_sem, binC, hide_length, n1]
    refine wpx_A rfl ?_
    simp only [go_sem, binC, hide_length, n1]
    refine wpx_pick (n := 6) hpk hc hB6.st (by omega) (by omega) hlo (by simp only [go_sem, binC]) (by simp only [go_sem, binC]) fun B1 hl1 hx1 hs1' => ?_
    have n2 := hl1.trans n1
    have hB7 := hB6.draw hx1 hs1'
    have hbd := pickV_bd code (p + 1) (n := 6) (by omega)
    refine wpx_A rfl ?_
    simp only [go_sem, binC]
    refine ⟨hbd, ?_⟩
    refine wpx_A rfl ?_
    have hi1 : (pickV code (p + 1) 6).toNat + 1 ≤ 6 := by omega
    simp only [go_sem, binC, Nat.mul_one, gc_hid n2, gc_hid0 n2, inBlk_some, tk6 (i := (pickV code (p + 1) 6).toNat) (by omega), hi1]
    refine wpx_A rfl ?_
    simp only [go_sem, binC, hide_length, n2]
    refine wpx_A rfl ?_
    simp only [go_sem, binC, hide_length, n2]
    refine wpx_pick (n := 3) hpk hc hB7.st (by omega) (by omega) hlo (by simp only [go_sem, binC]) (by simp only [go_sem, binC]) fun B2 hl2' hx2 hs2' => ?_
    have n3 := hl2'.trans n2
    have hB8 := hB7.draw hx2 hs2'
    have hbd2 := pickV_bd code (p + 1 + 1) (n := 3) (by omega)
    refine wpx_A rfl ?_
    simp only [go_sem, binC]
    refine ⟨hbd2, ?_⟩
    refine wpx_A rfl ?_
    have hi2 : (pickV code (p + 1 + 1) 3).toNat + 1 ≤ 3 := by omega
    simp only [go_sem, binC, Nat.mul_one, gc_hid n3, gc_hid0 n3, inBlk_some, tk3 (i := (pickV code (p + 1 + 1) 3).toNat) (by omega), hi2]
    refine wpx_A rfl ?_
    simp only [go_sem, binC]
    refine wpx_A rfl ?_
    simp only [go_sem, binC]
    refine wpx_A rfl ?_
    simp only [go_sem, binC, hide_length, n3]
    refine wpx_zero ?_
    subst n3
    simp only [go_sem, binC, hide_length]
    have hr1 : Rg ([1, 1, 2, 3, 0, 5].getD (pickV code (p + 1) 6).toNat 0) := by
      have : (pickV code (p + 1) 6).toNat = 0 ∨ (pickV code (p + 1) 6).toNat = 1 ∨ (pickV code (p + 1) 6).toNat = 2 ∨ (pickV code (p + 1) 6).toNat = 3 ∨ (pickV code (p + 1) 6).toNat = 4 ∨ (pickV code (p + 1) 6).toNat = 5 := by omega
      rcases this with h | h | h | h | h | h <;> rw [h] <;> simp [Rg]
    have hr2 : Rg ([10, -1, 4].getD (pickV code (p + 1 + 1) 3).toNat 0) := by
      have : (pickV code (p + 1 + 1) 3).toNat = 0 ∨ (pickV code (p + 1 + 1) 3).toNat = 1 ∨ (pickV code (p + 1 + 1) 3).toNat = 2 := by omega
      rcases this with h | h | h <;> rw [h] <;> simp [Rg]
    obtain ⟨H7, hH7⟩ : ∃ H7 : Heap, H7 = B2 ++ [⟨[.int .i64 1, .int .i64 1, .int .i64 2, .int .i64 3, .int .i64 0, .int .i64 5], 1, 3, true, true⟩, ⟨[.int .i64 10, .int .i64 (-1), .int .i64 4], 1, 3, true, true⟩] := ⟨_, rfl⟩
    have hn7 : H7.length = B2.length + 2 := by rw [hH7, List.length_append]; rfl
    have hsplit : ∀ x : Blk, (B2 ++ [⟨[.int .i64 1, .int .i64 1, .int .i64 2, .int .i64 3, .int .i64 0, .int .i64 5], 1, 3, true, true⟩, ⟨[.int .i64 10, .int .i64 (-1), .int .i64 4], 1, 3, true, true⟩, x] : Heap) = H7 ++ [x] := fun x => by rw [hH7, List.append_assoc]; rfl
    rw [hsplit]
    have hB9 := hB8.grow hc ([⟨[.int .i64 1, .int .i64 1, .int .i64 2, .int .i64 3, .int .i64 0, .int .i64 5], 1, 3, true, true⟩, ⟨[.int .i64 10, .int .i64 (-1), .int .i64 4], 1, 3, true, true⟩] : Heap)
    rw [← hH7] at hB9
    have hnn : B2.length + 2 = H7.length := hn7.symm
    refine op_app_own (xs := [bl, b5, H.length + 1]) hB9.stp (by simp only [go_sem, binC]) (by simp only [go_sem, binC]; rw [hnn]) (by omega) (step_w _) (mkSt_rd (d := 2) (tl := []) (el := []) (rgk (k := 1)) rg0 hr1 hr2 rg0 rg0 (slr_nil _ _) (slr_nil _ _)) (by omega) (by omega) (by simp; omega) fun H' hx hown => ?_
    have hbx : H'[b5]? = some ⟨[sli bl 0 ls.length, sli b4 0 l4.length], 0, 0, false, true⟩ := hx.get hB9.box (by simp; omega)
    simp only [go_sem, binC, hbx]
    refine ⟨by omega, ?_⟩
    simp only [go_sem, binC, out_n, thenX_n]
    exact fin _ _ _ _ _ _ _ _ _ _ (hB9.step hc hx hown (mkSt_sm (sm_nil _) (sm_nil _)) (by omega)) (by omega) (by simp only [go_sem, binC]) (by simp only [go_sem, binC])
  simp only [go_sem, binC, beq_f c3]
  refine wpc_cond (t := false) rfl ?_
  simp only [go_sem, binC]
  refine seq_reg ?_
  by_cases c4 : pickV code p 8 = 4
  · simp only [go_sem, binC, beq_t c4]
    refine wpc_cond (t := true) rfl ?_
    simp only [go_sem, binC]
    refine wpc_block (wpc_loop ?_)
    refine beLoop4_ok hc hlo (9 - l4.length) _ H6 b4 so4 l4 (by omega) hB6 (by omega) (by simp only [go_sem, binC]) (by simp only [go_sem, binC]) fun e' Hc' bs' sos' l' hE e4 e5 => ?_
    simp only [go_sem, binC, out_e, out_n, thenX_n]
    exact fin _ _ _ _ _ _ _ _ _ _ hE (by omega) e4 e5
  simp only [go_sem, binC, beq_f c4]
  refine wpc_cond (t := false) rfl ?_
  simp only [go_sem, binC]
  refine seq_reg ?_
  by_cases c5 : pickV code p 8 = 5
  · simp only [go_sem, binC, beq_t c5]
    refine wpc_cond (t := true) rfl ?_
    simp only [go_sem, binC]
    refine seq_reg ?_
    simp only [go_sem, binC]
    refine wpc_block (wpc_loop ?_)
    refine beLoop5_ok hc hlo 4 0 _ H6 2 b4 so4 l4 rfl hB6 (by simp only [go_sem, binC]) (by simp only [go_sem, binC]) (by (simp only [go_sem, binC]) <;> rfl) fun e' Hc' d' bs' sos' l' hE e4 e5 => ?_
    simp only [go_sem, binC, out_e, out_n, thenX_n]
    exact fin _ _ _ _ _ _ _ _ _ _ hE (by omega) e4 e5
  simp only [go_sem, binC, beq_f c5]
  refine wpc_cond (t := false) rfl ?_
  simp only [go_sem, binC]
  refine seq_reg ?_
  by_cases c6 : pickV code p 8 = 6
  · simp only [go_sem, binC, beq_t c6]
    refine wpc_cond (t := true) rfl ?_
    simp only [go_sem, binC]
    refine wpc_reg ?_
    simp only [go_sem, binC, gc_of hbox, inBlk_some]
    have hBg := hB6.grow hc ([⟨[.int .i64 0, .int .i64 0, .int .i64 0, .int .i64 0, .int .i64 0, .int .i64 0, .int .i64 0, .int .i64 0], 2, 59, true, true⟩] : Heap)
    refine op_app_ownN (l2 := [(0, 0), (0, 0), (0, 0), (0, 0)]) hBg.lab (by simp only [go_sem, binC]) (by (simp only [go_sem, binC]) <;> rfl) (by omega) rfl (gc_new0 H6 _ 0 8) (fun j hj => ?_) (by simp; omega) (by omega) (by simp) (Nat.le_refl _) fun H' b' so' hx hc' hb' hown => ?_
    · have : j = 0 ∨ j = 1 ∨ j = 2 ∨ j = 3 := by simp at hj; omega
      rcases this with rfl | rfl | rfl | rfl <;> exact ⟨[.int .i64 0], [.int .i64 0], rfl, ⟨rfl, by simp⟩, ⟨rfl, by simp⟩⟩
    have hbx : H'[b5]? = some ⟨[sli bl 0 ls.length, sli b4 0 l4.length], 0, 0, false, true⟩ := hx.get hBg.box (by simp; omega)
    simp only [go_sem, binC, hbx]
    refine ⟨by omega, ?_⟩
    simp only [go_sem, binC, out_n, thenX_n]
    exact fin _ _ _ _ _ _ _ _ _ _ (hBg.labs hc hx hb' hown (by simp) (by simp; omega)) (by omega) (by simp only [go_sem, binC]) (by simp only [go_sem, binC])
  simp only [go_sem, binC, beq_f c6]
  refine wpc_cond (t := false) rfl ?_
  simp only [go_sem, binC]
  refine wpc_reg ?_
  simp only [go_sem, binC, gc_of hbox, inBlk_some]
  refine op_app_own (xs := [bl, b5, H.length + 1]) hB6.stp (by simp only [go_sem, binC]) (by simp only [go_sem, binC]) (by omega) (step_w _) (mkSt_rd (d := 2) (tl := []) (el := []) (rgk (k := 3)) rg0 rg0 rg0 rg0 (rgk (k := 3)) (slr_nil _ _) (slr_nil _ _)) (by omega) (by omega) (by simp; omega) fun H' hx hown => ?_
  have hbx : H'[b5]? = some ⟨[sli bl 0 ls.length, sli b4 0 l4.length], 0, 0, false, true⟩ := hx.get hB6.box (by simp; omega)
  simp only [go_sem, binC, hbx]
  refine ⟨by omega, ?_⟩
  simp only [go_sem, binC, out_n, thenX_n]
  exact fin _ _ _ _ _ _ _ _ _ _ (hB6.step hc hx hown (mkSt_sm (sm_nil _) (sm_nil _)) (by omega)) (by omega) (by simp only [go_sem, binC]) (by simp only [go_sem, binC])
end Go.Proofs.YtmakdcbpohlacaaI
end
section
/- Programs that are drawn, some spoilt. -/
set_option linter.unusedVariables false
set_option linter.unusedSimpArgs false
namespace Go.Proofs.YtmakdcbpohlacaaI
open Go Go.RowKit
def anyRest : ICode := (.seq (.seq (.reg none [
     ⟨(some 11), none, .mov (.t 0)⟩,
     ⟨(some 12), none, .call .n (.f 105) [(.t 11), (.c (.int .i64 16))]⟩,
     ⟨(some 13), none, .bin .eql (.t 12) (.c (.int .i64 0))⟩])
  (.cond (.t 13) (.seq (.reg none [
      ⟨(some 14), none, .mov (.t 0)⟩,
      ⟨(some 15), none, .load true 2 (.t 3)⟩,
      ⟨(some 16), none, .call .n (.f 107) [(.t 14), (.t 15)]⟩,
      ⟨none, none, .store 2 (.t 2) (.t 16)⟩])
   (.ret)) (.skip)))
 (.seq (.reg none [
    ⟨(some 17), none, .load true 2 (.t 3)⟩,
    ⟨none, none, .store 2 (.t 2) (.t 17)⟩])
 (.ret)))
def c_drAny : IFn := ⟨1, 18, [.cell true 2 2],
 .seq (.reg none [
    ⟨(some 2), none, .new [(.slice none 0 0), (.slice none 0 0)]⟩])
 (.seq (.reg none [
    ⟨(some 4), none, .mov (.t 0)⟩,
    ⟨(some 5), none, .call .n (.f 104) [(.t 4)]⟩,
    ⟨(some 3), none, .new [(.slice none 0 0), (.slice none 0 0)]⟩,
    ⟨none, none, .store 2 (.t 3) (.t 5)⟩])
 (.seq (.seq (.reg none [
     ⟨(some 6), none, .mov (.t 0)⟩,
     ⟨(some 7), none, .call .n (.f 105) [(.t 6), (.c (.int .i64 3))]⟩,
     ⟨(some 8), none, .bin .gtr (.t 7) (.c (.int .i64 0))⟩])
  (.cond (.t 8) (.reg none [
     ⟨(some 9), none, .mov (.t 0)⟩,
     ⟨(some 10), none, .call .n (.f 106) [(.t 9)]⟩,
     ⟨none, none, .store 2 (.t 3) (.t 10)⟩]) (.skip)))
 anyRest))⟩
theorem drAny_ok {F : Nat → Option IFn} {f : Nat} (hf : F f = some c_drAny) (hpk : F 105 = some c_pick) {H0 : Heap} {rb : Nat} {bv : Value} {code : List Int} (hc : RdC H0 rb bv code) (gpr : DrawS F H0 rb bv 104 [] 40000 (ProgQ 3)) (gfn : DrawS F H0 rb bv 106 [] 40000 (ProgQ 3))
    (gbe : ∀ {H : Heap} {p : Int} {lo : Nat} {lv sv : Value} {ls : List (Int × Int)} {l : List (TStep 3)}, St H0 rb bv p H → 0 ≤ p → p + 10 ≤ 1000000 → lo ≤ rb → ProgV 3 (vw 0 H) lv sv ls l → ∃ v H' p', NC F lo 107 [ptr rb 0, .agg #[lv, sv]] H v H' ∧ (AgX [rb] H H' ∧ St H0 rb bv p' H' ∧ (p ≤ p' ∧ p' ≤ p + 10) ∧ ProgR H H' v)) : DrawS F H0 rb bv f [] 90000 ProgR := by
  refine DrawS.mk hf rfl fun H p lo hs hp hp2 hlo => ?_
  have hl := hs.lt
  have hne : H.length ≠ rb := by omega
  refine seq_reg ?_
  simp only [go_sem, binC]
  refine wpc_gen fun H1 hH1 => ?_
  have hs1 : St H0 rb bv p H1 := hH1 ▸ hs.appN hc _
  have ht1 : AgX [rb] H H1 := hH1 ▸ AgX.app [rb] _ _
  have hb1 : H1[H.length]? = some ⟨[nilS, nilS], 0, 0, false, true⟩ := hH1 ▸ get_new0 _ _
  have hn1 : H1.length = H.length + 1 := by rw [hH1, List.length_append]; rfl
  clear hH1
  refine seq_reg ?_
  simp only [go_sem, binC]
  obtain ⟨v2, H2, p2, k2, x2, s2, c2, lv, sv, ls, l, rfl, hV2⟩ := gpr H1 p lo hs1 hp (by omega) hlo
  refine op_callN (by simp only [go_sem, binC]; exact k2) ?_
  have olv : one lv = true := by obtain ⟨⟨_, a, rfl, _⟩, _⟩ := hV2; rfl
  have osv : one sv = true := by obtain ⟨_, ⟨_, a, rfl, _⟩, _⟩ := hV2; rfl
  have hl2 := x2.1
  simp only [go_sem, binC, olv, osv]
  refine ⟨by omega, ?_⟩
  refine wpc_gen fun H3 hH3 => ?_
  have hs3 : St H0 rb bv p2 H3 := hH3 ▸ s2.appN hc _
  have ht3 : AgX [rb] H H3 := hH3 ▸ (ht1.tr x2).appN _
  have hb3 : H3[H.length]? = some ⟨[nilS, nilS], 0, 0, false, true⟩ := by
    have := x2.get hb1 (by simpa using hne)
    rw [hH3, List.getElem?_append_left (List.getElem?_eq_some_iff.1 this).1]
    exact this
  have hbx : H3[H2.length]? = some ⟨[lv, sv], 0, 0, false, true⟩ := hH3 ▸ get_new0 _ _
  have hV3 : ProgV 3 (vwl H.length [H2.length, H.length] H3) lv sv ls l := by
    subst hH3
    exact hV2.mono (vwl_sub (AgX.app [] H2 _) (by omega) fun b' h1 h2 _ => ⟨by simp, by simp; omega⟩)
  clear hH3 hV2
  refine seq_assoc (seq_reg ?_)
  simp only [go_sem, binC]
  refine op_draw (n := 3) hpk hc hs3 (by omega) (by omega) hlo (by simp only [go_sem, binC]) (by simp only [go_sem, binC]) fun H4 hl4 hx4 hs4 => ?_
  simp only [go_sem, binC]
  refine wpc_genK fun KK hKK => ?_
  have hrest : ∀ (e' : Env) (Hc : Heap) (q : Int) (lv sv : Value) (ls : List (Int × Int)) (l : List (TStep 3)), St H0 rb bv q Hc → AgX [rb] H Hc → Hc[H.length]? = some ⟨[nilS, nilS], 0, 0, false, true⟩ → Hc[H2.length]? = some ⟨[lv, sv], 0, 0, false, true⟩ → ProgV 3 (vwl H.length [H2.length, H.length] Hc) lv sv ls l → (p ≤ q ∧ q ≤ p + 80001) →
      e' 0 = ptr rb 0 → e' 2 = ptr H.length 0 → e' 3 = ptr H2.length 0 → wpc F lo anyRest e' Hc KK := by
    intro e' Hc q lv sv ls l hs ht hb hbx hV hq e0 e2 e3
    rw [hKK]
    have olv : one lv = true := by obtain ⟨⟨_, a, rfl, _⟩, _⟩ := hV; rfl
    have osv : one sv = true := by obtain ⟨_, ⟨_, a, rfl, _⟩, _⟩ := hV; rfl
    unfold anyRest
    refine seq_assoc (seq_reg ?_)
    simp only [go_sem, binC, e0]
    refine op_draw (n := 16) hpk hc hs (by omega) (by omega) hlo (by simp only [go_sem, binC, e0]) (by simp only [go_sem, binC]) fun H5 hl5 hx5 hs5 => ?_
    have hb5 := hx5.get hb (by simpa using hne)
    have hbx5 := hx5.get hbx (by simp; omega)
    have ht5 := ht.tr hx5
    have hV5 : ProgV 3 (vwl H.length [H2.length, H.length] H5) lv sv ls l := hV.mono (vwl_sub hx5 (Nat.le_refl _) fun b' h1 h2 h3 => ⟨by simp; omega, h3⟩)
    simp only [go_sem, binC]
    by_cases h0 : pickV code q 16 = 0
    · simp only [go_sem, binC, beq_t h0]
      refine seq_cond (t := true) rfl ?_
      simp only [go_sem, binC]
      refine seq_assoc (seq_reg ?_)
      simp only [go_sem, binC, e0, e3, gc_of hbx5, inBlk_some]
      obtain ⟨v6, H6, p6, k6, x6, s6, c6, d6, lv6, sv6, ls6, l6, rfl, r1, r2, r3, r4, r5⟩ := gbe (lo := lo) hs5 (by omega) (by omega) hlo (hV5.mono (vwl0 _ _ _))
      refine op_callN (by simp only [go_sem, binC, e0]; exact k6) ?_
      have hb6 := x6.get hb5 (by simpa using hne)
      have olv6 : one lv6 = true := by obtain ⟨_, a, rfl, _⟩ := r1; rfl
      have osv6 : one sv6 = true := by obtain ⟨_, a, rfl, _⟩ := r2; rfl
      simp only [go_sem, binC, e2, hb6, olv6, osv6]
      refine ⟨by omega, ?_⟩
      have h6l := (List.getElem?_eq_some_iff.1 hb6).1
      have hH5 := ht5.1
      have h5l := (List.getElem?_eq_some_iff.1 hb5).1
      have hsub : Sub (vwl H5.length [] H6) (vwl H.length [] (H6.set H.length ⟨[lv6, sv6], 0, 0, false, true⟩)) := vwl_sub (AgX.set _ _ _) hH5 fun b' h1 h2 _ => ⟨by simp; omega, by simp⟩
      exact seq_ret ⟨Or.inr rfl, _, (by (simp only [go_sem, binC, e2, gc_set h6l]) <;> rfl), p6, (ht5.tr x6).setN (Nat.le_refl _) _, s6.setN hc hl _, by omega, d6, lv6, sv6, ls6, l6, rfl, r1.mono hsub, r2.mono hsub, r3, r4, r5⟩
    · simp only [go_sem, binC, beq_f h0]
      refine seq_cond (t := false) rfl ?_
      simp only [go_sem, binC]
      refine seq_skip (seq_reg ?_)
      simp only [go_sem, binC, e2, e3, gc_of hbx5, inBlk_some, hb5, olv, osv]
      refine ⟨by omega, ?_⟩
      have h5l := (List.getElem?_eq_some_iff.1 hb5).1
      have hsub : Sub (vwl H.length [H2.length, H.length] H5) (vwl H.length [] (H5.set H.length ⟨[lv, sv], 0, 0, false, true⟩)) := vwl_sub (AgX.set _ _ _) (Nat.le_refl _) fun b' h1 h2 h3 => ⟨by simp only [List.mem_cons, not_or, List.not_mem_nil, not_false_eq_true, and_true] at h3 ⊢; exact h3.2, by simp⟩
      exact wpc_ret ⟨Or.inr rfl, _, (by (simp only [go_sem, binC, e2, gc_set h5l]) <;> rfl), q + 1, ht5.setN (Nat.le_refl _) _, hs5.setN hc hl _, by omega, 3, lv, sv, ls, l, rfl, hV5.1.mono hsub, hV5.2.1.mono hsub, hV5.2.2.1, hV5.2.2.2.1, by have := hV5.2.2.2.2.1; omega⟩
  have hb4 := hx4.get hb3 (by simpa using hne)
  have hbx4 := hx4.get hbx (by simp; omega)
  have ht4 := ht3.tr hx4
  have hV4 : ProgV 3 (vwl H.length [H2.length, H.length] H4) lv sv ls l := hV3.mono (vwl_sub hx4 (Nat.le_refl _) fun b' h1 h2 h3 => ⟨by simp; omega, h3⟩)
  by_cases h0 : 0 < pickV code p2 3
  · simp only [go_sem, binC, decide_eq_true h0]
    refine seq_cond (t := true) rfl ?_
    simp only [go_sem, binC]
    refine seq_reg ?_
    simp only [go_sem, binC]
    obtain ⟨v5, H5, p5, k5, x5, s5, c5, lv5, sv5, ls5, l5, rfl, hV5⟩ := gfn H4 (p2 + 1) lo hs4 (by omega) (by omega) hlo
    refine op_callN (by simp only [go_sem, binC]; exact k5) ?_
    have olv5 : one lv5 = true := by obtain ⟨⟨_, a, rfl, _⟩, _⟩ := hV5; rfl
    have osv5 : one sv5 = true := by obtain ⟨_, ⟨_, a, rfl, _⟩, _⟩ := hV5; rfl
    have hbx5 := x5.get hbx4 (by simp; omega)
    simp only [go_sem, binC, hbx5, olv5, osv5]
    refine ⟨by omega, ?_⟩
    have hbl5 := (List.getElem?_eq_some_iff.1 hbx4).1
    have hb4l := (List.getElem?_eq_some_iff.1 hb4).1
    have hH4 := ht4.1
    exact hrest _ _ p5 lv5 sv5 ls5 l5 (s5.setN hc (by omega) _) ((ht4.tr x5).setN (by omega) _) (by rw [List.getElem?_set_ne (by omega)]; exact x5.get hb4 (by simpa using hne)) (List.getElem?_set_self (List.getElem?_eq_some_iff.1 hbx5).1) (hV5.mono (vwl_sub (AgX.set _ _ _) hH4 fun b' h1 h2 _ => ⟨by simp; omega, by simp; omega⟩)) (by omega) (by simp only [go_sem, binC]) (by simp only [go_sem, binC]) (by simp only [go_sem, binC])
  · simp only [go_sem, binC, decide_eq_false h0]
    refine seq_cond (t := false) rfl ?_
    simp only [go_sem, binC]
    refine seq_skip ?_
    exact hrest _ _ (p2 + 1) lv sv ls l hs4 ht4 hb4 hbx4 hV4 (by omega) (by simp only [go_sem, binC]) (by simp only [go_sem, binC]) (by simp only [go_sem, binC])
end Go.Proofs.YtmakdcbpohlacaaI
end
section
/- A guard that is told nothing. -/
set_option linter.unusedVariables false
set_option linter.unusedSimpArgs false
namespace Go.Proofs.YtmakdcbpohlacaaI
open Go Go.RowKit
section
variable (F : Nat → Option IFn) (lo : Nat) (e : Env) (H : Heap)
theorem runs_undef {d : Option Nat} {op : IOp} {g : Nat} {w : Bool} (hg : e g = undef) : IOper.runs ⟨d, some (g, w), op⟩ e = false := by
  simp [IOper.runs, hg, undef]
@[go_sem] theorem wpo_offU (d : Option Nat) (op : IOp) (r : List IOper) (K : Env → Heap → Prop) (g : Nat) (w : Bool) (hg : e g = undef) : wpo F lo (⟨d, some (g, w), op⟩ :: r) e H K = wpo F lo r (putE e d undef) H K :=
  propext ⟨fun h => h.2 (runs_undef e hg), fun h => ⟨fun h' => (by rw [runs_undef e hg] at h'; cases h'), fun _ => h⟩⟩
@[go_sem] theorem wpp_offU (p : Nat) (d : Option Nat) (op : IOp) (r : List IOper) (K : Env → Heap → Prop) (g : Nat) (w : Bool) (hg : e g = undef) : wpp F lo (p + 1) (⟨d, some (g, w), op⟩ :: r) e H K = wpp F lo p r (putE e d undef) H K :=
  propext ⟨fun h => h.2 (runs_undef e hg), fun h => ⟨fun h' => (by rw [runs_undef e hg] at h'; cases h'), fun _ => h⟩⟩
end
end Go.Proofs.YtmakdcbpohlacaaI
end
section
/- The program's test of steps, in segments. -/
set_option linter.unusedVariables false
set_option linter.unusedSimpArgs false
namespace Go.Proofs.YtmakdcbpohlacaaI
open Go Go.RowKit
attribute [local irreducible] optP wpo wpp wpc binI Kc Kp wpOp thenX eqsV
def Same (e e1 : Env) : Prop := e1 2 = e 2 ∧ e1 3 = e 3 ∧ e1 8 = e 8 ∧ e1 10 = e 10 ∧ e1 11 = e 11 ∧ e1 12 = e 12
theorem Same.refl (e : Env) : Same e e := ⟨rfl, rfl, rfl, rfl, rfl, rfl⟩
theorem Same.trans {e e1 e2 : Env} (h : Same e e1) (h' : Same e1 e2) : Same e e2 :=
  ⟨h'.1.trans h.1, h'.2.1.trans h.2.1, h'.2.2.1.trans h.2.2.1, h'.2.2.2.1.trans h.2.2.2.1, h'.2.2.2.2.1.trans h.2.2.2.2.1, h'.2.2.2.2.2.trans h.2.2.2.2.2⟩
theorem seg1 {F : Nat → Option IFn} {lo : Nat} {H : Heap} {e : Env} {r : List IOper} {K : Env → Heap → Prop} {c : Nat}  {m : Nat} (g1 : VarOk F 98) {v0 v1 : Value} {p : TProg m} {b : Nat} {d a1 : Int} (hp : Rd (Co.prog m) true (vw 0 H) (.agg #[v0, v1]) p) (e2 : e 2 = .int .i64 d) (e3 : e 3 = ptr b 0) (e8 : e 8 = ptr c 0) (gb : getCells H b 0 2 = some [v0, v1]) (gc1 : getCells H c 1 1 = some [.int .i64 a1]) (hK : ∀ e1, Same e e1 → e1 24 = .bool (decide (d < 1) || !varB p.1.length a1) → wpo F lo r e1 H K) : wpo F lo (⟨(some 16), none, .mov (.t 2)⟩ :: ⟨(some 17), none, .bin .lss (.t 16) (.c (.int .i64 1))⟩ :: ⟨(some 18), none, .mov (.t 17)⟩ :: ⟨(some 19), (some (18, false)), .load true 2 (.t 3)⟩ :: ⟨(some 20), (some (18, false)), .fad 1 (.t 8)⟩ :: ⟨(some 21), (some (18, false)), .load false 1 (.t 20)⟩ :: ⟨(some 22), (some (18, false)), .call .q (.f 98) [(.t 19), (.t 21)]⟩ :: ⟨(some 23), (some (18, false)), .un .not (.t 22)⟩ :: ⟨(some 24), none, .pick (.t 18) (.c (.bool true)) (.t 23)⟩ :: r) e H K := by
  repeat' (first
    | refine seq_assoc ?_
    | refine seq_reg ?_
    | refine seq_skip ?_
    | refine seq_regD ?_
    | refine seq_cond (t := true) rfl ?_
    | refine seq_cond (t := false) rfl ?_
    | refine wpc_cond (t := true) rfl ?_
    | refine wpc_cond (t := false) rfl ?_
    | refine seq_block ?_
    | refine wpc_block ?_
    | refine seq_ret ?_
    | refine wpc_ret ?_
    | refine wpc_reg ?_
    | refine wpc_regD ?_
    | refine wpc_skip ?_
    | refine fin_t rfl ?_
    | refine seq_exit ?_
    | refine wpc_exit ?_
    | refine eqs_rule (fun _ => ?_) (fun _ => ?_)
    | refine cmp_lss (fun _ => ?_) (fun _ => ?_)
    | refine cmp_leq (fun _ => ?_) (fun _ => ?_)
    | refine cmp_gtr (fun _ => ?_) (fun _ => ?_)
    | refine cmp_geq (fun _ => ?_) (fun _ => ?_)
    | refine cmp_eql (fun _ => ?_) (fun _ => ?_)
    | refine cmp_neq (fun _ => ?_) (fun _ => ?_)
    | (refine op_callB (by simp only [go_sem, out_n, out_r, out_e, thenX_n, thenX_r, thenX_e, e2, e3, e8, gb, gc1]; exact g1 _ m _ p _ hp) (fun _ => ?_) (fun _ => ?_))
    | simp only [go_sem, out_n, out_r, out_e, thenX_n, thenX_r, thenX_e, e2, e3, e8, gb, gc1]
    )
  all_goals (refine hK _ ?_ ?_ <;> first | exact ⟨by simp only [go_sem, binC], by simp only [go_sem, binC], by simp only [go_sem, binC], by simp only [go_sem, binC], by simp only [go_sem, binC], by simp only [go_sem, binC]⟩ | (simp only [go_sem, binC]; simp [*]; done) | (simp only [go_sem, binC]; simp_all; done))
theorem seg2 {F : Nat → Option IFn} {lo : Nat} {H : Heap} {e : Env} {r : List IOper} {K : Env → Heap → Prop} {c : Nat}  {t : Bool} {a0 a2 a3 a4 : Int} (e24 : e 24 = .bool t) (e8 : e 8 = ptr c 0) (gc0 : getCells H c 0 1 = some [.int .i64 a0]) (gc2 : getCells H c 2 3 = some [.int .i64 a2, .int .i64 a3, .int .i64 a4]) (hK : ∀ e1, Same e e1 → e1 35 = .bool (t || (!decide (a0 = 1) && !decide ((a2, a3, a4) = (0, 0, 0)))) → wpo F lo r e1 H K) : wpo F lo (⟨(some 25), none, .mov (.t 24)⟩ :: ⟨(some 26), (some (25, false)), .fad 0 (.t 8)⟩ :: ⟨(some 27), (some (25, false)), .load false 1 (.t 26)⟩ :: ⟨(some 28), (some (25, false)), .bin .neq (.t 27) (.c (.int .i64 1))⟩ :: ⟨(some 29), (some (25, false)), .mov (.t 28)⟩ :: ⟨(some 30), (some (29, true)), .fad 2 (.t 8)⟩ :: ⟨(some 31), (some (29, true)), .load true 3 (.t 30)⟩ :: ⟨(some 32), (some (29, true)), .build [(.int .i64 0), (.int .i64 0), (.int .i64 0)] []⟩ :: ⟨(some 33), (some (29, true)), .eqs true 3 (.t 31) (.t 32)⟩ :: ⟨(some 34), (some (25, false)), .pick (.t 29) (.t 33) (.c (.bool false))⟩ :: ⟨(some 35), none, .pick (.t 25) (.c (.bool true)) (.t 34)⟩ :: r) e H K := by
  cases t
  all_goals skip
  repeat' (first
    | refine seq_assoc ?_
    | refine seq_reg ?_
    | refine seq_skip ?_
    | refine seq_regD ?_
    | refine seq_cond (t := true) rfl ?_
    | refine seq_cond (t := false) rfl ?_
    | refine wpc_cond (t := true) rfl ?_
    | refine wpc_cond (t := false) rfl ?_
    | refine seq_block ?_
    | refine wpc_block ?_
    | refine seq_ret ?_
    | refine wpc_ret ?_
    | refine wpc_reg ?_
    | refine wpc_regD ?_
    | refine wpc_skip ?_
    | refine fin_t rfl ?_
    | refine seq_exit ?_
    | refine wpc_exit ?_
    | refine eqs_rule (fun _ => ?_) (fun _ => ?_)
    | refine cmp_lss (fun _ => ?_) (fun _ => ?_)
    | refine cmp_leq (fun _ => ?_) (fun _ => ?_)
    | refine cmp_gtr (fun _ => ?_) (fun _ => ?_)
    | refine cmp_geq (fun _ => ?_) (fun _ => ?_)
    | refine cmp_eql (fun _ => ?_) (fun _ => ?_)
    | refine cmp_neq (fun _ => ?_) (fun _ => ?_)
    | simp only [go_sem, out_n, out_r, out_e, thenX_n, thenX_r, thenX_e, e24, e8, gc0, gc2]
    )
  all_goals (refine hK _ ?_ ?_ <;> first | exact ⟨by simp only [go_sem, binC], by simp only [go_sem, binC], by simp only [go_sem, binC], by simp only [go_sem, binC], by simp only [go_sem, binC], by simp only [go_sem, binC]⟩ | (simp only [go_sem, binC]; simp [*]; done) | (simp only [go_sem, binC]; simp_all; done))
theorem seg3 {F : Nat → Option IFn} {lo : Nat} {H : Heap} {e : Env} {r : List IOper} {K : Env → Heap → Prop} {c : Nat}  {t : Bool} {a0 a5 : Int} (e35 : e 35 = .bool t) (e8 : e 8 = ptr c 0) (gc0 : getCells H c 0 1 = some [.int .i64 a0]) (gc5 : getCells H c 5 1 = some [.int .i64 a5]) (hK : ∀ e1, Same e e1 → e1 45 = .bool (t || (!decide (a0 = 3) && !decide (a5 = 0))) → wpo F lo r e1 H K) : wpo F lo (⟨(some 36), none, .mov (.t 35)⟩ :: ⟨(some 37), (some (36, false)), .fad 0 (.t 8)⟩ :: ⟨(some 38), (some (36, false)), .load false 1 (.t 37)⟩ :: ⟨(some 39), (some (36, false)), .bin .neq (.t 38) (.c (.int .i64 3))⟩ :: ⟨(some 40), (some (36, false)), .mov (.t 39)⟩ :: ⟨(some 41), (some (40, true)), .fad 5 (.t 8)⟩ :: ⟨(some 42), (some (40, true)), .load false 1 (.t 41)⟩ :: ⟨(some 43), (some (40, true)), .bin .neq (.t 42) (.c (.int .i64 0))⟩ :: ⟨(some 44), (some (36, false)), .pick (.t 40) (.t 43) (.c (.bool false))⟩ :: ⟨(some 45), none, .pick (.t 36) (.c (.bool true)) (.t 44)⟩ :: r) e H K := by
  cases t
  all_goals skip
  repeat' (first
    | refine seq_assoc ?_
    | refine seq_reg ?_
    | refine seq_skip ?_
    | refine seq_regD ?_
    | refine seq_cond (t := true) rfl ?_
    | refine seq_cond (t := false) rfl ?_
    | refine wpc_cond (t := true) rfl ?_
    | refine wpc_cond (t := false) rfl ?_
    | refine seq_block ?_
    | refine wpc_block ?_
    | refine seq_ret ?_
    | refine wpc_ret ?_
    | refine wpc_reg ?_
    | refine wpc_regD ?_
    | refine wpc_skip ?_
    | refine fin_t rfl ?_
    | refine seq_exit ?_
    | refine wpc_exit ?_
    | refine eqs_rule (fun _ => ?_) (fun _ => ?_)
    | refine cmp_lss (fun _ => ?_) (fun _ => ?_)
    | refine cmp_leq (fun _ => ?_) (fun _ => ?_)
    | refine cmp_gtr (fun _ => ?_) (fun _ => ?_)
    | refine cmp_geq (fun _ => ?_) (fun _ => ?_)
    | refine cmp_eql (fun _ => ?_) (fun _ => ?_)
    | refine cmp_neq (fun _ => ?_) (fun _ => ?_)
    | simp only [go_sem, out_n, out_r, out_e, thenX_n, thenX_r, thenX_e, e35, e8, gc0, gc5]
    )
  all_goals (refine hK _ ?_ ?_ <;> first | exact ⟨by simp only [go_sem, binC], by simp only [go_sem, binC], by simp only [go_sem, binC], by simp only [go_sem, binC], by simp only [go_sem, binC], by simp only [go_sem, binC]⟩ | (simp only [go_sem, binC]; simp [*]; done) | (simp only [go_sem, binC]; simp_all; done))
theorem seg4 {F : Nat → Option IFn} {lo : Nat} {H : Heap} {e : Env} {r : List IOper} {K : Env → Heap → Prop} {c : Nat}  {t : Bool} {a0 : Int} {u6 u7 : Option Addr} {n6 n7 : Nat} (e45 : e 45 = .bool t) (e8 : e 8 = ptr c 0) (gc0 : getCells H c 0 1 = some [.int .i64 a0]) (gc6 : getCells H c 6 1 = some [.slice u6 n6 n6]) (gc7 : getCells H c 7 1 = some [.slice u7 n7 n7]) (ha : IntKind.i64.wrap ((n6 : Int) + (n7 : Int)) = (n6 : Int) + (n7 : Int)) (hK : ∀ e1, Same e e1 → e1 60 = .bool (t || (!decide (a0 = 2) && decide (0 < (n6 : Int) + n7))) → wpo F lo r e1 H K) : wpo F lo (⟨(some 46), none, .mov (.t 45)⟩ :: ⟨(some 47), (some (46, false)), .fad 0 (.t 8)⟩ :: ⟨(some 48), (some (46, false)), .load false 1 (.t 47)⟩ :: ⟨(some 49), (some (46, false)), .bin .neq (.t 48) (.c (.int .i64 2))⟩ :: ⟨(some 50), (some (46, false)), .mov (.t 49)⟩ :: ⟨(some 51), (some (50, true)), .fad 6 (.t 8)⟩ :: ⟨(some 52), (some (50, true)), .load false 1 (.t 51)⟩ :: ⟨(some 53), (some (50, true)), .len (.t 52)⟩ :: ⟨(some 54), (some (50, true)), .fad 7 (.t 8)⟩ :: ⟨(some 55), (some (50, true)), .load false 1 (.t 54)⟩ :: ⟨(some 56), (some (50, true)), .len (.t 55)⟩ :: ⟨(some 57), (some (50, true)), .bin .add (.t 53) (.t 56)⟩ :: ⟨(some 58), (some (50, true)), .bin .gtr (.t 57) (.c (.int .i64 0))⟩ :: ⟨(some 59), (some (46, false)), .pick (.t 50) (.t 58) (.c (.bool false))⟩ :: ⟨(some 60), none, .pick (.t 46) (.c (.bool true)) (.t 59)⟩ :: r) e H K := by
  cases t
  all_goals skip
  repeat' (first
    | refine seq_assoc ?_
    | refine seq_reg ?_
    | refine seq_skip ?_
    | refine seq_regD ?_
    | refine seq_cond (t := true) rfl ?_
    | refine seq_cond (t := false) rfl ?_
    | refine wpc_cond (t := true) rfl ?_
    | refine wpc_cond (t := false) rfl ?_
    | refine seq_block ?_
    | refine wpc_block ?_
    | refine seq_ret ?_
    | refine wpc_ret ?_
    | refine wpc_reg ?_
    | refine wpc_regD ?_
    | refine wpc_skip ?_
    | refine fin_t rfl ?_
    | refine seq_exit ?_
    | refine wpc_exit ?_
    | refine eqs_rule (fun _ => ?_) (fun _ => ?_)
    | refine cmp_lss (fun _ => ?_) (fun _ => ?_)
    | refine cmp_leq (fun _ => ?_) (fun _ => ?_)
    | refine cmp_gtr (fun _ => ?_) (fun _ => ?_)
    | refine cmp_geq (fun _ => ?_) (fun _ => ?_)
    | refine cmp_eql (fun _ => ?_) (fun _ => ?_)
    | refine cmp_neq (fun _ => ?_) (fun _ => ?_)
    | simp only [go_sem, out_n, out_r, out_e, thenX_n, thenX_r, thenX_e, e45, e8, gc0, gc6, gc7, ha]
    )
  all_goals (refine hK _ ?_ ?_ <;> first | exact ⟨by simp only [go_sem, binC], by simp only [go_sem, binC], by simp only [go_sem, binC], by simp only [go_sem, binC], by simp only [go_sem, binC], by simp only [go_sem, binC]⟩ | (simp only [go_sem, binC]; simp [*]; done) | (simp only [go_sem, binC]; simp_all; done))
end Go.Proofs.YtmakdcbpohlacaaI
end
section
/- The program's test of steps: what is done for each kind. -/
set_option linter.unusedVariables false
set_option linter.unusedSimpArgs false
namespace Go.Proofs.YtmakdcbpohlacaaI
open Go Go.RowKit
attribute [local irreducible] optP wpo wpp wpc binI Kc Kp wpOp thenX eqsV
def c_tests : List IOper := [
          ⟨(some 16), none, .mov (.t 2)⟩,
          ⟨(some 17), none, .bin .lss (.t 16) (.c (.int .i64 1))⟩,
          ⟨(some 18), none, .mov (.t 17)⟩,
          ⟨(some 19), (some (18, false)), .load true 2 (.t 3)⟩,
          ⟨(some 20), (some (18, false)), .fad 1 (.t 8)⟩,
          ⟨(some 21), (some (18, false)), .load false 1 (.t 20)⟩,
          ⟨(some 22), (some (18, false)), .call .q (.f 98) [(.t 19), (.t 21)]⟩,
          ⟨(some 23), (some (18, false)), .un .not (.t 22)⟩,
          ⟨(some 24), none, .pick (.t 18) (.c (.bool true)) (.t 23)⟩,
          ⟨(some 25), none, .mov (.t 24)⟩,
          ⟨(some 26), (some (25, false)), .fad 0 (.t 8)⟩,
          ⟨(some 27), (some (25, false)), .load false 1 (.t 26)⟩,
          ⟨(some 28), (some (25, false)), .bin .neq (.t 27) (.c (.int .i64 1))⟩,
          ⟨(some 29), (some (25, false)), .mov (.t 28)⟩,
          ⟨(some 30), (some (29, true)), .fad 2 (.t 8)⟩,
          ⟨(some 31), (some (29, true)), .load true 3 (.t 30)⟩,
          ⟨(some 32), (some (29, true)), .build [(.int .i64 0), (.int .i64 0), (.int .i64 0)] []⟩,
          ⟨(some 33), (some (29, true)), .eqs true 3 (.t 31) (.t 32)⟩,
          ⟨(some 34), (some (25, false)), .pick (.t 29) (.t 33) (.c (.bool false))⟩,
          ⟨(some 35), none, .pick (.t 25) (.c (.bool true)) (.t 34)⟩,
          ⟨(some 36), none, .mov (.t 35)⟩,
          ⟨(some 37), (some (36, false)), .fad 0 (.t 8)⟩,
          ⟨(some 38), (some (36, false)), .load false 1 (.t 37)⟩,
          ⟨(some 39), (some (36, false)), .bin .neq (.t 38) (.c (.int .i64 3))⟩,
          ⟨(some 40), (some (36, false)), .mov (.t 39)⟩,
          ⟨(some 41), (some (40, true)), .fad 5 (.t 8)⟩,
          ⟨(some 42), (some (40, true)), .load false 1 (.t 41)⟩,
          ⟨(some 43), (some (40, true)), .bin .neq (.t 42) (.c (.int .i64 0))⟩,
          ⟨(some 44), (some (36, false)), .pick (.t 40) (.t 43) (.c (.bool false))⟩,
          ⟨(some 45), none, .pick (.t 36) (.c (.bool true)) (.t 44)⟩,
          ⟨(some 46), none, .mov (.t 45)⟩,
          ⟨(some 47), (some (46, false)), .fad 0 (.t 8)⟩,
          ⟨(some 48), (some (46, false)), .load false 1 (.t 47)⟩,
          ⟨(some 49), (some (46, false)), .bin .neq (.t 48) (.c (.int .i64 2))⟩,
          ⟨(some 50), (some (46, false)), .mov (.t 49)⟩,
          ⟨(some 51), (some (50, true)), .fad 6 (.t 8)⟩,
          ⟨(some 52), (some (50, true)), .load false 1 (.t 51)⟩,
          ⟨(some 53), (some (50, true)), .len (.t 52)⟩,
          ⟨(some 54), (some (50, true)), .fad 7 (.t 8)⟩,
          ⟨(some 55), (some (50, true)), .load false 1 (.t 54)⟩,
          ⟨(some 56), (some (50, true)), .len (.t 55)⟩,
          ⟨(some 57), (some (50, true)), .bin .add (.t 53) (.t 56)⟩,
          ⟨(some 58), (some (50, true)), .bin .gtr (.t 57) (.c (.int .i64 0))⟩,
          ⟨(some 59), (some (46, false)), .pick (.t 50) (.t 58) (.c (.bool false))⟩,
          ⟨(some 60), none, .pick (.t 46) (.c (.bool true)) (.t 59)⟩]
def c_rest : ICode := (.seq (.reg none [
         ⟨(some 9), none, .mov (.c (.bool false))⟩])
      (.seq (.seq (.reg none [
          ⟨(some 61), none, .fad 0 (.t 8)⟩,
          ⟨(some 62), none, .load false 1 (.t 61)⟩])
       (.block 2 (.seq (.reg none [
           ⟨(some 64), none, .bin .eql (.t 62) (.c (.int .i64 1))⟩,
           ⟨(some 63), none, .mov (.t 64)⟩])
        (.cond (.t 63) (.reg none [
           ⟨(some 65), none, .load true 2 (.t 3)⟩,
           ⟨(some 66), none, .fad 2 (.t 8)⟩,
           ⟨(some 67), none, .load true 3 (.t 66)⟩,
           ⟨(some 68), none, .call .q (.f 99) [(.t 65), (.t 67)]⟩,
           ⟨(some 9), none, .mov (.t 68)⟩]) (.seq (.reg none [
            ⟨(some 70), none, .bin .eql (.t 62) (.c (.int .i64 2))⟩,
            ⟨(some 69), none, .mov (.t 70)⟩])
         (.cond (.t 69) (.reg none [
            ⟨(some 71), none, .load true 2 (.t 3)⟩,
            ⟨(some 72), none, .fad 6 (.t 8)⟩,
            ⟨(some 73), none, .load false 1 (.t 72)⟩,
            ⟨(some 74), none, .mov (.t 2)⟩,
            ⟨(some 75), none, .bin .sub (.t 74) (.c (.int .i64 1))⟩,
            ⟨(some 76), none, .call .q (.f 73) [(.t 71), (.t 73), (.t 75)]⟩,
            ⟨(some 77), none, .mov (.t 76)⟩,
            ⟨(some 78), (some (77, true)), .load true 2 (.t 3)⟩,
            ⟨(some 79), (some (77, true)), .fad 7 (.t 8)⟩,
            ⟨(some 80), (some (77, true)), .load false 1 (.t 79)⟩,
            ⟨(some 81), (some (77, true)), .mov (.t 2)⟩,
            ⟨(some 82), (some (77, true)), .bin .sub (.t 81) (.c (.int .i64 1))⟩,
            ⟨(some 83), (some (77, true)), .call .q (.f 73) [(.t 78), (.t 80), (.t 82)]⟩,
            ⟨(some 84), none, .pick (.t 77) (.t 83) (.c (.bool false))⟩,
            ⟨(some 9), none, .mov (.t 84)⟩]) (.seq (.reg none [
             ⟨(some 86), none, .bin .eql (.t 62) (.c (.int .i64 3))⟩,
             ⟨(some 85), none, .mov (.t 86)⟩])
          (.cond (.t 85) (.reg none [
             ⟨(some 87), none, .fad 5 (.t 8)⟩,
             ⟨(some 88), none, .load false 1 (.t 87)⟩,
             ⟨(some 89), none, .call .q (.f 100) [(.t 88)]⟩,
             ⟨(some 9), none, .mov (.t 89)⟩]) (.skip)))))))))
      (.seq (.reg none [
         ⟨(some 90), none, .mov (.t 9)⟩,
         ⟨(some 91), none, .un .not (.t 90)⟩])
      (.cond (.t 91) (.seq (.reg none [
          ⟨(some 6), none, .mov (.c (.bool false))⟩])
       (.ret)) (.skip)))))
def c_iStepsB : ICode := (.seq (.reg none [
       ⟨(some 13), none, .bin .lss (.t 12) (.t 11)⟩])
    (.seq (.cond (.t 13) (.skip) (.exit 0))
    (.seq (.block 1 (.seq (.reg none [
         ⟨(some 14), none, .iad 8 (.t 10) (.t 12)⟩,
         ⟨(some 15), none, .load true 8 (.t 14)⟩,
         ⟨(some 8), none, .new [(.int .i64 0), (.int .i64 0), (.int .i64 0), (.int .i64 0), (.int .i64 0), (.int .i64 0), (.slice none 0 0), (.slice none 0 0)]⟩,
         ⟨none, none, .store 8 (.t 8) (.t 15)⟩])
      (.seq (.seq (.reg none c_tests)
       (.cond (.t 60) (.seq (.reg none [
           ⟨(some 6), none, .mov (.c (.bool false))⟩])
        (.ret)) (.skip)))
      c_rest)))
    (.reg none [
      ⟨(some 92), none, .bin .add (.t 12) (.c (.int .i64 1))⟩,
      ⟨(some 12), none, .mov (.t 92)⟩]))))
theorem rest_ok {F : Nat → Option IFn} {lo m n : Nat} {H : Heap} {e : Env} {K : X → Env → Heap → Prop} {b c : Nat} {v0 v1 : Value} {p : TProg m} {d a0 a1 a2 a3 a4 a5 : Int} {a6 a7 : List (TStep n)} {u6 u7 : Option Addr} (g2 : ValOk F 99) (g4 : ∀ (H : Heap) (a : Int), QC F 100 [.int .i64 a] H (.bool (inB a 0 2))) (g3 : StepsOk F 73 n)
    (hp : Rd (Co.prog m) true (vw 0 H) (.agg #[v0, v1]) p) (hv : Rd Co.val true (vw 0 H) (.agg #[.int .i64 a2, .int .i64 a3, .int .i64 a4]) (a2, a3, a4)) (r6 : SlR (Co.step n) (vw 0 H) (.slice u6 a6.length a6.length) a6) (r7 : SlR (Co.step n) (vw 0 H) (.slice u7 a7.length a7.length) a7) (s6 : (Co.sl (Co.step n)).sm a6) (s7 : (Co.sl (Co.step n)).sm a7)
    (hd1 : 1 ≤ d) (hd3 : d ≤ 3) (hd : IntKind.i64.wrap (d - 1) = d - 1)
    (e2 : e 2 = .int .i64 d) (e3 : e 3 = ptr b 0) (e8 : e 8 = ptr c 0) (gb : getCells H b 0 2 = some [v0, v1]) (gc0 : getCells H c 0 1 = some [.int .i64 a0]) (gc2 : getCells H c 2 3 = some [.int .i64 a2, .int .i64 a3, .int .i64 a4]) (gc5 : getCells H c 5 1 = some [.int .i64 a5]) (gc6 : getCells H c 6 1 = some [.slice u6 a6.length a6.length]) (gc7 : getCells H c 7 1 = some [.slice u7 a7.length a7.length])
    (hK1 : ∀ e1, Same e e1 → (if a0 = 1 then valB p.1.length (a2, a3, a4) else if a0 = 2 then a6.all (stepB p.1.length n (d - 1)) && a7.all (stepB p.1.length n (d - 1)) else if a0 = 3 then inB a5 0 2 else false) = true → K .n e1 H)
    (hK2 : ∀ e1, e1 6 = .bool false → (if a0 = 1 then valB p.1.length (a2, a3, a4) else if a0 = 2 then a6.all (stepB p.1.length n (d - 1)) && a7.all (stepB p.1.length n (d - 1)) else if a0 = 3 then inB a5 0 2 else false) = false → K .r e1 H) : wpc F lo c_rest e H K := by
  generalize hA6 : a6.all (stepB p.1.length n (d - 1)) = A6 at hK1 hK2
  generalize hA7 : a7.all (stepB p.1.length n (d - 1)) = A7 at hK1 hK2
  have q6 := g3 H m _ _ p a6 (d - 1) hp r6 s6 (by omega) (by omega)
  have q7 := g3 H m _ _ p a7 (d - 1) hp r7 s7 (by omega) (by omega)
  rw [hA6] at q6
  rw [hA7] at q7
  unfold c_rest
  repeat' (first
    | refine seq_assoc ?_
    | refine seq_reg ?_
    | refine seq_skip ?_
    | refine seq_regD ?_
    | refine seq_cond (t := true) rfl ?_
    | refine seq_cond (t := false) rfl ?_
    | refine wpc_cond (t := true) rfl ?_
    | refine wpc_cond (t := false) rfl ?_
    | refine seq_block ?_
    | refine wpc_block ?_
    | refine seq_ret ?_
    | refine wpc_ret ?_
    | refine wpc_reg ?_
    | refine wpc_regD ?_
    | refine wpc_skip ?_
    | refine fin_t rfl ?_
    | refine seq_exit ?_
    | refine wpc_exit ?_
    | refine cmp_lss (fun _ => ?_) (fun _ => ?_)
    | refine cmp_leq (fun _ => ?_) (fun _ => ?_)
    | refine cmp_gtr (fun _ => ?_) (fun _ => ?_)
    | refine cmp_geq (fun _ => ?_) (fun _ => ?_)
    | refine cmp_eql (fun _ => ?_) (fun _ => ?_)
    | refine cmp_neq (fun _ => ?_) (fun _ => ?_)
    | (refine op_callB (by simp only [go_sem, out_n, out_r, out_e, thenX_n, thenX_r, thenX_e, hd, e2, e3, e8, gb, gc0, gc2, gc5, gc6, gc7, Bool.not_true, Bool.not_false]; exact g2 _ m _ _ p (a2, a3, a4) hp hv) (fun _ => ?_) (fun _ => ?_))
    | (refine op_callB (by simp only [go_sem, out_n, out_r, out_e, thenX_n, thenX_r, thenX_e, hd, e2, e3, e8, gb, gc0, gc2, gc5, gc6, gc7, Bool.not_true, Bool.not_false]; exact g4 _ _) (fun _ => ?_) (fun _ => ?_))
    | (refine op_callB (by simp only [go_sem, out_n, out_r, out_e, thenX_n, thenX_r, thenX_e, hd, e2, e3, e8, gb, gc0, gc2, gc5, gc6, gc7, Bool.not_true, Bool.not_false]; exact q6) (fun _ => ?_) (fun _ => ?_))
    | (refine op_callB (by simp only [go_sem, out_n, out_r, out_e, thenX_n, thenX_r, thenX_e, hd, e2, e3, e8, gb, gc0, gc2, gc5, gc6, gc7, Bool.not_true, Bool.not_false]; exact q7) (fun _ => ?_) (fun _ => ?_))
    | simp only [go_sem, out_n, out_r, out_e, thenX_n, thenX_r, thenX_e, hd, e2, e3, e8, gb, gc0, gc2, gc5, gc6, gc7, Bool.not_true, Bool.not_false]
    )
  all_goals first
    | (refine hK2 _ ?_ ?_ <;> first | (simp only [go_sem, binC]; done) | (simp [*]; done) | (simp_all; done))
    | (refine hK1 _ ?_ ?_ <;> first | exact ⟨by simp only [go_sem, binC], by simp only [go_sem, binC], by simp only [go_sem, binC], by simp only [go_sem, binC], by simp only [go_sem, binC], by simp only [go_sem, binC]⟩ | (simp [*]; done) | (simp_all; done))
end Go.Proofs.YtmakdcbpohlacaaI
end
end
