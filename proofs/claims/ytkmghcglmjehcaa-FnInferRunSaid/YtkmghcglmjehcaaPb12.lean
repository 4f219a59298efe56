/- Texts of this proof, merged: U13, GL48, BL48. -/
import Derived.Test.YtkmghcglmjehcaaPb11
import Derived.Test.YtkmghcglmjehcaaRows
section
/- The law FnInferRun on the ideal machine. -/
set_option linter.unusedVariables false
set_option linter.unusedSimpArgs false
namespace Go.Proofs.YtkmghcglmjehcaaI
open Go Go.RowKit
attribute [local irreducible] infL
def c_lcWrites : IFn := ⟨2, 26, [.t 4],
 .seq (.reg none [
    ⟨(some 4), none, .mov (.c (.bool false))⟩])
 (.seq (.seq (.reg none [
     ⟨(some 6), none, .mov (.t 0)⟩,
     ⟨(some 7), none, .len (.t 6)⟩,
     ⟨(some 8), none, .mov (.t 1)⟩,
     ⟨(some 9), none, .len (.t 8)⟩,
     ⟨(some 10), none, .bin .neq (.t 7) (.t 9)⟩])
  (.cond (.t 10) (.seq (.reg none [
      ⟨(some 4), none, .mov (.c (.bool false))⟩])
   (.ret)) (.skip)))
 (.seq (.seq (.reg none [
     ⟨(some 5), none, .mov (.c (.int .i64 0))⟩])
  (.block 0 (.loop (.seq (.seq (.reg none [
        ⟨(some 11), none, .mov (.t 5)⟩,
        ⟨(some 12), none, .mov (.t 0)⟩,
        ⟨(some 13), none, .len (.t 12)⟩,
        ⟨(some 14), none, .bin .lss (.t 11) (.t 13)⟩])
     (.cond (.t 14) (.skip) (.exit 0)))
    (.seq (.block 1 (.seq (.reg (some 8) [
         ⟨(some 17), none, .mov (.t 0)⟩,
         ⟨(some 18), none, .mov (.t 5)⟩,
         ⟨(some 19), none, .iad 2 (.t 17) (.t 18)⟩,
         ⟨(some 20), none, .load true 2 (.t 19)⟩,
         ⟨(some 21), none, .mov (.t 1)⟩,
         ⟨(some 22), none, .mov (.t 5)⟩,
         ⟨(some 23), none, .iad 2 (.t 21) (.t 22)⟩,
         ⟨(some 24), none, .load true 2 (.t 23)⟩,
         ⟨(some 25), none, .eqs true 2 (.t 20) (.t 24)⟩])
      (.cond (.t 25) (.seq (.reg none [
          ⟨(some 4), none, .mov (.c (.bool false))⟩])
       (.ret)) (.skip))))
    (.reg none [
      ⟨(some 15), none, .mov (.t 5)⟩,
      ⟨(some 16), none, .bin .add (.t 15) (.c (.int .i64 1))⟩,
      ⟨(some 5), none, .mov (.t 16)⟩]))))))
 (.seq (.reg none [
    ⟨(some 4), none, .mov (.c (.bool true))⟩])
 (.ret))))⟩
def c_lcRun : IFn := ⟨2, 47, [.t 4],
 .seq (.reg none [
    ⟨(some 2), none, .box (.t 0)⟩,
    ⟨(some 3), none, .box (.t 1)⟩,
    ⟨(some 4), none, .mov (.c (.bool false))⟩])
 (.seq (.seq (.reg none [
     ⟨(some 6), none, .fad 0 (.t 2)⟩,
     ⟨(some 7), none, .load false 1 (.t 6)⟩,
     ⟨(some 8), none, .fad 0 (.t 3)⟩,
     ⟨(some 9), none, .load false 1 (.t 8)⟩,
     ⟨(some 10), none, .call .q (.f 40) [(.t 7), (.t 9)]⟩,
     ⟨(some 11), none, .un .not (.t 10)⟩,
     ⟨(some 12), none, .mov (.t 11)⟩,
     ⟨(some 13), (some (12, false)), .fad 1 (.t 2)⟩,
     ⟨(some 14), (some (12, false)), .load false 1 (.t 13)⟩,
     ⟨(some 15), (some (12, false)), .fad 1 (.t 3)⟩,
     ⟨(some 16), (some (12, false)), .load false 1 (.t 15)⟩,
     ⟨(some 17), (some (12, false)), .call .q (.f 73) [(.t 14), (.t 16)]⟩,
     ⟨(some 18), (some (12, false)), .un .not (.t 17)⟩,
     ⟨(some 19), none, .pick (.t 12) (.c (.bool true)) (.t 18)⟩,
     ⟨(some 20), none, .mov (.t 19)⟩,
     ⟨(some 21), (some (20, false)), .fad 2 (.t 2)⟩,
     ⟨(some 22), (some (20, false)), .load false 1 (.t 21)⟩,
     ⟨(some 23), (some (20, false)), .len (.t 22)⟩,
     ⟨(some 24), (some (20, false)), .fad 2 (.t 3)⟩,
     ⟨(some 25), (some (20, false)), .load false 1 (.t 24)⟩,
     ⟨(some 26), (some (20, false)), .len (.t 25)⟩,
     ⟨(some 27), (some (20, false)), .bin .neq (.t 23) (.t 26)⟩,
     ⟨(some 28), none, .pick (.t 20) (.c (.bool true)) (.t 27)⟩])
  (.cond (.t 28) (.seq (.reg none [
      ⟨(some 4), none, .mov (.c (.bool false))⟩])
   (.ret)) (.skip)))
 (.seq (.seq (.reg none [
     ⟨(some 5), none, .mov (.c (.int .i64 0))⟩])
  (.block 0 (.loop (.seq (.seq (.reg none [
        ⟨(some 29), none, .mov (.t 5)⟩,
        ⟨(some 30), none, .fad 2 (.t 2)⟩,
        ⟨(some 31), none, .load false 1 (.t 30)⟩,
        ⟨(some 32), none, .len (.t 31)⟩,
        ⟨(some 33), none, .bin .lss (.t 29) (.t 32)⟩])
     (.cond (.t 33) (.skip) (.exit 0)))
    (.seq (.block 1 (.seq (.reg (some 10) [
         ⟨(some 36), none, .fad 2 (.t 2)⟩,
         ⟨(some 37), none, .load false 1 (.t 36)⟩,
         ⟨(some 38), none, .mov (.t 5)⟩,
         ⟨(some 39), none, .iad 2 (.t 37) (.t 38)⟩,
         ⟨(some 40), none, .load true 2 (.t 39)⟩,
         ⟨(some 41), none, .fad 2 (.t 3)⟩,
         ⟨(some 42), none, .load false 1 (.t 41)⟩,
         ⟨(some 43), none, .mov (.t 5)⟩,
         ⟨(some 44), none, .iad 2 (.t 42) (.t 43)⟩,
         ⟨(some 45), none, .load true 2 (.t 44)⟩,
         ⟨(some 46), none, .eqs true 2 (.t 40) (.t 45)⟩])
      (.cond (.t 46) (.seq (.reg none [
          ⟨(some 4), none, .mov (.c (.bool false))⟩])
       (.ret)) (.skip))))
    (.reg none [
      ⟨(some 34), none, .mov (.t 5)⟩,
      ⟨(some 35), none, .bin .add (.t 34) (.c (.int .i64 1))⟩,
      ⟨(some 5), none, .mov (.t 35)⟩]))))))
 (.seq (.reg none [
    ⟨(some 4), none, .mov (.c (.bool true))⟩])
 (.ret))))⟩
theorem lcWrites_ok {F : Nat → Option IFn} {f : Nat} (hf : F f = some c_lcWrites) : PairsOk F f := by
  intro H v w l l' hv hw
  obtain ⟨h0, a, rfl, _⟩ := id hv
  obtain ⟨h0', a', rfl, _⟩ := id hw
  refine QC.mk hf rfl ?_
  refine seq_reg ?_
  simp only [go_sem, binC]
  by_cases hl : l.length = l'.length
  rotate_left
  · have hne : ((l.length : Int) != (l'.length : Int)) = true := by simp; omega
    refine seq_assoc (seq_reg ?_)
    simp only [go_sem, binC, hne]
    refine seq_cond (t := true) rfl ?_
    simp only [go_sem, binC]
    refine seq_assoc (seq_reg ?_)
    simp only [go_sem, binC]
    refine seq_ret ⟨Or.inr rfl, .bool false, by simp only [go_sem, binC], ?_, rfl⟩
    rw [decide_eq_false (fun h => hl (by rw [h]))]
  have hne : ((l.length : Int) != (l'.length : Int)) = false := by simp; omega
  refine seq_assoc (seq_reg ?_)
  simp only [go_sem, binC, hne]
  refine seq_cond (t := false) rfl ?_
  simp only [go_sem, binC]
  refine seq_skip (seq_assoc (seq_reg ?_))
  simp only [go_sem, binC]
  refine seq_block (wpc_loop ?_)
  suffices h : ∀ (k i : Nat) (e : Env), i + k = l.length → e 0 = .slice a l.length l.length → e 1 = .slice a' l'.length l'.length → e 5 = .int .i64 i → (l = l' ↔ l.drop i = l'.drop i) → W F H.length _ e _ _ from
    h l.length 0 _ (by omega) (by simp only [go_sem, binC]) (by simp only [go_sem, binC]) (by (simp only [go_sem, binC]) <;> rfl) (by simp)
  intro k
  induction k with
  | zero =>
    intro i e hi e0 e1 e5 heq
    refine lp_step ?_
    refine seq_assoc (seq_reg ?_)
    simp only [go_sem, binC, e0, e5]
    refine seq_cond (t := false) (by simp only [go_sem, binC]; rw [decide_eq_false (by omega)]) ?_
    simp only [go_sem, binC]
    refine seq_exit ?_
    simp only [go_sem, binC, thenX_e, out_e, thenX_n]
    refine seq_reg ?_
    simp only [go_sem, binC]
    refine wpc_ret ⟨Or.inr rfl, .bool true, by simp only [go_sem, binC], ?_, rfl⟩
    rw [decide_eq_true (heq.2 (by rw [List.drop_of_length_le (by omega), List.drop_of_length_le (by omega)]))]
  | succ k ih =>
    intro i e hi e0 e1 e5 heq
    have hil : i < l.length := by omega
    have hil' : i < l'.length := by omega
    obtain ⟨b, o, hv1, hg⟩ := gcP hv hil
    obtain ⟨b', o', hv2, hg'⟩ := gcP hw hil'
    simp only [Value.slice.injEq, and_true] at hv1 hv2
    subst hv1 hv2
    have hw1 : IntKind.i64.wrap ((i : Int) + 1) = ((i + 1 : Nat) : Int) := by rw [wrap_id (by omega) (by omega)]; omega
    rw [List.drop_eq_getElem_cons hil, List.drop_eq_getElem_cons hil', List.cons.injEq] at heq
    refine lp_step ?_
    refine seq_assoc (seq_reg ?_)
    simp only [go_sem, binC, e0, e5]
    refine seq_cond (t := true) (by simp only [go_sem, binC]; rw [decide_eq_true (by omega)]) ?_
    simp only [go_sem, binC]
    refine seq_skip (seq_block (seq_regD ?_))
    simp only [go_sem, binC, e0, e5]
    refine ⟨⟨by omega, by omega⟩, ?_⟩
    simp only [go_sem, binC, Int.toNat_natCast, hg, e1, e5]
    refine ⟨⟨by omega, by omega⟩, ?_⟩
    simp only [go_sem, binC, Int.toNat_natCast, hg', eqsV2]
    by_cases hq : l[i] = l'[i]
    · have hb : (!decide ((l[i].1, l[i].2) = (l'[i].1, l'[i].2))) = false := by simp [hq]
      simp only [go_sem, binC, hb]
      refine wpc_cond (t := false) (by (simp only [go_sem, binC]) <;> rfl) ?_
      simp only [go_sem, binC]
      refine wpc_skip ?_
      simp only [go_sem, binC, out_n, thenX_n]
      refine wpc_reg ?_
      simp only [go_sem, binC, e5, hw1]
      simp only [go_sem, binC, thenX_n]
      exact ih (i + 1) _ (by omega) (by simp only [go_sem, binC, e0]) (by simp only [go_sem, binC, e1]) (by simp only [go_sem, binC]) (by rw [heq]; exact ⟨fun h => h.2, fun h => ⟨hq, h⟩⟩)
    · have hb : (!decide ((l[i].1, l[i].2) = (l'[i].1, l'[i].2))) = true := by
        rw [decide_eq_false (fun h => hq (Prod.ext (by simpa using congrArg Prod.fst h) (by simpa using congrArg Prod.snd h)))]; rfl
      simp only [go_sem, binC, hb]
      refine wpc_cond (t := true) (by (simp only [go_sem, binC]) <;> rfl) ?_
      simp only [go_sem, binC]
      refine seq_reg ?_
      simp only [go_sem, binC]
      refine wpc_ret ?_
      simp only [go_sem, binC, out_r, thenX_r]
      refine ⟨Or.inr rfl, .bool false, by simp only [go_sem, binC], ?_, rfl⟩
      rw [decide_eq_false (fun h => hq (heq.1 h).1)]
def RunsOk (F : Nat → Option IFn) (f : Nat) : Prop := ∀ (H : Heap) (nv wv sv nv' wv' sv' : Value) (r r' : RunS), SlR Co.int (vw 0 H) nv r.1 → SlR Co.p2 (vw 0 H) wv r.2.1 → SlR Co.p2 (vw 0 H) sv r.2.2 → SlR Co.int (vw 0 H) nv' r'.1 → SlR Co.p2 (vw 0 H) wv' r'.2.1 → SlR Co.p2 (vw 0 H) sv' r'.2.2 → QC F f [.agg #[nv, wv, sv], .agg #[nv', wv', sv']] H (.bool (decide (r = r')))
theorem lcRun_ok {F : Nat → Option IFn} {f : Nat} (hf : F f = some c_lcRun) (gi : IntsOk F 40) (gw : PairsOk F 73) : RunsOk F f := by
  intro H nv wv sv nv' wv' sv' r r' h1 h2 h3 h1' h2' h3'
  obtain ⟨_, na, rfl, _⟩ := id h1
  obtain ⟨_, wa, rfl, _⟩ := id h2
  obtain ⟨_, sa, rfl, _⟩ := id h3
  obtain ⟨_, na', rfl, _⟩ := id h1'
  obtain ⟨_, wa', rfl, _⟩ := id h2'
  obtain ⟨_, sa', rfl, _⟩ := id h3'
  refine QC.mk hf rfl ?_
  refine seq_reg ?_
  simp only [go_sem, binC]
  refine wpc_gen fun H1 hH1 => ?_
  have hx1 : AgX [] H H1 := hH1 ▸ AgX.app [] _ _
  have hba : H1[H.length]? = some ⟨[.slice na r.1.length r.1.length, .slice wa r.2.1.length r.2.1.length, .slice sa r.2.2.length r.2.2.length], 0, 0, false, true⟩ := hH1 ▸ get_new0 _ _
  have hbb : H1[H.length + 1]? = some ⟨[.slice na' r'.1.length r'.1.length, .slice wa' r'.2.1.length r'.2.1.length, .slice sa' r'.2.2.length r'.2.2.length], 0, 0, false, true⟩ := hH1 ▸ get_new _ _ 1
  clear hH1
  have hS := agx_sub hx1
  replace h1 := h1.mono hS
  replace h2 := h2.mono hS
  replace h3 := h3.mono hS
  replace h1' := h1'.mono hS
  replace h2' := h2'.mono hS
  replace h3' := h3'.mono hS
  obtain ⟨rn, rw, rs⟩ := r
  obtain ⟨rn', rw', rs'⟩ := r'
  simp only at h1 h2 h3 h1' h2' h3' hba hbb
  have hno : ∀ e, rn ≠ rn' ∨ rw ≠ rw' ∨ rs.length ≠ rs'.length → e 4 = .bool false → fin [.t 4] (fun w' _ => w' = .bool (decide ((rn, rw, rs) = (rn', rw', rs'))) ∧ scal w' = true) .r e H1 := by
    intro e hne h4
    refine ⟨Or.inr rfl, .bool false, by simp only [resV, res1, h4], ?_, rfl⟩
    rw [decide_eq_false (fun h => by
      simp only [Prod.mk.injEq] at h
      obtain ⟨p1, p2, p3⟩ := h
      subst p1 p2 p3
      simp at hne)]
  refine seq_assoc (seq_reg ?_)
  simp only [go_sem, binC, gc_of hba, gc_of hbb, inBlk_some]
  refine op_callB (by simp only [go_sem, binC]; exact gi H1 _ _ _ _ h1 h1') (fun hb1 => ?_) (fun hb1 => ?_)
  rotate_left
  · simp only [go_sem, binC]
    refine seq_cond (t := true) rfl ?_
    simp only [go_sem, binC]
    refine seq_assoc (seq_reg ?_)
    simp only [go_sem, binC]
    exact seq_ret (hno _ (.inl (of_decide_eq_false hb1)) (by simp only [go_sem, binC]))
  simp only [go_sem, binC, gc_of hba, gc_of hbb, inBlk_some]
  refine op_callB (by simp only [go_sem, binC]; exact gw H1 _ _ _ _ h2 h2') (fun hb2 => ?_) (fun hb2 => ?_)
  rotate_left
  · simp only [go_sem, binC]
    refine seq_cond (t := true) rfl ?_
    simp only [go_sem, binC]
    refine seq_assoc (seq_reg ?_)
    simp only [go_sem, binC]
    exact seq_ret (hno _ (.inr (.inl (of_decide_eq_false hb2))) (by simp only [go_sem, binC]))
  replace hb1 := of_decide_eq_true hb1
  replace hb2 := of_decide_eq_true hb2
  by_cases hl : rs.length = rs'.length
  rotate_left
  · have hne : ((rs.length : Int) != (rs'.length : Int)) = true := by simp; omega
    simp only [go_sem, binC, gc_of hba, gc_of hbb, inBlk_some, hne]
    refine seq_cond (t := true) rfl ?_
    simp only [go_sem, binC]
    refine seq_assoc (seq_reg ?_)
    simp only [go_sem, binC]
    exact seq_ret (hno _ (.inr (.inr hl)) (by simp only [go_sem, binC]))
  have hne : ((rs.length : Int) != (rs'.length : Int)) = false := by simp; omega
  simp only [go_sem, binC, gc_of hba, gc_of hbb, inBlk_some, hne]
  refine seq_cond (t := false) rfl ?_
  simp only [go_sem, binC]
  refine seq_skip (seq_assoc (seq_reg ?_))
  simp only [go_sem, binC]
  refine seq_block (wpc_loop ?_)
  suffices h : ∀ (k i : Nat) (e : Env), i + k = rs.length → e 2 = ptr H.length 0 → e 3 = ptr (H.length + 1) 0 → e 5 = .int .i64 i → (rs = rs' ↔ rs.drop i = rs'.drop i) → W F H.length _ e _ _ from
    h rs.length 0 _ (by omega) (by (simp only [go_sem, binC]) <;> rfl) (by (simp only [go_sem, binC]) <;> rfl) (by (simp only [go_sem, binC]) <;> rfl) (by simp)
  intro k
  induction k with
  | zero =>
    intro i e hi e2 e3 e5 heq
    refine lp_step ?_
    refine seq_assoc (seq_reg ?_)
    simp only [go_sem, binC, e2, e5, gc_of hba, inBlk_some]
    refine seq_cond (t := false) (by simp only [go_sem, binC]; rw [decide_eq_false (by omega)]) ?_
    simp only [go_sem, binC]
    refine seq_exit ?_
    simp only [go_sem, binC, thenX_e, out_e, thenX_n]
    refine seq_reg ?_
    simp only [go_sem, binC]
    refine wpc_ret ⟨Or.inr rfl, .bool true, by simp only [go_sem, binC], ?_, rfl⟩
    rw [hb1, hb2, heq.2 (by rw [List.drop_of_length_le (by omega), List.drop_of_length_le (by omega)]), decide_eq_true rfl]
  | succ k ih =>
    intro i e hi e2 e3 e5 heq
    have hil : i < rs.length := by omega
    have hil' : i < rs'.length := by omega
    have hrl : rs.length ≤ 9223372036854775807 := h3.1
    obtain ⟨b, o, hv1, hg⟩ := gcP h3 hil
    obtain ⟨b', o', hv2, hg'⟩ := gcP h3' hil'
    simp only [Value.slice.injEq, and_true] at hv1 hv2
    subst hv1 hv2
    have hw1 : IntKind.i64.wrap ((i : Int) + 1) = ((i + 1 : Nat) : Int) := by rw [wrap_id (by omega) (by omega)]; omega
    rw [List.drop_eq_getElem_cons hil, List.drop_eq_getElem_cons hil', List.cons.injEq] at heq
    refine lp_step ?_
    refine seq_assoc (seq_reg ?_)
    simp only [go_sem, binC, e2, e5, gc_of hba, inBlk_some]
    refine seq_cond (t := true) (by simp only [go_sem, binC]; rw [decide_eq_true (by omega)]) ?_
    simp only [go_sem, binC]
    refine seq_skip (seq_block (seq_regD ?_))
    simp only [go_sem, binC, e2, e3, e5, gc_of hba, gc_of hbb, inBlk_some]
    refine ⟨⟨by omega, by omega⟩, ?_⟩
    simp only [go_sem, binC, Int.toNat_natCast, hg, e3, e5, gc_of hbb, inBlk_some]
    refine ⟨⟨by omega, by omega⟩, ?_⟩
    simp only [go_sem, binC, Int.toNat_natCast, hg', eqsV2]
    by_cases hq : rs[i] = rs'[i]
    · have hb : (!decide ((rs[i].1, rs[i].2) = (rs'[i].1, rs'[i].2))) = false := by simp [hq]
      simp only [go_sem, binC, hb]
      refine wpc_cond (t := false) (by (simp only [go_sem, binC]) <;> rfl) ?_
      simp only [go_sem, binC]
      refine wpc_skip ?_
      simp only [go_sem, binC, out_n, thenX_n]
      refine wpc_reg ?_
      simp only [go_sem, binC, e5, hw1]
      simp only [go_sem, binC, thenX_n]
      exact ih (i + 1) _ (by omega) (by simp only [go_sem, binC, e2]) (by simp only [go_sem, binC, e3]) (by simp only [go_sem, binC]) (by rw [heq]; exact ⟨fun h => h.2, fun h => ⟨hq, h⟩⟩)
    · have hb : (!decide ((rs[i].1, rs[i].2) = (rs'[i].1, rs'[i].2))) = true := by
        rw [decide_eq_false (fun h => hq (Prod.ext (by simpa using congrArg Prod.fst h) (by simpa using congrArg Prod.snd h)))]; rfl
      simp only [go_sem, binC, hb]
      refine wpc_cond (t := true) (by (simp only [go_sem, binC]) <;> rfl) ?_
      simp only [go_sem, binC]
      refine seq_reg ?_
      simp only [go_sem, binC]
      refine wpc_ret ?_
      simp only [go_sem, binC, out_r, thenX_r]
      refine ⟨Or.inr rfl, .bool false, by simp only [go_sem, binC], ?_, rfl⟩
      rw [decide_eq_false (fun h => hq (heq.1 (by simp only [Prod.mk.injEq] at h; exact h.2.2)).1)]
def c_iProgSize : IFn := ⟨1, 9, [.t 2],
 .seq (.reg none [
    ⟨(some 1), none, .box (.t 0)⟩,
    ⟨(some 2), none, .mov (.c (.int .i64 0))⟩])
 (.seq (.seq (.reg none [
     ⟨(some 3), none, .load true 2 (.t 1)⟩,
     ⟨(some 4), none, .call .q (.f 54) [(.t 3)]⟩,
     ⟨(some 5), none, .un .not (.t 4)⟩])
  (.cond (.t 5) (.seq (.reg none [
      ⟨(some 2), none, .mov (.c (.int .i64 (-1)))⟩])
   (.ret)) (.skip)))
 (.seq (.reg none [
    ⟨(some 6), none, .fad 1 (.t 1)⟩,
    ⟨(some 7), none, .load false 1 (.t 6)⟩,
    ⟨(some 8), none, .call .q (.f 74) [(.t 7)]⟩,
    ⟨(some 2), none, .mov (.t 8)⟩])
 (.ret)))⟩
def SizeOk (F : Nat → Option IFn) (f : Nat) : Prop := ∀ (H : Heap) (n : Nat) (lv sv : Value) (ls : List (Int × Int)) (l : List (TStep n)), SlR Co.p2 (vw 0 H) lv ls → SlR (Co.step n) (vw 0 H) sv l → (Co.prog n).sm (ls, l) → progB n (ls, l) = true → QC F f [.agg #[lv, sv]] H (.int .i64 ((allL n l).length : Int))
theorem iProgSize_ok {F : Nat → Option IFn} {f : Nat} (hf : F f = some c_iProgSize) (gp : ProgOk F 54) (gc : ∀ n, CntOk F 74 n) : SizeOk F f := by
  intro H n lv sv ls l r1 r2 hsm hP
  have olv : one lv = true := by obtain ⟨_, a, rfl, _⟩ := r1; rfl
  have osv : one sv = true := by obtain ⟨_, a, rfl, _⟩ := r2; rfl
  refine QC.mk hf rfl ?_
  refine seq_reg ?_
  simp only [go_sem, binC, olv, osv]
  refine wpc_gen fun H1 hH1 => ?_
  have hx1 : AgX [] H H1 := hH1 ▸ AgX.app [] _ _
  have hb : H1[H.length]? = some ⟨[lv, sv], 0, 0, false, true⟩ := hH1 ▸ get_new0 _ _
  clear hH1
  have hS := agx_sub hx1
  refine seq_assoc (seq_reg ?_)
  simp only [go_sem, binC, gc_of hb, inBlk_some, olv, osv]
  refine op_callQ (by simp only [go_sem, binC]; exact gp H1 n _ (ls, l) (prog_rd (r1.mono hS) (r2.mono hS)) hsm) ?_
  simp only [go_sem, binC, hP]
  refine seq_cond (t := false) rfl ?_
  simp only [go_sem, binC]
  refine seq_skip (seq_reg ?_)
  simp only [go_sem, binC, gc_of hb, inBlk_some]
  refine op_callQ (by simp only [go_sem, binC]; exact gc n H1 sv l (r2.mono hS)) ?_
  simp only [go_sem, binC]
  refine wpc_ret ⟨Or.inr rfl, _, (by (simp only [go_sem, binC]) <;> rfl), ?_, rfl⟩
  have hc := progB_cnt hP hsm
  simp only at hc
  rw [cntL_len]
  unfold Wr
  rw [wrap_id (by omega) (by omega)]
def intv (l : List Int) : List Value := l.map (Value.int .i64)
theorem intv_len (l : List Int) : (intv l).length = l.length := by simp [intv]
theorem rep_intv (n : Nat) (a : Int) : (List.replicate n [Value.int .i64 a]).flatten = intv (List.replicate n a) := by
  induction n with
  | zero => rfl
  | succ n ih => rw [List.replicate_succ, List.replicate_succ, List.flatten_cons, ih]; rfl
theorem intv_sl {es et b : Nat} {ap so : Bool} {H : Heap} {l : List Int} (h : H[b]? = some ⟨intv l, es, et, ap, so⟩) (hr : ∀ x ∈ l, RgI x) (hl : l.length ≤ 1048576) : SlR Co.int (vw 0 H) (sli b 0 l.length) l := by
  refine ⟨by omega, _, rfl, .inr ⟨b, 0, rfl, fun i hi => ⟨[.int .i64 l[i]], ?_, ⟨rfl, hr _ (List.getElem_mem hi)⟩⟩⟩⟩
  unfold rng vw
  rw [if_pos (Nat.zero_le _), h]
  simp only [Option.map_some, Nat.zero_add, show Co.int.w = 1 from rfl, Nat.mul_one]
  rw [if_pos (by rw [intv_len]; omega), List.drop_eq_getElem_cons (by rw [intv_len]; exact hi)]
  simp [intv]
theorem nums0 {d : Nat} {ls : List (Int × Int)} {l : List (TStep d)} (h : progB d (ls, l) = true) : numsB d (ls, l) (List.replicate ls.length 0) = true := by
  unfold numsB
  rw [h, Bool.true_and, Bool.and_eq_true]
  refine ⟨decide_eq_true (by simp), ?_⟩
  rw [List.all_eq_true]
  intro x hx
  rw [(List.mem_replicate.1 hx).2]
  rfl
def c_lawIR : IFn := ⟨1, 87, [.t 2],
 .seq (.reg none [
    ⟨(some 2), none, .mov (.c (.bool false))⟩])
 (.seq (.seq (.reg none [
     ⟨(some 14), none, .mov (.t 0)⟩,
     ⟨(some 15), none, .len (.t 14)⟩,
     ⟨(some 16), none, .bin .gtr (.t 15) (.c (.int .i64 1048576))⟩])
  (.cond (.t 16) (.seq (.reg none [
      ⟨(some 2), none, .mov (.c (.bool true))⟩])
   (.ret)) (.skip)))
 (.seq (.reg none [
    ⟨(some 18), none, .mov (.t 0)⟩,
    ⟨(some 19), none, .call .k (.f 15) [(.t 18)]⟩,
    ⟨(some 17), none, .mov (.t 19)⟩,
    ⟨(some 20), none, .ext (.t 17) 0⟩,
    ⟨(some 21), none, .ext (.t 17) 1⟩,
    ⟨(some 3), none, .new [(.slice none 0 0), (.slice none 0 0)]⟩,
    ⟨none, none, .store 2 (.t 3) (.t 20)⟩,
    ⟨(some 4), none, .mov (.t 21)⟩])
 (.seq (.reg none [
    ⟨(some 23), none, .load true 2 (.t 3)⟩,
    ⟨(some 24), none, .mov (.t 4)⟩,
    ⟨(some 25), none, .call .k (.f 16) [(.t 23), (.t 24)]⟩,
    ⟨(some 22), none, .mov (.t 25)⟩,
    ⟨(some 26), none, .ext (.t 22) 0⟩,
    ⟨(some 27), none, .ext (.t 22) 1⟩,
    ⟨(some 5), none, .new [(.slice none 0 0), (.slice none 0 0)]⟩,
    ⟨none, none, .store 2 (.t 5) (.t 26)⟩,
    ⟨(some 6), none, .mov (.t 27)⟩])
 (.seq (.reg none [
    ⟨(some 29), none, .load true 2 (.t 3)⟩,
    ⟨(some 30), none, .mov (.t 4)⟩,
    ⟨(some 31), none, .call .k (.f 17) [(.t 29), (.t 30)]⟩,
    ⟨(some 28), none, .mov (.t 31)⟩,
    ⟨(some 32), none, .ext (.t 28) 0⟩,
    ⟨(some 33), none, .ext (.t 28) 1⟩,
    ⟨(some 7), none, .new [(.slice none 0 0), (.slice none 0 0)]⟩,
    ⟨none, none, .store 2 (.t 7) (.t 32)⟩,
    ⟨(some 8), none, .mov (.t 33)⟩])
 (.seq (.seq (.reg none [
     ⟨(some 34), none, .mov (.t 8)⟩,
     ⟨(some 35), none, .mov (.t 6)⟩,
     ⟨(some 36), none, .beq true (.t 34) (.t 35)⟩,
     ⟨(some 37), none, .mov (.t 36)⟩,
     ⟨(some 38), (some (37, false)), .load true 2 (.t 7)⟩,
     ⟨(some 39), (some (37, false)), .load true 2 (.t 5)⟩,
     ⟨(some 40), (some (37, false)), .call .q (.f 18) [(.t 38), (.t 39)]⟩,
     ⟨(some 41), (some (37, false)), .un .not (.t 40)⟩,
     ⟨(some 42), none, .pick (.t 37) (.c (.bool true)) (.t 41)⟩,
     ⟨(some 43), none, .mov (.t 42)⟩,
     ⟨(some 44), (some (43, false)), .mov (.t 8)⟩,
     ⟨(some 45), (some (43, false)), .un .not (.t 44)⟩,
     ⟨(some 46), none, .pick (.t 43) (.c (.bool true)) (.t 45)⟩])
  (.cond (.t 46) (.seq (.reg none [
      ⟨(some 47), none, .mov (.t 8)⟩,
      ⟨(some 48), none, .mov (.t 6)⟩,
      ⟨(some 49), none, .beq false (.t 47) (.t 48)⟩,
      ⟨(some 50), none, .mov (.t 49)⟩,
      ⟨(some 51), (some (50, true)), .load true 2 (.t 7)⟩,
      ⟨(some 52), (some (50, true)), .load true 2 (.t 5)⟩,
      ⟨(some 53), (some (50, true)), .call .q (.f 18) [(.t 51), (.t 52)]⟩,
      ⟨(some 54), none, .pick (.t 50) (.t 53) (.c (.bool false))⟩,
      ⟨(some 2), none, .mov (.t 54)⟩])
   (.ret)) (.skip)))
 (.seq (.reg none [
    ⟨(some 55), none, .fad 0 (.t 3)⟩,
    ⟨(some 56), none, .load false 1 (.t 55)⟩,
    ⟨(some 57), none, .len (.t 56)⟩,
    ⟨(some 58), none, .mks 1 3 8 [(.int .i64 0)] (.t 57) (.t 57)⟩,
    ⟨(some 9), none, .mov (.t 58)⟩])
 (.seq (.reg none [
    ⟨(some 60), none, .load true 2 (.t 3)⟩,
    ⟨(some 61), none, .mov (.t 9)⟩,
    ⟨(some 62), none, .call .k (.f 26) [(.t 60), (.t 61)]⟩,
    ⟨(some 59), none, .mov (.t 62)⟩,
    ⟨(some 63), none, .ext (.t 59) 0⟩,
    ⟨(some 64), none, .ext (.t 59) 1⟩,
    ⟨(some 10), none, .new [(.slice none 0 0), (.slice none 0 0), (.slice none 0 0)]⟩,
    ⟨none, none, .store 3 (.t 10) (.t 63)⟩,
    ⟨(some 11), none, .mov (.t 64)⟩])
 (.seq (.reg none [
    ⟨(some 66), none, .load true 2 (.t 7)⟩,
    ⟨(some 67), none, .mov (.t 9)⟩,
    ⟨(some 68), none, .call .k (.f 26) [(.t 66), (.t 67)]⟩,
    ⟨(some 65), none, .mov (.t 68)⟩,
    ⟨(some 69), none, .ext (.t 65) 0⟩,
    ⟨(some 70), none, .ext (.t 65) 1⟩,
    ⟨(some 12), none, .new [(.slice none 0 0), (.slice none 0 0), (.slice none 0 0)]⟩,
    ⟨none, none, .store 3 (.t 12) (.t 69)⟩,
    ⟨(some 13), none, .mov (.t 70)⟩])
 (.seq (.reg (some 13) [
    ⟨(some 71), none, .mov (.t 11)⟩,
    ⟨(some 72), none, .mov (.t 71)⟩,
    ⟨(some 73), (some (72, true)), .mov (.t 13)⟩,
    ⟨(some 74), none, .pick (.t 72) (.t 73) (.c (.bool false))⟩,
    ⟨(some 75), none, .mov (.t 74)⟩,
    ⟨(some 76), (some (75, true)), .load true 3 (.t 10)⟩,
    ⟨(some 77), (some (75, true)), .load true 3 (.t 12)⟩,
    ⟨(some 78), (some (75, true)), .call .q (.f 27) [(.t 76), (.t 77)]⟩,
    ⟨(some 79), none, .pick (.t 75) (.t 78) (.c (.bool false))⟩,
    ⟨(some 80), none, .mov (.t 79)⟩,
    ⟨(some 81), (some (80, true)), .load true 2 (.t 7)⟩,
    ⟨(some 82), (some (80, true)), .call .q (.f 28) [(.t 81)]⟩,
    ⟨(some 83), (some (80, true)), .load true 2 (.t 3)⟩,
    ⟨(some 84), (some (80, true)), .call .q (.f 28) [(.t 83)]⟩,
    ⟨(some 85), (some (80, true)), .bin .eql (.t 82) (.t 84)⟩,
    ⟨(some 86), none, .pick (.t 80) (.t 85) (.c (.bool false))⟩,
    ⟨(some 2), none, .mov (.t 86)⟩])
 (.ret))))))))))⟩
set_option maxHeartbeats 4000000 in
theorem lawIR_ok {F : Nat → Option IFn} {f : Nat} (hf : F f = some c_lawIR) (gd : DrawInfer F 15) (gsp : InferOk F 16) (gim : InferOk F 17) (glp : SamePOk F 18) (gru : RunOk F 26) (glr : RunsOk F 27) (gsz : SizeOk F 28) : LawB F f := by
  intro H v code hv
  obtain ⟨_, av, rfl, _⟩ := id hv
  refine QC.mk hf rfl ?_
  refine seq_reg ?_
  simp only [go_sem, binC]
  refine seq_assoc (seq_reg ?_)
  simp only [go_sem, binC]
  by_cases hbig : 1048576 < (code.length : Int)
  · refine seq_cond (t := true) (by simp only [go_sem, binC]; rw [decide_eq_true hbig]) ?_
    simp only [go_sem, binC]
    refine seq_assoc (seq_reg ?_)
    simp only [go_sem, binC]
    exact seq_ret ⟨Or.inr rfl, .bool true, by simp only [go_sem, binC], rfl, rfl⟩
  refine seq_cond (t := false) (by simp only [go_sem, binC]; rw [decide_eq_false hbig]) ?_
  simp only [go_sem, binC]
  refine seq_skip (seq_reg ?_)
  simp only [go_sem, binC]
  obtain ⟨d, lv, sv, fv, ls, l, free, H1, k1, x1, r1, r2, hsm, r3, hfn⟩ := gd H _ code hv
  refine op_callK (by simp only [go_sem, binC]; exact k1) ?_
  obtain ⟨hlsn, la, rfl, _⟩ := id r1
  have osv : one sv = true := by obtain ⟨_, a, rfl, _⟩ := r2; rfl
  obtain ⟨_, fa, rfl, _⟩ := id r3
  have hn1 := x1.1
  simp only [go_sem, binC, osv]
  refine ⟨by omega, ?_⟩
  refine wpc_gen fun Ha hHa => ?_
  have xa : AgX [] H1 Ha := hHa ▸ AgX.app [] _ _
  have hpa : Ha[H1.length]? = some ⟨[.slice la ls.length ls.length, sv], 0, 0, false, true⟩ := hHa ▸ get_new0 _ _
  clear hHa k1
  have hna := xa.1
  refine seq_reg ?_
  simp only [go_sem, binC, gc_of hpa, inBlk_some, osv]
  obtain ⟨wl, ws, H2, k2, x2, w1, w2⟩ := gsp Ha d _ sv _ ls l free (r1.mono (agx_sub xa)) (r2.mono (agx_sub xa)) hsm (r3.mono (agx_sub xa))
  refine op_callK (by simp only [go_sem, binC]; exact k2) ?_
  have owl : one wl = true := by obtain ⟨_, a, rfl, _⟩ := w1; rfl
  have ows : one ws = true := by obtain ⟨_, a, rfl, _⟩ := w2; rfl
  have hn2 := x2.1
  simp only [go_sem, binC, owl, ows]
  refine ⟨by omega, ?_⟩
  refine wpc_gen fun Hb hHb => ?_
  have xb : AgX [] H2 Hb := hHb ▸ AgX.app [] _ _
  have hwb : Hb[H2.length]? = some ⟨[wl, ws], 0, 0, false, true⟩ := hHb ▸ get_new0 _ _
  clear hHb k2
  have hnb := xb.1
  have xab := x2.tr xb
  have hpb := xab.get hpa (by simp)
  have x1b := xa.tr xab
  refine seq_reg ?_
  simp only [go_sem, binC, gc_of hpb, inBlk_some, osv]
  obtain ⟨xl, xs, H3, k3, x3, y1, y2⟩ := gim Hb d _ sv _ ls l free (r1.mono (agx_sub x1b)) (r2.mono (agx_sub x1b)) hsm (r3.mono (agx_sub x1b))
  refine op_callK (by simp only [go_sem, binC]; exact k3) ?_
  obtain ⟨_, xa_, rfl, _⟩ := id y1
  have oxs : one xs = true := by obtain ⟨_, a, rfl, _⟩ := y2; rfl
  have hn3 := x3.1
  simp only [go_sem, binC, oxs]
  refine ⟨by omega, ?_⟩
  refine wpc_gen fun Hc hHc => ?_
  have xc : AgX [] H3 Hc := hHc ▸ AgX.app [] _ _
  have hxc : Hc[H3.length]? = some ⟨[.slice xa_ (inferO d (ls, l) free).1.length (inferO d (ls, l) free).1.length, xs], 0, 0, false, true⟩ := hHc ▸ get_new0 _ _
  clear hHc k3
  have hnc := xc.1
  have xbc := x3.tr xc
  have hpc := xbc.get hpb (by simp)
  have hwc := xbc.get hwb (by simp)
  have x1c := x1b.tr xbc
  have r1c := r1.mono (agx_sub x1c)
  have r2c := r2.mono (agx_sub x1c)
  have r3c := r3.mono (agx_sub x1c)
  have y1c := y1.mono (agx_sub xc)
  have y2c := y2.mono (agx_sub xc)
  have w1c := w1.mono (agx_sub (xb.tr xbc))
  have w2c := w2.mono (agx_sub (xb.tr xbc))
  have hsmO : (Co.prog d).sm ((inferO d (ls, l) free).1, (inferO d (ls, l) free).2) := by
    unfold inferO
    cases hN : inferV d (ls, l) free with
    | none => exact ⟨⟨by simp, fun _ h => by cases h⟩, ⟨by simp, fun _ h => by cases h⟩⟩
    | some r =>
      obtain ⟨q1, _, _, q4⟩ := inferV_some hN
      exact sm_ls hsm (by rw [q4]; exact infL_len q1)
  have hsame : QC F 18 [.agg #[.slice xa_ (inferO d (ls, l) free).1.length (inferO d (ls, l) free).1.length, xs], .agg #[wl, ws]] Hc (.bool true) := glp Hc d _ _ _ _ _ _ y1c y2c w1c w2c hsmO
  refine seq_assoc (seq_reg ?_)
  generalize hbs : (inferV d (ls, l) free).isSome = bs
  simp only [go_sem, binC, beq_self_eq_true, bne_self_eq_false, Bool.not_true, gc_of hxc, gc_of hwc, inBlk_some, oxs, owl, ows]
  refine op_callQ (by simp only [go_sem, binC]; exact hsame) ?_
  simp only [go_sem, binC, Bool.not_true, gc_of hpc, inBlk_some, osv]
  cases bs with
  | false =>
    simp only [go_sem, binC]
    refine seq_cond (t := true) rfl ?_
    simp only [go_sem, binC]
    refine seq_assoc (seq_reg ?_)
    simp only [go_sem, binC, beq_self_eq_true, gc_of hxc, gc_of hwc, inBlk_some, oxs, owl, ows]
    refine op_callQ (by simp only [go_sem, binC]; exact hsame) ?_
    simp only [go_sem, binC]
    exact seq_ret ⟨Or.inr rfl, .bool true, by simp only [go_sem, binC], rfl, rfl⟩
  | true =>
  obtain ⟨r, hN⟩ := Option.isSome_iff_exists.1 hbs
  obtain ⟨hP, hfl, hT, hr⟩ := inferV_some hN
  simp only at hP hfl hT hr
  have hO : inferO d (ls, l) free = (r, l) := by unfold inferO; rw [hN]
  have hrl : r.length = ls.length := by rw [hr]; exact infL_len hP
  have hls4 := progB_le4 hP
  rw [hO] at y1c y2c w1c w2c hxc hsame hsmO
  simp only at y1c y2c w1c w2c hxc hsame hsmO
  rw [hrl] at y1c hxc hsame
  simp only [go_sem, binC]
  refine seq_cond (t := false) rfl ?_
  simp only [go_sem, binC]
  have hPr : progB d (r, l) = true := (typeP_iff.1 hT).1
  refine seq_skip (seq_reg ?_)
  simp only [go_sem, binC, gc_of hpc, inBlk_some]
  refine ⟨by omega, ?_⟩
  simp only [go_sem, binC, Int.toNat_natCast, rep_intv]
  generalize hHd : Hc ++ [(⟨intv (List.replicate ls.length 0), 1, 3, true, true⟩ : Blk)] = Hd
  have xd : AgX [] Hc Hd := hHd ▸ AgX.app [] _ _
  have hbd : Hd[Hc.length]? = some ⟨intv (List.replicate ls.length 0), 1, 3, true, true⟩ := hHd ▸ get_new0 _ _
  clear hHd
  have hfd := intv_sl hbd (fun x hx => by rw [(List.mem_replicate.1 hx).2]; unfold RgI; exact ⟨by omega, by omega⟩) (by rw [List.length_replicate]; omega)
  rw [List.length_replicate] at hfd
  have hnd := xd.1
  have hpd := xd.get hpc (by simp)
  have hxd := xd.get hxc (by simp)
  refine seq_reg ?_
  simp only [go_sem, binC, gc_of hpd, inBlk_some, osv]
  obtain ⟨nv, wv, tv, H4, k4, x4, n1, n2, n3⟩ := gru Hd d _ sv _ ls l _ (r1c.mono (agx_sub xd)) (r2c.mono (agx_sub xd)) hsm hfd
  rw [nums0 hP] at k4
  refine op_callK (by simp only [go_sem, binC]; exact k4) ?_
  have on1 : one nv = true := by obtain ⟨_, a, rfl, _⟩ := n1; rfl
  have on2 : one wv = true := by obtain ⟨_, a, rfl, _⟩ := n2; rfl
  have on3 : one tv = true := by obtain ⟨_, a, rfl, _⟩ := n3; rfl
  have hn4 := x4.1
  simp only [go_sem, binC, on1, on2, on3]
  refine ⟨by omega, ?_⟩
  refine wpc_gen fun He hHe => ?_
  have xe : AgX [] H4 He := hHe ▸ AgX.app [] _ _
  have hae : He[H4.length]? = some ⟨[nv, wv, tv], 0, 0, false, true⟩ := hHe ▸ get_new0 _ _
  clear hHe k4
  have xde := x4.tr xe
  have xce := xd.tr xde
  have hpe := xde.get hpd (by simp)
  have hxe := xde.get hxd (by simp)
  have hne := xe.1
  refine seq_reg ?_
  simp only [go_sem, binC, gc_of hxe, inBlk_some, oxs]
  have hnr : numsB d (r, l) (List.replicate ls.length 0) = true := by
    have := nums0 hPr
    rwa [hrl] at this
  obtain ⟨nv', wv', tv', H5, k5, x5, m1, m2, m3⟩ := gru He d _ xs _ r l _ (y1c.mono (agx_sub xce)) (y2c.mono (agx_sub xce)) hsmO (hfd.mono (agx_sub xde))
  rw [hnr] at k5
  refine op_callK (by simp only [go_sem, binC]; exact k5) ?_
  have om1 : one nv' = true := by obtain ⟨_, a, rfl, _⟩ := m1; rfl
  have om2 : one wv' = true := by obtain ⟨_, a, rfl, _⟩ := m2; rfl
  have om3 : one tv' = true := by obtain ⟨_, a, rfl, _⟩ := m3; rfl
  have hn5 := x5.1
  simp only [go_sem, binC, om1, om2, om3]
  refine ⟨by omega, ?_⟩
  refine wpc_gen fun Hg hHg => ?_
  have xg : AgX [] H5 Hg := hHg ▸ AgX.app [] _ _
  have hbg : Hg[H5.length]? = some ⟨[nv', wv', tv'], 0, 0, false, true⟩ := hHg ▸ get_new0 _ _
  clear hHg k5
  have xeg := x5.tr xg
  have xcg := xce.tr xeg
  have hag := xeg.get hae (by simp)
  have hpg := xeg.get hpe (by simp)
  have hxg := xeg.get hxe (by simp)
  have hsr : runOf d (r, l) (List.replicate ls.length 0) = runOf d (ls, l) (List.replicate ls.length 0) := by
    unfold runOf
    rw [hnr, nums0 hP]
  rw [hsr] at m1 m2 m3
  have hdec : decide (runOf d (ls, l) (List.replicate ls.length 0) = runOf d (ls, l) (List.replicate ls.length 0)) = true := decide_eq_true rfl
  refine seq_regD ?_
  simp only [go_sem, binC, gc_of hag, gc_of hbg, inBlk_some, on1, on2, on3, om1, om2, om3]
  refine op_callQ (by simp only [go_sem, binC]; exact glr Hg _ _ _ _ _ _ _ _ (n1.mono (agx_sub (xe.tr xeg))) (n2.mono (agx_sub (xe.tr xeg))) (n3.mono (agx_sub (xe.tr xeg))) (m1.mono (agx_sub xg)) (m2.mono (agx_sub xg)) (m3.mono (agx_sub xg))) ?_
  rw [hdec]
  simp only [go_sem, binC, gc_of hxg, gc_of hpg, inBlk_some, oxs, osv]
  refine op_callQ (by simp only [go_sem, binC]; exact gsz Hg d _ _ r l (y1c.mono (agx_sub xcg)) (y2c.mono (agx_sub xcg)) hsmO hPr) ?_
  simp only [go_sem, binC, gc_of hxg, gc_of hpg, inBlk_some, oxs, osv]
  refine op_callQ (by simp only [go_sem, binC]; exact gsz Hg d _ _ ls l (r1c.mono (agx_sub xcg)) (r2c.mono (agx_sub xcg)) hsm hP) ?_
  simp only [go_sem, binC, beq_self_eq_true]
  exact wpc_ret ⟨Or.inr rfl, .bool true, by simp only [go_sem, binC], rfl, rfl⟩
end Go.Proofs.YtkmghcglmjehcaaI
end
section
/- The functions that laws of Infer reach, as ideal functions. -/
set_option linter.unusedVariables false
set_option linter.unusedSimpArgs false
namespace Go.Proofs.YtkmghcglmjehcaaI
open Go Go.RowKit
def fnOf : Nat → Option IFn
  | 9 => some (c_lawIR)
  | 15 => some (c_drInfer)
  | 16 => some (c_sInferOf)
  | 17 => some (c_iInferOf)
  | 18 => some (c_lcProg)
  | 19 => some (c_sProg)
  | 20 => some (c_iTypeOk)
  | 21 => some (c_lcSteps)
  | 22 => some (c_sTypeOk)
  | 25 => some (c_sLabelOk)
  | 26 => some (c_iRunOf)
  | 27 => some (c_lcRun)
  | 28 => some (c_iProgSize)
  | 40 => some (c_lcInts)
  | 48 => some (c_l6Open)
  | 49 => some (c_drAny)
  | 50 => some (c_pick)
  | 51 => some (c_sCopy)
  | 52 => some (c_sAny)
  | 53 => some (c_sNeed)
  | 54 => some (c_iProg)
  | 55 => some (c_pclone)
  | 56 => some (c_iEvery)
  | 57 => some (c_iAt)
  | 58 => some (c_iAll)
  | 59 => some (c_iBoth)
  | 60 => some (c_iSource)
  | 61 => some (c_sSteps)
  | 62 => some (c_sCount)
  | 63 => some (c_iWhy0)
  | 64 => some (c_sWhy)
  | 65 => some (c_iLabelOk)
  | 66 => some (c_iFlows)
  | 68 => some (c_sSet)
  | 69 => some (c_iNums)
  | 70 => some (c_cloneInts)
  | 71 => some (c_do)
  | 72 => some (c_clone)
  | 73 => some (c_lcWrites)
  | 74 => some (c_iSize)
  | 85 => some (c_drProg)
  | 86 => some (c_sIn)
  | 89 => some (c_iHost)
  | 100 => some (c_drFine)
  | 101 => some (c_drBent)
  | 102 => some (c_sAll)
  | 103 => some (c_sAllSteps)
  | 104 => some (c_sTypeAt)
  | 105 => some (c_sLBoth)
  | 106 => some (c_sValL)
  | 107 => some (c_con)
  | 108 => some (c_p1)
  | 109 => some (c_iSteps)
  | 110 => some (c_cloneSteps)
  | 111 => some (c_iLabels)
  | 112 => some (c_vars)
  | 113 => some (c_sStep)
  | 114 => some (c_iHas)
  | 115 => some (c_sFine)
  | 116 => some (c_iSet)
  | 117 => some (c_iWithin)
  | 118 => some (c_drLabel)
  | 119 => some (c_iNum)
  | 120 => some (c_set)
  | 121 => some (c_of)
  | 127 => some (c_drSteps)
  | 135 => some (c_sHas)
  | 136 => some (c_iIn)
  | 139 => some (c_sWithout)
  | 140 => some (c_sAt)
  | 141 => some (c_sBoth)
  | 142 => some (c_idx)
  | 143 => some (c_iVar)
  | 144 => some (c_iVal)
  | 145 => some (c_sVar)
  | 146 => some (c_sVal)
  | 147 => some (c_sFlows)
  | 150 => some (c_drVal)
  | 153 => some (c_sWithin)
  | _ => none
def cmOf (f : Nat) : CM := ⟨fun g => if [9, 18, 19, 20, 21, 22, 25, 27, 28, 40, 52, 53, 54, 56, 59, 60, 61, 62, 63, 64, 65, 66, 68, 69, 73, 74, 86, 89, 102, 105, 106, 107, 108, 109, 113, 114, 115, 116, 117, 119, 121, 135, 136, 141, 142, 143, 144, 145, 146, 147, 153].contains g then .q else if [48, 49, 50, 71, 85, 100, 101, 111, 118, 120, 127, 140, 150].contains g then .n else .k, if [48, 49, 50, 71, 85, 100, 101, 111, 118, 120, 127, 140, 150].contains f then .n else .q, [110].contains f⟩
theorem hF9 : cFn Try.prog cmOf 9 = some (c_lawIR) := by kernel_rfl
theorem hF15 : cFn Try.prog cmOf 15 = some (c_drInfer) := by kernel_rfl
theorem hF16 : cFn Try.prog cmOf 16 = some (c_sInferOf) := by kernel_rfl
theorem hF17 : cFn Try.prog cmOf 17 = some (c_iInferOf) := by kernel_rfl
theorem hF18 : cFn Try.prog cmOf 18 = some (c_lcProg) := by kernel_rfl
theorem hF19 : cFn Try.prog cmOf 19 = some (c_sProg) := by kernel_rfl
theorem hF20 : cFn Try.prog cmOf 20 = some (c_iTypeOk) := by kernel_rfl
theorem hF21 : cFn Try.prog cmOf 21 = some (c_lcSteps) := by kernel_rfl
theorem hF22 : cFn Try.prog cmOf 22 = some (c_sTypeOk) := by kernel_rfl
theorem hF25 : cFn Try.prog cmOf 25 = some (c_sLabelOk) := by kernel_rfl
theorem hF26 : cFn Try.prog cmOf 26 = some (c_iRunOf) := by kernel_rfl
theorem hF27 : cFn Try.prog cmOf 27 = some (c_lcRun) := by kernel_rfl
theorem hF28 : cFn Try.prog cmOf 28 = some (c_iProgSize) := by kernel_rfl
theorem hF40 : cFn Try.prog cmOf 40 = some (c_lcInts) := by kernel_rfl
theorem hF48 : cFn Try.prog cmOf 48 = some (c_l6Open) := by kernel_rfl
theorem hF49 : cFn Try.prog cmOf 49 = some (c_drAny) := by kernel_rfl
theorem hF50 : cFn Try.prog cmOf 50 = some (c_pick) := by kernel_rfl
theorem hF51 : cFn Try.prog cmOf 51 = some (c_sCopy) := by kernel_rfl
theorem hF52 : cFn Try.prog cmOf 52 = some (c_sAny) := by kernel_rfl
theorem hF53 : cFn Try.prog cmOf 53 = some (c_sNeed) := by kernel_rfl
theorem hF54 : cFn Try.prog cmOf 54 = some (c_iProg) := by kernel_rfl
theorem hF55 : cFn Try.prog cmOf 55 = some (c_pclone) := by kernel_rfl
theorem hF56 : cFn Try.prog cmOf 56 = some (c_iEvery) := by kernel_rfl
theorem hF57 : cFn Try.prog cmOf 57 = some (c_iAt) := by kernel_rfl
theorem hF58 : cFn Try.prog cmOf 58 = some (c_iAll) := by kernel_rfl
theorem hF59 : cFn Try.prog cmOf 59 = some (c_iBoth) := by kernel_rfl
theorem hF60 : cFn Try.prog cmOf 60 = some (c_iSource) := by kernel_rfl
theorem hF61 : cFn Try.prog cmOf 61 = some (c_sSteps) := by kernel_rfl
theorem hF62 : cFn Try.prog cmOf 62 = some (c_sCount) := by kernel_rfl
theorem hF63 : cFn Try.prog cmOf 63 = some (c_iWhy0) := by kernel_rfl
theorem hF64 : cFn Try.prog cmOf 64 = some (c_sWhy) := by kernel_rfl
theorem hF65 : cFn Try.prog cmOf 65 = some (c_iLabelOk) := by kernel_rfl
theorem hF66 : cFn Try.prog cmOf 66 = some (c_iFlows) := by kernel_rfl
theorem hF68 : cFn Try.prog cmOf 68 = some (c_sSet) := by kernel_rfl
theorem hF69 : cFn Try.prog cmOf 69 = some (c_iNums) := by kernel_rfl
theorem hF70 : cFn Try.prog cmOf 70 = some (c_cloneInts) := by kernel_rfl
theorem hF71 : cFn Try.prog cmOf 71 = some (c_do) := by kernel_rfl
theorem hF72 : cFn Try.prog cmOf 72 = some (c_clone) := by kernel_rfl
theorem hF73 : cFn Try.prog cmOf 73 = some (c_lcWrites) := by kernel_rfl
theorem hF74 : cFn Try.prog cmOf 74 = some (c_iSize) := by kernel_rfl
theorem hF85 : cFn Try.prog cmOf 85 = some (c_drProg) := by kernel_rfl
theorem hF86 : cFn Try.prog cmOf 86 = some (c_sIn) := by kernel_rfl
theorem hF89 : cFn Try.prog cmOf 89 = some (c_iHost) := by kernel_rfl
theorem hF100 : cFn Try.prog cmOf 100 = some (c_drFine) := by kernel_rfl
theorem hF101 : cFn Try.prog cmOf 101 = some (c_drBent) := by kernel_rfl
theorem hF102 : cFn Try.prog cmOf 102 = some (c_sAll) := by kernel_rfl
theorem hF103 : cFn Try.prog cmOf 103 = some (c_sAllSteps) := by kernel_rfl
theorem hF104 : cFn Try.prog cmOf 104 = some (c_sTypeAt) := by kernel_rfl
theorem hF105 : cFn Try.prog cmOf 105 = some (c_sLBoth) := by kernel_rfl
theorem hF106 : cFn Try.prog cmOf 106 = some (c_sValL) := by kernel_rfl
theorem hF107 : cFn Try.prog cmOf 107 = some (c_con) := by kernel_rfl
theorem hF108 : cFn Try.prog cmOf 108 = some (c_p1) := by kernel_rfl
theorem hF109 : cFn Try.prog cmOf 109 = some (c_iSteps) := by kernel_rfl
theorem hF110 : cFn Try.prog cmOf 110 = some (c_cloneSteps) := by kernel_rfl
theorem hF111 : cFn Try.prog cmOf 111 = some (c_iLabels) := by kernel_rfl
theorem hF112 : cFn Try.prog cmOf 112 = some (c_vars) := by kernel_rfl
theorem hF113 : cFn Try.prog cmOf 113 = some (c_sStep) := by kernel_rfl
theorem hF114 : cFn Try.prog cmOf 114 = some (c_iHas) := by kernel_rfl
theorem hF115 : cFn Try.prog cmOf 115 = some (c_sFine) := by kernel_rfl
theorem hF116 : cFn Try.prog cmOf 116 = some (c_iSet) := by kernel_rfl
theorem hF117 : cFn Try.prog cmOf 117 = some (c_iWithin) := by kernel_rfl
theorem hF118 : cFn Try.prog cmOf 118 = some (c_drLabel) := by kernel_rfl
theorem hF119 : cFn Try.prog cmOf 119 = some (c_iNum) := by kernel_rfl
theorem hF120 : cFn Try.prog cmOf 120 = some (c_set) := by kernel_rfl
theorem hF121 : cFn Try.prog cmOf 121 = some (c_of) := by kernel_rfl
theorem hF127 : cFn Try.prog cmOf 127 = some (c_drSteps) := by kernel_rfl
theorem hF135 : cFn Try.prog cmOf 135 = some (c_sHas) := by kernel_rfl
theorem hF136 : cFn Try.prog cmOf 136 = some (c_iIn) := by kernel_rfl
theorem hF139 : cFn Try.prog cmOf 139 = some (c_sWithout) := by kernel_rfl
theorem hF140 : cFn Try.prog cmOf 140 = some (c_sAt) := by kernel_rfl
theorem hF141 : cFn Try.prog cmOf 141 = some (c_sBoth) := by kernel_rfl
theorem hF142 : cFn Try.prog cmOf 142 = some (c_idx) := by kernel_rfl
theorem hF143 : cFn Try.prog cmOf 143 = some (c_iVar) := by kernel_rfl
theorem hF144 : cFn Try.prog cmOf 144 = some (c_iVal) := by kernel_rfl
theorem hF145 : cFn Try.prog cmOf 145 = some (c_sVar) := by kernel_rfl
theorem hF146 : cFn Try.prog cmOf 146 = some (c_sVal) := by kernel_rfl
theorem hF147 : cFn Try.prog cmOf 147 = some (c_sFlows) := by kernel_rfl
theorem hF150 : cFn Try.prog cmOf 150 = some (c_drVal) := by kernel_rfl
theorem hF153 : cFn Try.prog cmOf 153 = some (c_sWithin) := by kernel_rfl
theorem hF (g : Nat) (fn : IFn) (h : fnOf g = some fn) : cFn Try.prog cmOf g = some fn := by
  unfold fnOf at h
  split at h
  · rw [← h]; exact hF9
  · rw [← h]; exact hF15
  · rw [← h]; exact hF16
  · rw [← h]; exact hF17
  · rw [← h]; exact hF18
  · rw [← h]; exact hF19
  · rw [← h]; exact hF20
  · rw [← h]; exact hF21
  · rw [← h]; exact hF22
  · rw [← h]; exact hF25
  · rw [← h]; exact hF26
  · rw [← h]; exact hF27
  · rw [← h]; exact hF28
  · rw [← h]; exact hF40
  · rw [← h]; exact hF48
  · rw [← h]; exact hF49
  · rw [← h]; exact hF50
  · rw [← h]; exact hF51
  · rw [← h]; exact hF52
  · rw [← h]; exact hF53
  · rw [← h]; exact hF54
  · rw [← h]; exact hF55
  · rw [← h]; exact hF56
  · rw [← h]; exact hF57
  · rw [← h]; exact hF58
  · rw [← h]; exact hF59
  · rw [← h]; exact hF60
  · rw [← h]; exact hF61
  · rw [← h]; exact hF62
  · rw [← h]; exact hF63
  · rw [← h]; exact hF64
  · rw [← h]; exact hF65
  · rw [← h]; exact hF66
  · rw [← h]; exact hF68
  · rw [← h]; exact hF69
  · rw [← h]; exact hF70
  · rw [← h]; exact hF71
  · rw [← h]; exact hF72
  · rw [← h]; exact hF73
  · rw [← h]; exact hF74
  · rw [← h]; exact hF85
  · rw [← h]; exact hF86
  · rw [← h]; exact hF89
  · rw [← h]; exact hF100
  · rw [← h]; exact hF101
  · rw [← h]; exact hF102
  · rw [← h]; exact hF103
  · rw [← h]; exact hF104
  · rw [← h]; exact hF105
  · rw [← h]; exact hF106
  · rw [← h]; exact hF107
  · rw [← h]; exact hF108
  · rw [← h]; exact hF109
  · rw [← h]; exact hF110
  · rw [← h]; exact hF111
  · rw [← h]; exact hF112
  · rw [← h]; exact hF113
  · rw [← h]; exact hF114
  · rw [← h]; exact hF115
  · rw [← h]; exact hF116
  · rw [← h]; exact hF117
  · rw [← h]; exact hF118
  · rw [← h]; exact hF119
  · rw [← h]; exact hF120
  · rw [← h]; exact hF121
  · rw [← h]; exact hF127
  · rw [← h]; exact hF135
  · rw [← h]; exact hF136
  · rw [← h]; exact hF139
  · rw [← h]; exact hF140
  · rw [← h]; exact hF141
  · rw [← h]; exact hF142
  · rw [← h]; exact hF143
  · rw [← h]; exact hF144
  · rw [← h]; exact hF145
  · rw [← h]; exact hF146
  · rw [← h]; exact hF147
  · rw [← h]; exact hF150
  · rw [← h]; exact hF153
  · cases h
theorem hMixed : Try.prog.follows .mixedOrders = true := by kernel_rfl
theorem ok_iIn : ∀ (H : Heap) (a b c : Int), QC fnOf 136 [.int .i64 a, .int .i64 b, .int .i64 c] H (.bool (inB a b c)) := iIn_ok rfl
theorem ok_sIn : ∀ (H : Heap) (a b c : Int), QC fnOf 86 [.int .i64 a, .int .i64 b, .int .i64 c] H (.bool (inB a b c)) := sIn_ok rfl
theorem ok_iSet : ∀ (H : Heap) (a : Int), QC fnOf 116 [.int .i64 a] H (.bool (inB a 0 7)) := iSet_ok rfl ok_iIn
theorem ok_iHost : ∀ (H : Heap) (a : Int), QC fnOf 89 [.int .i64 a] H (.bool (inB a 0 2)) := iHost_ok rfl ok_iIn
theorem ok_iNum : ∀ (H : Heap) (a : Int), QC fnOf 119 [.int .i64 a] H (.bool (inB a 0 9)) := iNum_ok rfl ok_iIn
theorem ok_sAll : ∀ H, QC fnOf 102 [] H (.int .i64 7) := sAll_ok rfl
theorem ok_sSet : ∀ (H : Heap) (a : Int), QC fnOf 68 [.int .i64 a] H (.bool (inB a 0 7)) := sSet_ok rfl ok_sIn ok_sAll
theorem ok_iLabelOk : LabOk fnOf 65 := iLabelOk_ok rfl ok_iSet
theorem ok_sLabelOk : LabOk fnOf 25 := sLabelOk_ok rfl ok_sSet
theorem ok_iVar : VarOk fnOf 143 := iVar_ok rfl ok_iIn
theorem ok_sVar : VarOk fnOf 145 := sVar_ok rfl ok_sIn
theorem ok_iVal : ValOk fnOf 144 := iVal_ok rfl ok_iNum ok_iVar
theorem ok_sVal : ValOk fnOf 146 := sVal_ok rfl ok_sIn ok_sVar
theorem ok_sSteps : ∀ n, StepsOk fnOf 61 n := fun n => (sSteps_all rfl rfl ok_sIn ok_sVar ok_sVal n).1
theorem ok_iSteps : ∀ n, StepsOk fnOf 109 n := iSteps_all rfl ok_iVar ok_iVal ok_iHost
theorem ok_sCount : ∀ n, CntOk fnOf 62 n := cnt_all (fun _ h => sCount_ok rfl h) (sCount_z rfl)
theorem ok_iSize : ∀ n, CntOk fnOf 74 n := cnt_all (fun _ h => iSize_ok rfl h) (iSize_z rfl)
theorem ok_sProg : ProgOk fnOf 19 := sProg_ok rfl ok_sLabelOk ok_sSteps ok_sCount
theorem ok_iProg : ProgOk fnOf 54 := iProg_ok rfl (con_ok rfl (idx_ok rfl (p1_ok rfl ok_iLabelOk))) ok_iSteps ok_iSize
theorem ok_sHas : HasOk fnOf 135 := sHas_ok rfl
theorem ok_sWit : WitOk fnOf 153 := sWithin_ok rfl ok_sHas
theorem ok_sBoth : BothOk fnOf 141 := sBoth_ok rfl ok_sHas
theorem ok_sLBoth : LBothOk fnOf 105 := sLBoth_ok rfl ok_sLabelOk ok_sBoth
theorem ok_sFlows : FlowsOk fnOf 147 := sFlows_ok rfl ok_sLabelOk ok_sWit
theorem ok_sAny : ∀ H, QC fnOf 52 [] H (.agg #[.int .i64 7, .int .i64 7]) := sAny_ok rfl ok_sAll
theorem ok_sFine : FineOk fnOf 115 := sFine_ok rfl (sValL_ok rfl ok_sAny ok_sLBoth) ok_sLBoth ok_sFlows ok_sBoth ok_sHas
theorem ok_sAllSteps : ∀ n, AllOk fnOf 103 n := sAllSteps_all rfl
theorem ok_sAt : ∀ n, AtOk fnOf 140 n := sAt_all rfl ok_sLBoth
theorem ok_sTypeAt : TypeAtOk fnOf 104 := sTypeAt_ok rfl ok_sProg ok_sAny ok_sAt
theorem ok_sWhy : WhyOk fnOf 64 := sWhy_ok rfl ok_sProg ok_sAllSteps ok_sTypeAt ok_sFine
theorem ok_sCopy : ∀ n, CopyOk fnOf 51 n := sCopy_all rfl
theorem ok_sWithout : ∀ n, WoOk fnOf 139 n := sWithout_all rfl ok_sCount
theorem ok_drProg {H0 : Heap} {rb : Nat} {bv : Value} {code : List Int} (hc : RdC H0 rb bv code) : DrawS fnOf H0 rb bv 85 [] 40000 (ProgQ 3) := drProg_ok rfl rfl rfl rfl rfl ok_sProg hc
theorem ok_drFine {H0 : Heap} {rb : Nat} {bv : Value} {code : List Int} (hc : RdC H0 rb bv code) : DrawS fnOf H0 rb bv 100 [] 40000 (ProgQ 3) := drFine_ok rfl hc (ok_drProg hc) ok_sWhy ok_sWithout
theorem ok_drAny {H0 : Heap} {rb : Nat} {bv : Value} {code : List Int} (hc : RdC H0 rb bv code) : DrawS fnOf H0 rb bv 49 [] 90000 ProgR := drAny_ok rfl rfl hc (ok_drProg hc) (ok_drFine hc) (drBent_ok rfl rfl ok_sCopy hc)
theorem ok_iHas : HasOk fnOf 114 := iHas_ok rfl ok_iHost
theorem ok_iWit : WitOk fnOf 117 := iWithin_ok rfl
theorem ok_iBoth : ILBoth fnOf 59 := iBoth_ok rfl
theorem ok_iAt : AtP fnOf 57 := iAt_ok rfl (iLabels_all rfl ok_iBoth) (iEvery_ok rfl)
theorem ok_iWhy0 : WhyI fnOf 63 := iWhy0_ok rfl ok_iAt (iAll_all rfl) (iSource_ok rfl rfl ok_iBoth) (iFlows_ok rfl ok_iWit) ok_iHas
theorem ok_iTypeOk : TypeP fnOf 20 := iTypeOk_ok rfl ok_iProg ok_iWhy0
theorem ok_iNums : NumsOk fnOf 69 := iNums_ok rfl ok_iNum ok_iProg
theorem ok_do : ∀ n, DoOk fnOf 71 n := do_all rfl rfl rfl rfl
theorem ok_iRunOf : RunOk fnOf 26 := iRunOf_ok rfl ok_iNums rfl ok_do rfl
theorem ok_iSource : ISource fnOf 60 := iSource_ok rfl rfl ok_iBoth
theorem ok_pclone : PCloneOk fnOf 55 := pclone_ok rfl (cloneSteps_all rfl)
theorem ok_lcSteps : ∀ n, SameSOk fnOf 21 n := lcSteps_all rfl
theorem ok_lcProg : SamePOk fnOf 18 := lcProg_ok rfl ok_lcSteps
theorem ok_sWhyV : WhyV fnOf 64 := sWhyV_ok rfl ok_sProg ok_sAllSteps ok_sTypeAt ok_sFine
theorem ok_sTypeOk : TypeP fnOf 22 := sTypeOk_ok rfl ok_sWhyV ok_sProg
theorem ok_sCopyE : ∀ n, CopyE fnOf 51 n := sCopyE_all rfl
theorem ok_sNeed : NeedOk fnOf 53 := sNeed_ok rfl ok_sAllSteps ok_sTypeAt ok_sLBoth (sValL_ok rfl ok_sAny ok_sLBoth)
theorem ok_sInferOf : InferOk fnOf 16 := sInferOf_ok rfl ok_sProg ok_sCopyE ok_sAny ok_sNeed ok_sTypeOk
theorem ok_iInferOf : InferOk fnOf 17 := iInferOf_ok rfl ok_iProg ok_pclone (iEvery_ok rfl) ok_iAt (iAll_all rfl) ok_iSource ok_iBoth ok_iTypeOk
theorem ok_drInfer : DrawInfer fnOf 15 := drInfer_ok rfl rfl rfl ok_drAny
theorem ok_lcInts : IntsOk fnOf 40 := lcInts_ok rfl
theorem ok_lcWrites : PairsOk fnOf 73 := lcWrites_ok rfl
theorem ok_lcRun : RunsOk fnOf 27 := lcRun_ok rfl ok_lcInts ok_lcWrites
theorem ok_iProgSize : SizeOk fnOf 28 := iProgSize_ok rfl ok_iProg ok_iSize
theorem ok_lawIR : LawB fnOf 9 := lawIR_ok rfl ok_drInfer ok_sInferOf ok_iInferOf ok_lcProg ok_iRunOf ok_lcRun ok_iProgSize
end Go.Proofs.YtkmghcglmjehcaaI
end
section
/- Laws of lists of bytes, called in the model. -/
set_option linter.unusedVariables false
set_option linter.unusedSimpArgs false
namespace Go.Proofs.YtkmghcglmjehcaaI
open Go Go.RowKit
theorem Good.byte {w : World} {n : Int} (h : (Lit.int .u8 n).wf = true) : Good Co.byte w [.int .u8 n] := fun H m s =>
  ⟨n, [], m, [.int .u8 n], by simpa using s, sub_refl m, ⟨rfl, by simpa [Lit.wf, IntKind.min, IntKind.max, IntKind.signed, IntKind.bits] using h⟩, All2.cons (.inl rfl) All2.nil⟩
theorem good_5 {T : Type} {enc : TypeId × Value → T} {w : World} {spare : Nat → Bool} {held : Bool} {n : Nat} {cs : List Value} {x : DataW T × List MemPlace} (h : DataW.trod enc Try.prog w 0 spare held n 5 cs = some x) : Good Co.byte w cs := by
  obtain ⟨m, rfl, _, hw⟩ := DataW.trod_int Try.underlying5 h
  exact Good.byte hw
theorem good_22 {T : Type} {enc : TypeId × Value → T} {w : World} {spare : Nat → Bool} {held : Bool} {n : Nat} {cs : List Value} {x : DataW T × List MemPlace} (h : DataW.trod enc Try.prog w 0 spare held n 22 cs = some x) : Good (Co.sl Co.byte) w cs :=
  Good.sl Try.underlying22 (by kernel_rfl) (by decide) h fun _ _ _ _ h => good_5 h
theorem lawB_calls {n : Nat} (hl : LawB fnOf n) {W : World} {a : Option Addr} {l c : Nat} (g0 : Good (Co.sl Co.byte) W [.slice a l c]) :
    Calls Try.prog n #[.slice a l c] W fun e w' => e = .returned (.bool true) ∧ Below W.heap.size W w' := by
  obtain ⟨ts, L2, m2, cs1, s2, q2, r2, e2⟩ := g0 [] (fun _ => none) (SL.none _)
  obtain ⟨u, rfl, hu⟩ := r2
  exact law_core hF hMixed s2 (vals := [u]) (All2.cons (VR.one_mk e2) All2.nil) (hl _ u ts hu)
end Go.Proofs.YtkmghcglmjehcaaI
end
