/- Texts of this proof, merged: Q11, Q12, D22, D23, Q4, Q5n, Q5r, Q5, Q5b, I19, D24, D25. -/
import Derived.Test.YtfngbmibeplgiaaM5
import Derived.Test.YtfngbmibeplgiaaM6
import Derived.Test.YtfngbmibeplgiaaM7
import Derived.Test.YtfngbmibeplgiaaM8
import Derived.Test.YtfngbmibeplgiaaRows
section
/- Where a variable may be, told twice. -/
set_option linter.unusedVariables false
set_option linter.unusedSimpArgs false
namespace Go.Proofs.YtfngbmibeplgiaaI
open Go Go.RowKit
noncomputable def trB (ts : List Int) : Bool := @decide (trP ts) (Classical.propDecidable _)
theorem trB_iff {ts : List Int} : trB ts = true ↔ trP ts := by unfold trB; exact @decide_eq_true_iff _ (Classical.propDecidable _)
theorem TrOk.dec {F : Nat → Option IFn} {f : Nat} (h : TrOk F f) : ∀ (H : Heap) (u : Value) (ts : List Int), SlR Co.int (vw 0 H) u ts → QC F f [u] H (.bool (trB ts)) := by
  intro H u ts hu
  obtain ⟨b, h1, h2⟩ := h H u ts hu
  have : b = trB ts := by rw [Bool.eq_iff_iff, h2, trB_iff]
  exact this ▸ h1
attribute [local irreducible] optP wpo wpp wpc binI Kc Kp wpOp thenX
noncomputable def homeB (n : Nat) (p : TProg n) (ts : List Int) (v h : Int) : Bool := progB n p && trB ts && varB p.1.length v && inB h 0 2 && (hasB (p.1.getD v.toNat (0, 0)).1 h && witB (p.1.getD v.toNat (0, 0)).2 (byS ts h 3))
def HomeOk (F : Nat → Option IFn) (f : Nat) : Prop := ∀ (H : Heap) (n : Nat) (u w : Value) (p : TProg n) (ts : List Int) (v h : Int), Rd (Co.prog n) true (vw 0 H) u p → (Co.prog n).sm p → SlR Co.int (vw 0 H) w ts → QC F f [u, w, .int .i64 v, .int .i64 h] H (.bool (homeB n p ts v h))
theorem by_bd {ts : List Int} {h : Int} : 0 ≤ byS ts h 3 ∧ byS ts h 3 ≤ 7 := by
  have := byS_lt ts h 3
  have h2 : (2 : Int) ^ 3 = 8 := by decide
  omega
def c_sHome : IFn := ⟨4, 48, [.t 8],
 .seq (.reg none [
    ⟨(some 4), none, .box (.t 0)⟩,
    ⟨(some 8), none, .mov (.c (.bool false))⟩])
 (.seq (.seq (.reg none [
     ⟨(some 9), none, .load true 2 (.t 4)⟩,
     ⟨(some 10), none, .call .q (.f 43) [(.t 9)]⟩,
     ⟨(some 11), none, .un .not (.t 10)⟩,
     ⟨(some 12), none, .mov (.t 11)⟩,
     ⟨(some 13), (some (12, false)), .mov (.t 1)⟩,
     ⟨(some 14), (some (12, false)), .call .q (.f 44) [(.t 13)]⟩,
     ⟨(some 15), (some (12, false)), .un .not (.t 14)⟩,
     ⟨(some 16), none, .pick (.t 12) (.c (.bool true)) (.t 15)⟩,
     ⟨(some 17), none, .mov (.t 16)⟩,
     ⟨(some 18), (some (17, false)), .load true 2 (.t 4)⟩,
     ⟨(some 19), (some (17, false)), .mov (.t 2)⟩,
     ⟨(some 20), (some (17, false)), .call .q (.f 45) [(.t 18), (.t 19)]⟩,
     ⟨(some 21), (some (17, false)), .un .not (.t 20)⟩,
     ⟨(some 22), none, .pick (.t 17) (.c (.bool true)) (.t 21)⟩,
     ⟨(some 23), none, .mov (.t 22)⟩,
     ⟨(some 24), (some (23, false)), .mov (.t 3)⟩,
     ⟨(some 25), (some (23, false)), .call .q (.f 46) [(.t 24), (.c (.int .i64 0)), (.c (.int .i64 2))]⟩,
     ⟨(some 26), (some (23, false)), .un .not (.t 25)⟩,
     ⟨(some 27), none, .pick (.t 23) (.c (.bool true)) (.t 26)⟩])
  (.cond (.t 27) (.seq (.reg none [
      ⟨(some 8), none, .mov (.c (.bool false))⟩])
   (.ret)) (.skip)))
 (.seq (.reg (some 18) [
    ⟨(some 28), none, .fad 0 (.t 4)⟩,
    ⟨(some 29), none, .load false 1 (.t 28)⟩,
    ⟨(some 30), none, .mov (.t 2)⟩,
    ⟨(some 31), none, .iad 2 (.t 29) (.t 30)⟩,
    ⟨(some 32), none, .fad 0 (.t 31)⟩,
    ⟨(some 33), none, .load false 1 (.t 32)⟩,
    ⟨(some 34), none, .mov (.t 3)⟩,
    ⟨(some 35), none, .call .q (.f 47) [(.t 33), (.t 34)]⟩,
    ⟨(some 36), none, .mov (.t 35)⟩,
    ⟨(some 37), (some (36, true)), .fad 0 (.t 4)⟩,
    ⟨(some 38), (some (36, true)), .load false 1 (.t 37)⟩,
    ⟨(some 39), (some (36, true)), .mov (.t 2)⟩,
    ⟨(some 40), (some (36, true)), .iad 2 (.t 38) (.t 39)⟩,
    ⟨(some 41), (some (36, true)), .fad 1 (.t 40)⟩,
    ⟨(some 42), (some (36, true)), .load false 1 (.t 41)⟩,
    ⟨(some 43), (some (36, true)), .mov (.t 1)⟩,
    ⟨(some 44), (some (36, true)), .mov (.t 3)⟩,
    ⟨(some 45), (some (36, true)), .call .q (.f 49) [(.t 43), (.t 44)]⟩,
    ⟨(some 46), (some (36, true)), .call .q (.f 48) [(.t 42), (.t 45)]⟩,
    ⟨(some 47), none, .pick (.t 36) (.t 46) (.c (.bool false))⟩,
    ⟨(some 8), none, .mov (.t 47)⟩])
 (.ret)))⟩
def c_iPlanHome : IFn := ⟨4, 31, [.t 8],
 .seq (.reg none [
    ⟨(some 4), none, .box (.t 0)⟩,
    ⟨(some 8), none, .mov (.c (.bool false))⟩])
 (.seq (.reg none [
    ⟨(some 9), none, .load true 2 (.t 4)⟩,
    ⟨(some 10), none, .call .q (.f 38) [(.t 9)]⟩,
    ⟨(some 11), none, .mov (.t 10)⟩,
    ⟨(some 12), (some (11, true)), .mov (.t 1)⟩,
    ⟨(some 13), (some (11, true)), .call .q (.f 39) [(.t 12)]⟩,
    ⟨(some 14), none, .pick (.t 11) (.t 13) (.c (.bool false))⟩,
    ⟨(some 15), none, .mov (.t 14)⟩,
    ⟨(some 16), (some (15, true)), .load true 2 (.t 4)⟩,
    ⟨(some 17), (some (15, true)), .mov (.t 2)⟩,
    ⟨(some 18), (some (15, true)), .call .q (.f 40) [(.t 16), (.t 17)]⟩,
    ⟨(some 19), none, .pick (.t 15) (.t 18) (.c (.bool false))⟩,
    ⟨(some 20), none, .mov (.t 19)⟩,
    ⟨(some 21), (some (20, true)), .mov (.t 3)⟩,
    ⟨(some 22), (some (20, true)), .call .q (.f 41) [(.t 21)]⟩,
    ⟨(some 23), none, .pick (.t 20) (.t 22) (.c (.bool false))⟩,
    ⟨(some 24), none, .mov (.t 23)⟩,
    ⟨(some 25), (some (24, true)), .load true 2 (.t 4)⟩,
    ⟨(some 26), (some (24, true)), .mov (.t 1)⟩,
    ⟨(some 27), (some (24, true)), .mov (.t 2)⟩,
    ⟨(some 28), (some (24, true)), .mov (.t 3)⟩,
    ⟨(some 29), (some (24, true)), .call .q (.f 42) [(.t 25), (.t 26), (.t 27), (.t 28)]⟩,
    ⟨(some 30), none, .pick (.t 24) (.t 29) (.c (.bool false))⟩,
    ⟨(some 8), none, .mov (.t 30)⟩])
 (.ret))⟩
def c_iHomeM : IFn := ⟨4, 29, [.t 8],
 .seq (.reg none [
    ⟨(some 4), none, .box (.t 0)⟩,
    ⟨(some 8), none, .mov (.c (.bool false))⟩])
 (.seq (.reg (some 18) [
    ⟨(some 9), none, .fad 0 (.t 4)⟩,
    ⟨(some 10), none, .load false 1 (.t 9)⟩,
    ⟨(some 11), none, .mov (.t 2)⟩,
    ⟨(some 12), none, .iad 2 (.t 10) (.t 11)⟩,
    ⟨(some 13), none, .fad 0 (.t 12)⟩,
    ⟨(some 14), none, .load false 1 (.t 13)⟩,
    ⟨(some 15), none, .mov (.t 3)⟩,
    ⟨(some 16), none, .call .q (.f 81) [(.t 14), (.t 15)]⟩,
    ⟨(some 17), none, .mov (.t 16)⟩,
    ⟨(some 18), (some (17, true)), .fad 0 (.t 4)⟩,
    ⟨(some 19), (some (17, true)), .load false 1 (.t 18)⟩,
    ⟨(some 20), (some (17, true)), .mov (.t 2)⟩,
    ⟨(some 21), (some (17, true)), .iad 2 (.t 19) (.t 20)⟩,
    ⟨(some 22), (some (17, true)), .fad 1 (.t 21)⟩,
    ⟨(some 23), (some (17, true)), .load false 1 (.t 22)⟩,
    ⟨(some 24), (some (17, true)), .mov (.t 1)⟩,
    ⟨(some 25), (some (17, true)), .mov (.t 3)⟩,
    ⟨(some 26), (some (17, true)), .call .q (.f 83) [(.t 24), (.t 25)]⟩,
    ⟨(some 27), (some (17, true)), .call .q (.f 82) [(.t 23), (.t 26)]⟩,
    ⟨(some 28), none, .pick (.t 17) (.t 27) (.c (.bool false))⟩,
    ⟨(some 8), none, .mov (.t 28)⟩])
 (.ret))⟩
theorem iHomeM_ok {F : Nat → Option IFn} {f : Nat} (hf : F f = some c_iHomeM) (g0 : HasOk F 81) (g1 : WitOk F 82) (g2 : ByOk F 83) : ∀ (H : Heap) (n : Nat) (u w : Value) (p : TProg n) (ts : List Int) (v h : Int), Rd (Co.prog n) true (vw 0 H) u p → SlR Co.int (vw 0 H) w ts → p.1.all labB = true → varB p.1.length v = true → trP ts → inB h 0 2 = true →
    QC F f [u, w, .int .i64 v, .int .i64 h] H (.bool (hasB (p.1.getD v.toNat (0, 0)).1 h && witB (p.1.getD v.toNat (0, 0)).2 (byS ts h 3))) := by
  rintro H m u w ⟨p0, p1⟩ ts v h ⟨pc, hpc, _, _, rfl, ⟨v0, rfl, r0⟩, ⟨v1, rfl, r1⟩⟩ hw hall hvar htr hin
  simp only [go_sem, binC, Option.some.injEq] at hpc
  subst hpc
  obtain ⟨_, x1⟩ := r1.shape
  subst x1
  have hh := inB_iff.1 hin
  have hv : 0 ≤ v ∧ v ≤ (p0.length : Int) - 1 := inB_iff.1 hvar
  have hil : v.toNat < p0.length := by omega
  have r0d := r0
  obtain ⟨h0, a, rfl, h2⟩ := r0
  rcases h2 with h2 | ⟨b, o, hab, h2⟩
  · have h2q : p0 = [] := h2
    rw [h2q] at hil; simp at hil
  subst hab
  obtain ⟨cs, h3, h4⟩ := h2 v.toNat hil
  have hgd : p0.getD v.toNat (0, 0) = p0[v.toNat] := by simp [List.getD, hil]
  have hlab := List.all_eq_true.1 hall _ (List.getElem_mem hil)
  simp only at h3 h4 hlab hgd
  generalize p0[v.toNat] = y at h4 hlab hgd
  obtain ⟨y0, y1⟩ := y
  obtain ⟨_, _, rfl, ⟨rfl, b0⟩, ⟨rfl, b1⟩⟩ := h4
  simp only [labB, Bool.and_eq_true, inB_iff] at hlab
  have g3 := fun L => rng_gc (rng_sub (vw_app 0 H L) h3)
  rw [show Co.p2.w = 2 from rfl] at g3
  have g30 := fun L => gc_part (off := 0) (k := 1) (g3 L) (by omega)
  have g31 := fun L => gc_part (off := 1) (k := 1) (g3 L) (by omega)
  simp only [go_sem, binC] at g30 g31
  rw [hgd]
  obtain ⟨_, xw⟩ := hw.shape
  subst xw
  refine QC.mk hf rfl ?_
  repeat' (first
    | refine seq_assoc ?_
    | refine seq_reg ?_
    | refine seq_skip ?_
    | refine seq_regD ?_
    | refine seq_cond (t := true) rfl ?_
    | refine seq_cond (t := false) rfl ?_
    | refine wpc_cond (t := true) rfl ?_
    | refine wpc_cond (t := false) rfl ?_
    | refine seq_block ?_
    | refine wpc_block ?_
    | refine seq_ret ?_
    | refine wpc_ret ?_
    | refine wpc_reg ?_
    | refine wpc_regD ?_
    | refine wpc_skip ?_
    | refine fin_t rfl ?_
    | refine seq_exit ?_
    | refine wpc_exit ?_
    | refine ⟨⟨by omega, by omega⟩, ?_⟩
    | refine cmp_lss (fun _ => ?_) (fun _ => ?_)
    | refine cmp_leq (fun _ => ?_) (fun _ => ?_)
    | refine cmp_gtr (fun _ => ?_) (fun _ => ?_)
    | refine cmp_geq (fun _ => ?_) (fun _ => ?_)
    | refine cmp_eql (fun _ => ?_) (fun _ => ?_)
    | refine cmp_neq (fun _ => ?_) (fun _ => ?_)
    | (refine op_callB (by simp only [go_sem, out_n, out_r, out_e, thenX_n, thenX_r, thenX_e, g30, g31, Nat.add_zero]; exact g0 _ _ _ hlab.1.1 hlab.1.2) (fun _ => ?_) (fun _ => ?_))
    | (refine op_callQ (by simp only [go_sem, out_n, out_r, out_e, thenX_n, thenX_r, thenX_e, g30, g31, Nat.add_zero]; exact g2 _ _ _ _ (hw.mono (vw_app 0 H _)) htr hh.1 hh.2) ?_)
    | (refine op_callB (by simp only [go_sem, out_n, out_r, out_e, thenX_n, thenX_r, thenX_e, g30, g31, Nat.add_zero]; exact g1 _ _ _ hlab.2.1 hlab.2.2 by_bd.1 by_bd.2) (fun _ => ?_) (fun _ => ?_))
    | simp only [go_sem, out_n, out_r, out_e, thenX_n, thenX_r, thenX_e, g30, g31, Nat.add_zero]
    )
  all_goals (refine ⟨congrArg _ ?_, rfl⟩)
  all_goals simp [*]
theorem iPlanHome_ok {F : Nat → Option IFn} {f : Nat} (hf : F f = some c_iPlanHome) (g0 : ProgOk F 38) (g1 : TrOk F 39) (g2 : ∀ (H : Heap) (n : Nat) (v : Value) (p : TProg n) (a : Int) (_ : Rd (Co.prog n) true (vw 0 H) v p), QC F 40 [v, .int .i64 a] H (.bool (varB p.1.length a))) (g3 : ∀ (H : Heap) (a : Int), QC F 41 [.int .i64 a] H (.bool (inB a 0 2)))
    (g4 : ∀ (H : Heap) (n : Nat) (u w : Value) (p : TProg n) (ts : List Int) (v h : Int), Rd (Co.prog n) true (vw 0 H) u p → SlR Co.int (vw 0 H) w ts → p.1.all labB = true → varB p.1.length v = true → trP ts → inB h 0 2 = true →
      QC F 42 [u, w, .int .i64 v, .int .i64 h] H (.bool (hasB (p.1.getD v.toNat (0, 0)).1 h && witB (p.1.getD v.toNat (0, 0)).2 (byS ts h 3)))) : HomeOk F f := by
  rintro H m u w ⟨p0, p1⟩ ts v h hp0 hsm hw
  obtain ⟨pc, hpc, _, _, rfl, ⟨v0, rfl, r0⟩, ⟨v1, rfl, r1⟩⟩ := hp0
  have hp : ∀ L, Rd (Co.prog m) true (vw 0 (H ++ L)) (.agg #[v0, v1]) (p0, p1) := fun L => ⟨_, rfl, _, _, rfl, ⟨_, rfl, r0.mono (vw_app 0 H L)⟩, ⟨_, rfl, r1.mono (vw_app 0 H L)⟩⟩
  simp only [go_sem, binC, Option.some.injEq] at hpc
  subst hpc
  have r0c := r0
  have r1c := r1
  obtain ⟨_, x0⟩ := r0.shape
  subst x0
  obtain ⟨_, x1⟩ := r1.shape
  subst x1
  have hall : progB m (p0, p1) = true → p0.all labB = true := fun h => by
    simp only [progB, Bool.and_eq_true] at h; exact h.1.1.2
  obtain ⟨_, xw⟩ := hw.shape
  subst xw
  refine QC.mk hf rfl ?_
  repeat' (first
    | refine seq_assoc ?_
    | refine seq_reg ?_
    | refine seq_skip ?_
    | refine seq_regD ?_
    | refine seq_cond (t := true) rfl ?_
    | refine seq_cond (t := false) rfl ?_
    | refine wpc_cond (t := true) rfl ?_
    | refine wpc_cond (t := false) rfl ?_
    | refine seq_block ?_
    | refine wpc_block ?_
    | refine seq_ret ?_
    | refine wpc_ret ?_
    | refine wpc_reg ?_
    | refine wpc_regD ?_
    | refine wpc_skip ?_
    | refine fin_t rfl ?_
    | refine seq_exit ?_
    | refine wpc_exit ?_
    | refine cmp_lss (fun _ => ?_) (fun _ => ?_)
    | refine cmp_leq (fun _ => ?_) (fun _ => ?_)
    | refine cmp_gtr (fun _ => ?_) (fun _ => ?_)
    | refine cmp_geq (fun _ => ?_) (fun _ => ?_)
    | refine cmp_eql (fun _ => ?_) (fun _ => ?_)
    | refine cmp_neq (fun _ => ?_) (fun _ => ?_)
    | (refine op_callB (by simp only [go_sem, out_n, out_r, out_e, thenX_n, thenX_r, thenX_e]; exact g0 _ m _ (p0, p1) (hp _) hsm) (fun _ => ?_) (fun _ => ?_))
    | (refine op_callB (by simp only [go_sem, out_n, out_r, out_e, thenX_n, thenX_r, thenX_e]; exact g1.dec _ _ _ (hw.mono (vw_app 0 H _))) (fun _ => ?_) (fun _ => ?_))
    | (refine op_callB (by simp only [go_sem, out_n, out_r, out_e, thenX_n, thenX_r, thenX_e]; exact g2 _ m _ (p0, p1) _ (hp _)) (fun _ => ?_) (fun _ => ?_))
    | (refine op_callB (by simp only [go_sem, out_n, out_r, out_e, thenX_n, thenX_r, thenX_e]; exact g3 _ _) (fun _ => ?_) (fun _ => ?_))
    | (refine op_callB (by simp only [go_sem, out_n, out_r, out_e, thenX_n, thenX_r, thenX_e]; exact g4 _ m _ _ (p0, p1) ts _ _ (hp _) (hw.mono (vw_app 0 H _)) (hall (by assumption)) (by assumption) (trB_iff.1 (by assumption)) (by assumption)) (fun _ => ?_) (fun _ => ?_))
    | simp only [go_sem, out_n, out_r, out_e, thenX_n, thenX_r, thenX_e]
    )
  all_goals (refine ⟨congrArg _ ?_, rfl⟩)
  all_goals (simp only [homeB, *]; rfl)
end Go.Proofs.YtfngbmibeplgiaaI
end
section
/- Where a variable may be: the reference. -/
set_option linter.unusedVariables false
set_option linter.unusedSimpArgs false
namespace Go.Proofs.YtfngbmibeplgiaaI
open Go Go.RowKit
attribute [local irreducible] optP wpo wpp wpc binI Kc Kp wpOp thenX
theorem sHome_ok {F : Nat → Option IFn} {f : Nat} (hf : F f = some c_sHome) (g0 : ProgOk F 43) (g1 : TrOk F 44) (g2 : ∀ (H : Heap) (n : Nat) (v : Value) (p : TProg n) (a : Int) (_ : Rd (Co.prog n) true (vw 0 H) v p), QC F 45 [v, .int .i64 a] H (.bool (varB p.1.length a))) (g3 : ∀ (H : Heap) (a b c : Int), QC F 46 [.int .i64 a, .int .i64 b, .int .i64 c] H (.bool (inB a b c)))
    (g4 : HasOk F 47) (g5 : WitOk F 48) (g6 : ByOk F 49) : HomeOk F f := by
  rintro H m u w ⟨p0, p1⟩ ts v h hp0 hsm hw
  obtain ⟨pc, hpc, _, _, rfl, ⟨v0, rfl, r0⟩, ⟨v1, rfl, r1⟩⟩ := hp0
  have hp : ∀ L, Rd (Co.prog m) true (vw 0 (H ++ L)) (.agg #[v0, v1]) (p0, p1) := fun L => ⟨_, rfl, _, _, rfl, ⟨_, rfl, r0.mono (vw_app 0 H L)⟩, ⟨_, rfl, r1.mono (vw_app 0 H L)⟩⟩
  simp only [go_sem, binC, Option.some.injEq] at hpc
  subst hpc
  obtain ⟨_, xw⟩ := hw.shape
  subst xw
  obtain ⟨_, x1⟩ := r1.shape
  subst x1
  by_cases hyes : progB m (p0, p1) = true ∧ varB p0.length v = true
  · obtain ⟨hP, hvar⟩ := hyes
    have hall : p0.all labB = true := by
      simp only [progB, Bool.and_eq_true] at hP; exact hP.1.1.2
    have hv : 0 ≤ v ∧ v ≤ (p0.length : Int) - 1 := inB_iff.1 hvar
    have hil : v.toNat < p0.length := by omega
    have r0d := r0
    obtain ⟨h0, a, rfl, h2⟩ := r0
    rcases h2 with h2 | ⟨b, o, hab, h2⟩
    · have h2q : p0 = [] := h2
      rw [h2q] at hil; simp at hil
    subst hab
    obtain ⟨cs, h3, h4⟩ := h2 v.toNat hil
    have hgd : p0.getD v.toNat (0, 0) = p0[v.toNat] := by simp [List.getD, hil]
    have hlab := List.all_eq_true.1 hall _ (List.getElem_mem hil)
    simp only at h3 h4 hlab hgd
    generalize p0[v.toNat] = y at h4 hlab hgd
    obtain ⟨y0, y1⟩ := y
    obtain ⟨_, _, rfl, ⟨rfl, b0⟩, ⟨rfl, b1⟩⟩ := h4
    simp only [labB, Bool.and_eq_true, inB_iff] at hlab
    have gr3 := fun L => rng_gc (rng_sub (vw_app 0 H L) h3)
    rw [show Co.p2.w = 2 from rfl] at gr3
    have g30 := fun L => gc_part (off := 0) (k := 1) (gr3 L) (by omega)
    have g31 := fun L => gc_part (off := 1) (k := 1) (gr3 L) (by omega)
    simp only [go_sem, binC] at g30 g31
    refine QC.mk hf rfl ?_
    repeat' (first
      | refine seq_assoc ?_
      | refine seq_reg ?_
      | refine seq_skip ?_
      | refine seq_regD ?_
      | refine seq_cond (t := true) rfl ?_
      | refine seq_cond (t := false) rfl ?_
      | refine wpc_cond (t := true) rfl ?_
      | refine wpc_cond (t := false) rfl ?_
      | refine seq_block ?_
      | refine wpc_block ?_
      | refine seq_ret ?_
      | refine wpc_ret ?_
      | refine wpc_reg ?_
      | refine wpc_regD ?_
      | refine wpc_skip ?_
      | refine fin_t rfl ?_
      | refine seq_exit ?_
      | refine wpc_exit ?_
      | refine ⟨⟨by omega, by omega⟩, ?_⟩
      | refine cmp_lss (fun _ => ?_) (fun _ => ?_)
      | refine cmp_leq (fun _ => ?_) (fun _ => ?_)
      | refine cmp_gtr (fun _ => ?_) (fun _ => ?_)
      | refine cmp_geq (fun _ => ?_) (fun _ => ?_)
      | refine cmp_eql (fun _ => ?_) (fun _ => ?_)
      | refine cmp_neq (fun _ => ?_) (fun _ => ?_)
      | (refine op_callB (by simp only [go_sem, out_n, out_r, out_e, thenX_n, thenX_r, thenX_e, g30, g31, Nat.add_zero]; exact g0 _ m _ (p0, p1) (hp _) hsm) (fun _ => ?_) (fun _ => ?_))
      | (refine op_callB (by simp only [go_sem, out_n, out_r, out_e, thenX_n, thenX_r, thenX_e, g30, g31, Nat.add_zero]; exact g1.dec _ _ _ (hw.mono (vw_app 0 H _))) (fun _ => ?_) (fun _ => ?_))
      | (refine op_callB (by simp only [go_sem, out_n, out_r, out_e, thenX_n, thenX_r, thenX_e, g30, g31, Nat.add_zero]; exact g2 _ m _ (p0, p1) _ (hp _)) (fun _ => ?_) (fun _ => ?_))
      | (refine op_callB (by simp only [go_sem, out_n, out_r, out_e, thenX_n, thenX_r, thenX_e, g30, g31, Nat.add_zero]; exact g3 _ _ _ _) (fun _ => ?_) (fun _ => ?_))
      | (refine op_callB (by simp only [go_sem, out_n, out_r, out_e, thenX_n, thenX_r, thenX_e, g30, g31, Nat.add_zero]; exact g4 _ _ _ hlab.1.1 hlab.1.2) (fun _ => ?_) (fun _ => ?_))
      | (refine op_callQ (by simp only [go_sem, out_n, out_r, out_e, thenX_n, thenX_r, thenX_e, g30, g31, Nat.add_zero]; exact g6 _ _ _ _ (hw.mono (vw_app 0 H _)) (trB_iff.1 (by assumption)) (inB_iff.1 ‹inB h 0 2 = true›).1 (inB_iff.1 ‹inB h 0 2 = true›).2) ?_)
      | (refine op_callB (by simp only [go_sem, out_n, out_r, out_e, thenX_n, thenX_r, thenX_e, g30, g31, Nat.add_zero]; exact g5 _ _ _ hlab.2.1 hlab.2.2 by_bd.1 by_bd.2) (fun _ => ?_) (fun _ => ?_))
      | simp only [go_sem, out_n, out_r, out_e, thenX_n, thenX_r, thenX_e, g30, g31, Nat.add_zero]
      )
    all_goals first | (refine ⟨congrArg _ ?_, rfl⟩; simp only [homeB, hgd, *]; done) | (refine ⟨congrArg _ ?_, rfl⟩; simp only [homeB, hgd, *]; rfl) | (refine ⟨congrArg _ ?_, rfl⟩; exfalso; simp_all)
  · obtain ⟨_, x0⟩ := r0.shape
    subst x0
    refine QC.mk hf rfl ?_
    repeat' (first
      | refine seq_assoc ?_
      | refine seq_reg ?_
      | refine seq_skip ?_
      | refine seq_regD ?_
      | refine seq_cond (t := true) rfl ?_
      | refine seq_cond (t := false) rfl ?_
      | refine wpc_cond (t := true) rfl ?_
      | refine wpc_cond (t := false) rfl ?_
      | refine seq_block ?_
      | refine wpc_block ?_
      | refine seq_ret ?_
      | refine wpc_ret ?_
      | refine wpc_reg ?_
      | refine wpc_regD ?_
      | refine wpc_skip ?_
      | refine fin_t rfl ?_
      | refine seq_exit ?_
      | refine wpc_exit ?_
      | refine cmp_lss (fun _ => ?_) (fun _ => ?_)
      | refine cmp_leq (fun _ => ?_) (fun _ => ?_)
      | refine cmp_gtr (fun _ => ?_) (fun _ => ?_)
      | refine cmp_geq (fun _ => ?_) (fun _ => ?_)
      | refine cmp_eql (fun _ => ?_) (fun _ => ?_)
      | refine cmp_neq (fun _ => ?_) (fun _ => ?_)
      | (refine op_callB (by simp only [go_sem, out_n, out_r, out_e, thenX_n, thenX_r, thenX_e]; exact g0 _ m _ (p0, p1) (hp _) hsm) (fun _ => ?_) (fun _ => ?_))
      | (refine op_callB (by simp only [go_sem, out_n, out_r, out_e, thenX_n, thenX_r, thenX_e]; exact g1.dec _ _ _ (hw.mono (vw_app 0 H _))) (fun _ => ?_) (fun _ => ?_))
      | (refine op_callB (by simp only [go_sem, out_n, out_r, out_e, thenX_n, thenX_r, thenX_e]; exact g2 _ m _ (p0, p1) _ (hp _)) (fun _ => ?_) (fun _ => ?_))
      | (refine op_callB (by simp only [go_sem, out_n, out_r, out_e, thenX_n, thenX_r, thenX_e]; exact g3 _ _ _ _) (fun _ => ?_) (fun _ => ?_))
      | simp only [go_sem, out_n, out_r, out_e, thenX_n, thenX_r, thenX_e]
      )
    all_goals first | (exact absurd ⟨by assumption, by assumption⟩ hyes) | (refine ⟨congrArg _ ?_, rfl⟩; simp only [homeB, *]; done) | (refine ⟨congrArg _ ?_, rfl⟩; simp only [homeB, *]; rfl)
end Go.Proofs.YtfngbmibeplgiaaI
end
section
/- A program, whom each trusts, a variable and a host, drawn. -/
set_option linter.unusedVariables false
set_option linter.unusedSimpArgs false
namespace Go.Proofs.YtfngbmibeplgiaaI
open Go Go.RowKit
def c_l6Open : IFn := ⟨1, 11, [.t 2],
 .seq (.reg none [
    ⟨(some 2), none, .mov (.c (.pointer none))⟩])
 (.seq (.seq (.reg none [
     ⟨(some 3), none, .mov (.t 0)⟩,
     ⟨(some 4), none, .len (.t 3)⟩,
     ⟨(some 5), none, .bin .gtr (.t 4) (.c (.int .i64 2000))⟩])
  (.cond (.t 5) (.reg none [
     ⟨(some 6), none, .mov (.t 0)⟩,
     ⟨(some 7), none, .sub 1 (.t 6) none (some (.c (.int .i64 2000)))⟩,
     ⟨(some 0), none, .mov (.t 7)⟩]) (.skip)))
 (.seq (.reg none [
    ⟨(some 8), none, .mov (.t 0)⟩,
    ⟨(some 9), none, .build [(.slice none 0 0), (.int .i64 0)] [(0, 1, (.t 8))]⟩,
    ⟨(some 10), none, .box (.t 9)⟩,
    ⟨(some 2), none, .mov (.t 10)⟩])
 (.ret)))⟩
def c_drHome : IFn := ⟨1, 68, [.cell true 2 2, .t 3, .t 4, .t 5],
 .seq (.reg none [
    ⟨(some 2), none, .new [(.slice none 0 0), (.slice none 0 0)]⟩,
    ⟨(some 3), none, .mov (.c (.slice none 0 0))⟩,
    ⟨(some 4), none, .mov (.c (.int .i64 0))⟩,
    ⟨(some 5), none, .mov (.c (.int .i64 0))⟩])
 (.seq (.reg none [
    ⟨(some 12), none, .mov (.t 0)⟩,
    ⟨(some 13), none, .call .n (.f 34) [(.t 12)]⟩,
    ⟨(some 6), none, .mov (.t 13)⟩])
 (.seq (.reg none [
    ⟨(some 14), none, .mov (.t 6)⟩,
    ⟨(some 15), none, .call .n (.f 35) [(.t 14)]⟩,
    ⟨(some 7), none, .new [(.slice none 0 0), (.slice none 0 0)]⟩,
    ⟨none, none, .store 2 (.t 7) (.t 15)⟩])
 (.seq (.reg none [
    ⟨(some 16), none, .mov (.t 6)⟩,
    ⟨(some 17), none, .call .n (.f 36) [(.t 16)]⟩,
    ⟨(some 8), none, .mov (.t 17)⟩])
 (.seq (.reg none [
    ⟨(some 18), none, .mov (.t 6)⟩,
    ⟨(some 19), none, .fad 0 (.t 7)⟩,
    ⟨(some 20), none, .load false 1 (.t 19)⟩,
    ⟨(some 21), none, .len (.t 20)⟩,
    ⟨(some 22), none, .bin .add (.t 21) (.c (.int .i64 1))⟩,
    ⟨(some 23), none, .call .n (.f 37) [(.t 18), (.t 22)]⟩,
    ⟨(some 24), none, .mov (.t 6)⟩,
    ⟨(some 25), none, .call .n (.f 37) [(.t 24), (.c (.int .i64 8))]⟩,
    ⟨(some 26), none, .bin .quo (.t 25) (.c (.int .i64 7))⟩,
    ⟨(some 27), none, .bin .sub (.t 23) (.t 26)⟩,
    ⟨(some 9), none, .mov (.t 27)⟩])
 (.seq (.reg none [
    ⟨(some 28), none, .mov (.t 6)⟩,
    ⟨(some 29), none, .call .n (.f 37) [(.t 28), (.c (.int .i64 4))]⟩,
    ⟨(some 30), none, .mov (.t 6)⟩,
    ⟨(some 31), none, .call .n (.f 37) [(.t 30), (.c (.int .i64 8))]⟩,
    ⟨(some 32), none, .bin .quo (.t 31) (.c (.int .i64 7))⟩,
    ⟨(some 33), none, .bin .sub (.t 29) (.t 32)⟩,
    ⟨(some 10), none, .mov (.t 33)⟩])
 (.seq (.seq (.reg none [
     ⟨(some 11), none, .mov (.c (.int .i64 0))⟩])
  (.block 0 (.loop (.seq (.seq (.reg none [
        ⟨(some 34), none, .mov (.t 11)⟩,
        ⟨(some 35), none, .bin .lss (.t 34) (.c (.int .i64 12))⟩,
        ⟨(some 36), none, .mov (.t 35)⟩,
        ⟨(some 37), (some (36, true)), .mov (.t 6)⟩,
        ⟨(some 38), (some (36, true)), .call .n (.f 37) [(.t 37), (.c (.int .i64 12))]⟩,
        ⟨(some 39), (some (36, true)), .bin .gtr (.t 38) (.c (.int .i64 0))⟩,
        ⟨(some 40), none, .pick (.t 36) (.t 39) (.c (.bool false))⟩,
        ⟨(some 41), none, .mov (.t 40)⟩,
        ⟨(some 42), (some (41, true)), .fad 0 (.t 7)⟩,
        ⟨(some 43), (some (41, true)), .load false 1 (.t 42)⟩,
        ⟨(some 44), (some (41, true)), .len (.t 43)⟩,
        ⟨(some 45), (some (41, true)), .bin .gtr (.t 44) (.c (.int .i64 0))⟩,
        ⟨(some 46), none, .pick (.t 41) (.t 45) (.c (.bool false))⟩,
        ⟨(some 47), none, .mov (.t 46)⟩,
        ⟨(some 48), (some (47, true)), .load true 2 (.t 7)⟩,
        ⟨(some 49), (some (47, true)), .mov (.t 8)⟩,
        ⟨(some 50), (some (47, true)), .mov (.t 9)⟩,
        ⟨(some 51), (some (47, true)), .mov (.t 10)⟩,
        ⟨(some 52), (some (47, true)), .call .q (.f 14) [(.t 48), (.t 49), (.t 50), (.t 51)]⟩,
        ⟨(some 53), (some (47, true)), .un .not (.t 52)⟩,
        ⟨(some 54), none, .pick (.t 47) (.t 53) (.c (.bool false))⟩])
     (.cond (.t 54) (.skip) (.exit 0)))
    (.seq (.block 1 (.seq (.reg none [
         ⟨(some 57), none, .mov (.t 6)⟩,
         ⟨(some 58), none, .fad 0 (.t 7)⟩,
         ⟨(some 59), none, .load false 1 (.t 58)⟩,
         ⟨(some 60), none, .len (.t 59)⟩,
         ⟨(some 61), none, .call .n (.f 37) [(.t 57), (.t 60)]⟩,
         ⟨(some 9), none, .mov (.t 61)⟩])
      (.reg none [
        ⟨(some 62), none, .mov (.t 6)⟩,
        ⟨(some 63), none, .call .n (.f 37) [(.t 62), (.c (.int .i64 3))]⟩,
        ⟨(some 10), none, .mov (.t 63)⟩])))
    (.reg none [
      ⟨(some 55), none, .mov (.t 11)⟩,
      ⟨(some 56), none, .bin .add (.t 55) (.c (.int .i64 1))⟩,
      ⟨(some 11), none, .mov (.t 56)⟩]))))))
 (.seq (.reg none [
    ⟨(some 64), none, .load true 2 (.t 7)⟩,
    ⟨(some 65), none, .mov (.t 8)⟩,
    ⟨(some 66), none, .mov (.t 9)⟩,
    ⟨(some 67), none, .mov (.t 10)⟩,
    ⟨none, none, .store 2 (.t 2) (.t 64)⟩,
    ⟨(some 3), none, .mov (.t 65)⟩,
    ⟨(some 4), none, .mov (.t 66)⟩,
    ⟨(some 5), none, .mov (.t 67)⟩])
 (.ret))))))))⟩
/-- A code opened: a reader in a new block. -/
theorem l6Open_ok {F : Nat → Option IFn} {f : Nat} (hf : F f = some c_l6Open) {H : Heap} {v : Value} {code : List Int} (hv : SlR Co.byte (vw 0 H) v code) (lo : Nat) (hlo : lo ≤ H.length) : ∃ bv code', NC F lo f [v] H (ptr H.length 0) (H ++ [rBlk bv 0]) ∧ RdC H H.length bv code' ∧ St H H.length bv 0 (H ++ [rBlk bv 0]) := by
  have hv0 := hv
  obtain ⟨h0, a, rfl, h1⟩ := hv
  have hst : ∀ bv, St H H.length bv 0 (H ++ [rBlk bv 0]) := fun bv => ⟨fun b _ hb => List.getElem?_append_left hb, get_new0 _ _⟩
  by_cases hl : 2000 < (code.length : Int)
  · obtain ⟨b, o, rfl, h2⟩ := h1.resolve_left (fun h => by rw [h] at hl; simp at hl)
    refine ⟨sli b o 2000, code.take 2000, ?_, ⟨Nat.le_refl _, ⟨by rw [List.length_take]; omega, some ⟨b, o, none⟩, by rw [List.length_take, Nat.min_eq_left (by omega)]; rfl, .inr ⟨b, o, rfl, fun i hi => ?_⟩⟩, by rw [List.length_take]; omega⟩, hst _⟩
    · refine NC.mkE hf rfl ?_
      refine seq_reg ?_
      simp only [go_sem, binC]
      refine seq_assoc (seq_reg ?_)
      simp only [go_sem, binC]
      refine seq_cond (t := true) (by simp only [go_sem, binC]; rw [decide_eq_true hl]) ?_
      simp only [go_sem, binC]
      refine seq_reg ?_
      have hsub : ∀ e' : Env, subV 1 (.slice (some ⟨b, o, none⟩) code.length code.length) e' none (some (.c (.int .i64 2000))) = some (sli b o 2000) := fun e' => by
        have h3 : (2000 : Int) ≤ code.length := by omega
        simp [subV, sli, subB, Opd.ev, h3]
      simp only [go_sem, binC, hsub]
      refine seq_reg ?_
      simp only [go_sem, binC]
      exact wpc_ret ⟨Or.inr rfl, _, (by (simp only [go_sem, binC]) <;> rfl), rfl, rfl⟩
    · rw [List.length_take] at hi
      obtain ⟨cs, h3, h4⟩ := h2 i (by omega)
      refine ⟨cs, h3, ?_⟩
      rw [List.getElem_take]
      exact h4
  · refine ⟨.slice a code.length code.length, code, ?_, ⟨Nat.le_refl _, hv0, by omega⟩, hst _⟩
    refine NC.mkE hf rfl ?_
    refine seq_reg ?_
    simp only [go_sem, binC]
    refine seq_assoc (seq_reg ?_)
    simp only [go_sem, binC]
    refine seq_cond (t := false) (by simp only [go_sem, binC]; rw [decide_eq_false hl]) ?_
    simp only [go_sem, binC]
    refine seq_skip (seq_reg ?_)
    simp only [go_sem, binC]
    exact wpc_ret ⟨Or.inr rfl, _, (by (simp only [go_sem, binC]) <;> rfl), rfl, rfl⟩
def dhEnd : ICode := (.seq (.reg none [
    ⟨(some 64), none, .load true 2 (.t 7)⟩,
    ⟨(some 65), none, .mov (.t 8)⟩,
    ⟨(some 66), none, .mov (.t 9)⟩,
    ⟨(some 67), none, .mov (.t 10)⟩,
    ⟨none, none, .store 2 (.t 2) (.t 64)⟩,
    ⟨(some 3), none, .mov (.t 65)⟩,
    ⟨(some 4), none, .mov (.t 66)⟩,
    ⟨(some 5), none, .mov (.t 67)⟩])
 (.ret))
def DrawHomeOk (F : Nat → Option IFn) (f : Nat) : Prop := ∀ (H : Heap) (v : Value) (code : List Int), SlR Co.byte (vw 0 H) v code → ∃ (d : Nat) (lv sv tv : Value) (x y : Int) (ls : List (Int × Int)) (l : List (TStep d)) (ts : List Int) (H' : Heap), KC F f [v] H (.tuple #[.agg #[lv, sv], tv, .int .i64 x, .int .i64 y]) H' ∧
  (AgX [] H H' ∧ SlR Co.p2 (vw 0 H') lv ls ∧ SlR (Co.step d) (vw 0 H') sv l ∧ (Co.prog d).sm (ls, l) ∧ SlR Co.int (vw 0 H') tv ts ∧ RgI x ∧ RgI y)
set_option maxRecDepth 20000 in
theorem drHome_ok {F : Nat → Option IFn} {f : Nat} (hf : F f = some c_drHome) (hop : F 34 = some c_l6Open) (hpk : F 37 = some c_pick) (gan : ∀ {H0 : Heap} {rb : Nat} {bv : Value} {code : List Int}, RdC H0 rb bv code → DrawS F H0 rb bv 35 [] 90000 ProgR) (gtr : ∀ {H0 : Heap} {rb : Nat} {bv : Value} {code : List Int}, RdC H0 rb bv code → DrawS F H0 rb bv 36 [] 10 TrQ) (gho : HomeOk F 14) : DrawHomeOk F f := by
  intro H v code hv
  suffices h : ∃ w H', KC F f [v] H w H' ∧ (∃ (d : Nat) (lv sv tv : Value) (x y : Int) (ls : List (Int × Int)) (l : List (TStep d)) (ts : List Int), w = .tuple #[.agg #[lv, sv], tv, .int .i64 x, .int .i64 y] ∧ (AgX [] H H' ∧ SlR Co.p2 (vw 0 H') lv ls ∧ SlR (Co.step d) (vw 0 H') sv l ∧ (Co.prog d).sm (ls, l) ∧ SlR Co.int (vw 0 H') tv ts ∧ RgI x ∧ RgI y)) by
    obtain ⟨w, H', h1, d, lv, sv, tv, x, y, ls, l, ts, rfl, h2⟩ := h
    exact ⟨d, lv, sv, tv, x, y, ls, l, ts, H', h1, h2⟩
  refine KC.mk hf rfl ?_
  refine seq_reg ?_
  simp only [go_sem, binC]
  refine wpc_gen fun H1 hH1 => ?_
  have ht1 : AgX [] H H1 := hH1 ▸ AgX.app [] _ _
  have hb1 : H1[H.length]? = some ⟨[nilS, nilS], 0, 0, false, true⟩ := hH1 ▸ get_new0 _ _
  have hn1 : H1.length = H.length + 1 := by rw [hH1, List.length_append]; rfl
  clear hH1
  refine seq_reg ?_
  simp only [go_sem, binC]
  obtain ⟨bv, code', k2, hc, hs2⟩ := l6Open_ok hop (hv.mono (agx_sub ht1)) H.length ht1.1
  refine op_callN (by simp only [go_sem, binC]; exact k2) ?_
  simp only [go_sem, binC]
  refine wpc_gen fun H2 hH2 => ?_
  rw [← hH2] at hs2
  have ht2 : AgX [] H H2 := hH2 ▸ ht1.appN _
  have hb2 : H2[H.length]? = some ⟨[nilS, nilS], 0, 0, false, true⟩ := by rw [hH2, List.getElem?_append_left (List.getElem?_eq_some_iff.1 hb1).1]; exact hb1
  have hn2 : H2.length = H1.length + 1 := by rw [hH2, List.length_append]; rfl
  clear hH2
  refine seq_reg ?_
  simp only [go_sem, binC]
  obtain ⟨v3, H3, p3, k3, x3, s3, c3, d, lv, sv, ls, l, rfl, r1, r2, r3, r4, r5⟩ := gan hc H2 0 H.length hs2 (by omega) (by omega) (by omega)
  refine op_callN (by simp only [go_sem, binC]; exact k3) ?_
  have olv : one lv = true := by obtain ⟨_, a, rfl, _⟩ := r1; rfl
  have osv : one sv = true := by obtain ⟨_, a, rfl, _⟩ := r2; rfl
  have hl3 := x3.1
  simp only [go_sem, binC, olv, osv]
  refine ⟨by omega, ?_⟩
  refine wpc_gen fun H4 hH4 => ?_
  have hs4 : St H1 H1.length bv p3 H4 := hH4 ▸ s3.appN hc _
  have ht4 : AgX [H1.length] H2 H4 := hH4 ▸ x3.appN _
  have hb4 : H4[H.length]? = some ⟨[nilS, nilS], 0, 0, false, true⟩ := ht4.get hb2 (by simp; omega)
  have hbx4 : H4[H3.length]? = some ⟨[lv, sv], 0, 0, false, true⟩ := hH4 ▸ get_new0 _ _
  have hn4 : H4.length = H3.length + 1 := by rw [hH4, List.length_append]; rfl
  have hvw4 : Sub (vwl H2.length [] H3) (vwl H2.length [H3.length] H4) := by subst hH4; exact vwl_sub (AgX.app [] _ _) (Nat.le_refl _) fun b' h1 h2 _ => ⟨by simp, by simp; omega⟩
  clear hH4
  refine seq_reg ?_
  simp only [go_sem, binC]
  obtain ⟨v5, H5, p5, k5, x5, s5, c5, ts, hts, htl⟩ := gtr hc H4 p3 H.length hs4 (by omega) (by omega) (by omega)
  refine op_callN (by simp only [go_sem, binC]; exact k5) ?_
  simp only [go_sem, binC]
  have hb5 := x5.get hb4 (by simp; omega)
  have hbx5 := x5.get hbx4 (by simp; omega)
  have hn5 := x5.1
  have hvw5 : Sub (vwl H2.length [] H3) (vwl H2.length [] H5) := hvw4.trans (vwl_sub x5 (Nat.le_refl _) fun b' h1 h2 _ => ⟨by simp; omega, by simp⟩)
  have ht5 : AgX [H1.length] H2 H5 := ht4.tr x5
  have q1 := r1.mono hvw5
  have q2 := r2.mono hvw5
  have q3 : SlR Co.int (vwl H2.length [] H5) v5 ts := hts.mono (vwl_sub (AgX.refl [] _) (by omega) fun b' _ _ h => ⟨by simp, h⟩)
  obtain ⟨hl0, la, rfl, _⟩ := r1
  -- the variable
  have hlen : (0 : Int) ≤ ls.length ∧ (ls.length : Int) ≤ 1000 := ⟨by omega, by omega⟩
  refine seq_reg ?_
  simp only [go_sem, binC, gc_of hbx5, inBlk_some]
  rw [wrap_id (x := (ls.length : Int) + 1) (by omega) (by omega)]
  refine op_draw (n := (ls.length : Int) + 1) hpk hc s5 (by omega) (by omega) (by omega) (by simp only [go_sem, binC]) (by simp only [go_sem, binC]) fun H6 hl6 hx6 hs6 => ?_
  simp only [go_sem, binC]
  refine op_draw (n := 8) hpk hc hs6 (by omega) (by omega) (by omega) (by simp only [go_sem, binC]) (by simp only [go_sem, binC]) fun H7 hl7 hx7 hs7 => ?_
  have d1 := pickV_bd code' p5 (n := (ls.length : Int) + 1) (by omega)
  have d2 := pickV_bd code' (p5 + 1) (n := 8) (by omega)
  have eq7 : ∀ x : Int, 0 ≤ x → x ≤ 100 → binI .quo .i64 x 7 = some (.int .i64 (x / 7)) := fun x h1 h2 => by rw [quo_eq (by omega), Int.tdiv_eq_ediv_of_nonneg h1, wrap_id (by omega) (by omega)]
  simp only [go_sem, binC, eq7 (pickV code' (p5 + 1) 8) (by omega) (by omega)]
  rw [wrap_id (x := pickV code' p5 ((ls.length : Int) + 1) - pickV code' (p5 + 1) 8 / 7) (by omega) (by omega)]
  generalize hv0 : pickV code' p5 ((ls.length : Int) + 1) - pickV code' (p5 + 1) 8 / 7 = v0
  have hr0 : RgI v0 := by unfold RgI; omega
  refine seq_reg ?_
  simp only [go_sem, binC]
  refine op_draw (n := 4) hpk hc hs7 (by omega) (by omega) (by omega) (by simp only [go_sem, binC]) (by simp only [go_sem, binC]) fun H8 hl8 hx8 hs8 => ?_
  simp only [go_sem, binC]
  refine op_draw (n := 8) hpk hc hs8 (by omega) (by omega) (by omega) (by simp only [go_sem, binC]) (by simp only [go_sem, binC]) fun H9 hl9 hx9 hs9 => ?_
  have d3 := pickV_bd code' (p5 + 1 + 1) (n := 4) (by omega)
  have d4 := pickV_bd code' (p5 + 1 + 1 + 1) (n := 8) (by omega)
  simp only [go_sem, binC, eq7 (pickV code' (p5 + 1 + 1 + 1) 8) (by omega) (by omega)]
  rw [wrap_id (x := pickV code' (p5 + 1 + 1) 4 - pickV code' (p5 + 1 + 1 + 1) 8 / 7) (by omega) (by omega)]
  generalize hg0 : pickV code' (p5 + 1 + 1) 4 - pickV code' (p5 + 1 + 1 + 1) 8 / 7 = g0
  have hr1 : RgI g0 := by unfold RgI; omega
  have hx59 : AgX [H1.length] H5 H9 := ((hx6.tr hx7).tr hx8).tr hx9
  refine seq_assoc (seq_reg ?_)
  simp only [go_sem, binC]
  refine seq_block (wpc_loop ?_)
  have hvwc : ∀ {Hc : Heap}, AgX [H1.length] H5 Hc → Sub (vwl H2.length [] H5) (vw 0 Hc) := fun hx => (vwl_sub hx (Nat.le_refl _) (xs' := []) fun b' h1 h2 _ => ⟨by simp; omega, by simp⟩).trans (vwl0 _ _ _)
  suffices h : ∀ (k i : Nat) (e : Env) (Hc : Heap) (q : Int) (x y : Int), i + k = 12 → AgX [H1.length] H5 Hc → St H1 H1.length bv q Hc → (0 ≤ q ∧ q + 3 * (k : Int) ≤ 900000) → RgI x → RgI y → e 2 = ptr H.length 0 → e 6 = ptr H1.length 0 → e 7 = ptr H3.length 0 → e 8 = v5 → e 9 = .int .i64 x → e 10 = .int .i64 y → e 11 = .int .i64 i → W F H.length _ e Hc _ from
    h 12 0 _ H9 (p5 + 1 + 1 + 1 + 1) v0 g0 rfl hx59 hs9 (by omega) hr0 hr1 (by simp only [go_sem, binC]) (by simp only [go_sem, binC]) (by simp only [go_sem, binC]) (by simp only [go_sem, binC]) (by simp only [go_sem, binC]) (by simp only [go_sem, binC]) (by (simp only [go_sem, binC]) <;> rfl)
  have hend : ∀ (e : Env) (Hc : Heap) (q : Int) (x y : Int), AgX [H1.length] H5 Hc → RgI x → RgI y → e 2 = ptr H.length 0 → e 7 = ptr H3.length 0 → e 8 = v5 → e 9 = .int .i64 x → e 10 = .int .i64 y → wpc F H.length dhEnd e Hc (fin [.cell true 2 2, .t 3, .t 4, .t 5] fun w H' => (∃ (d : Nat) (lv sv tv : Value) (x y : Int) (ls : List (Int × Int)) (l : List (TStep d)) (ts : List Int), w = .tuple #[.agg #[lv, sv], tv, .int .i64 x, .int .i64 y] ∧ (AgX [] H H' ∧ SlR Co.p2 (vw 0 H') lv ls ∧ SlR (Co.step d) (vw 0 H') sv l ∧ (Co.prog d).sm (ls, l) ∧ SlR Co.int (vw 0 H') tv ts ∧ RgI x ∧ RgI y))) := by
    intro e Hc q x y hx rx ry e2 e7 e8 e9 e10
    have hbc := hx.get hb5 (by simp; omega)
    have hbxc := hx.get hbx5 (by simp; omega)
    have hbl := (List.getElem?_eq_some_iff.1 hbc).1
    unfold dhEnd
    refine seq_reg ?_
    simp only [go_sem, binC, e2, e7, e8, e9, e10, gc_of hbxc, inBlk_some, hbc, osv]
    have hvf : Sub (vwl H2.length [] H5) (vw 0 (Hc.set H.length ⟨[.slice la ls.length ls.length, sv], 0, 0, false, true⟩)) := ((vwl_sub hx (Nat.le_refl _) (xs' := []) fun b' h1 h2 _ => ⟨by simp; omega, by simp⟩ : Sub (vwl H2.length [] H5) (vwl H2.length [] Hc)).trans (vwl_sub (AgX.set Hc H.length _) (Nat.le_refl _) (xs' := []) fun b' h1 h2 _ => ⟨by simp; omega, by simp⟩)).trans (vwl0 _ _ _)
    refine wpc_ret ⟨Or.inr rfl, .tuple #[.agg #[.slice la ls.length ls.length, sv], v5, .int .i64 x, .int .i64 y], ?_, ?_⟩
    · obtain ⟨_, a5, rfl, _⟩ := q3
      simp [resV, resL, res1, putE_get, notT, e2, ptr, gc_set hbl, inBlk_some, valOf]
    · refine ⟨d, _, sv, v5, x, y, ls, l, ts, rfl, ?_, q1.mono hvf, q2.mono hvf, r3, q3.mono hvf, rx, ry⟩
      exact (ht2.trans (ht5.tr hx) (fun _ h _ => h) (fun b h1 h2 => by simp at h1; omega)).setN (Nat.le_refl _) _
  intro k
  induction k with
  | zero =>
    intro i e Hc q x y hik hx hs hq rx ry e2 e6 e7 e8 e9 e10 e11
    refine lp_step ?_
    refine seq_assoc (seq_reg ?_)
    simp only [go_sem, binC, e11]
    have hlt : decide ((i : Int) < 12) = false := decide_eq_false (by omega)
    simp only [go_sem, binC, hlt]
    refine seq_cond (t := false) rfl ?_
    simp only [go_sem, binC]
    refine seq_exit ?_
    simp only [go_sem, binC, thenX_e, out_e, thenX_n]
    exact hend _ Hc q x y hx rx ry (by simp only [go_sem, binC, e2]) (by simp only [go_sem, binC, e7]) (by simp only [go_sem, binC, e8]) (by simp only [go_sem, binC, e9]) (by simp only [go_sem, binC, e10])
  | succ k ih =>
    intro i e Hc q x y hik hx hs hq rx ry e2 e6 e7 e8 e9 e10 e11
    have hbxc := hx.get hbx5 (by simp; omega)
    have hlt : decide ((i : Int) < 12) = true := decide_eq_true (by omega)
    have hw1 : IntKind.i64.wrap ((i : Int) + 1) = ((i + 1 : Nat) : Int) := by rw [wrap_id (by omega) (by omega)]; omega
    refine lp_step ?_
    refine seq_assoc (seq_reg ?_)
    simp only [go_sem, binC, e11]
    simp only [go_sem, binC, hlt]
    refine op_draw (n := 12) hpk hc hs (by omega) (by omega) (by omega) (by simp only [go_sem, binC, e6]) (by simp only [go_sem, binC]) fun Hd hld hxd hsd => ?_
    have hxd5 := hx.tr hxd
    have hbxd := hxd.get hbxc (by simp; omega)
    simp only [go_sem, binC]
    by_cases h0 : 0 < pickV code' q 12
    · simp only [go_sem, binC, decide_eq_true h0, e7, gc_of hbxd, inBlk_some]
      by_cases h1 : 0 < (ls.length : Int)
      · simp only [go_sem, binC, decide_eq_true h1, e7, e8, e9, e10, gc_of hbxd, inBlk_some, osv]
        refine op_callB (by simp only [go_sem, binC, e8, e9, e10]; exact gho Hd d _ _ (ls, l) ts x y (prog_rd (q1.mono (hvwc hxd5)) (q2.mono (hvwc hxd5))) r3 (q3.mono (hvwc hxd5))) (fun hb => ?_) (fun hb => ?_)
        · simp only [go_sem, binC]
          refine seq_cond (t := false) rfl ?_
          simp only [go_sem, binC]
          refine seq_exit ?_
          simp only [go_sem, binC, thenX_e, out_e, thenX_n]
          exact hend _ _ q x y hxd5 rx ry (by simp only [go_sem, binC, e2]) (by simp only [go_sem, binC, e7]) (by simp only [go_sem, binC, e8]) (by simp only [go_sem, binC, e9]) (by simp only [go_sem, binC, e10])
        · simp only [go_sem, binC]
          refine seq_cond (t := true) rfl ?_
          simp only [go_sem, binC]
          refine seq_skip (seq_block ?_)
          refine seq_reg ?_
          simp only [go_sem, binC, e6, e7, gc_of hbxd, inBlk_some]
          refine op_draw (n := (ls.length : Int)) hpk hc hsd (by omega) (by omega) (by omega) (by simp only [go_sem, binC, e6]) (by simp only [go_sem, binC]) fun He hle hxe hse => ?_
          simp only [go_sem, binC]
          refine wpc_reg ?_
          simp only [go_sem, binC, e6]
          refine op_draw (n := 3) hpk hc hse (by omega) (by omega) (by omega) (by simp only [go_sem, binC, e6]) (by simp only [go_sem, binC]) fun Hf hlf hxf hsf => ?_
          simp only [go_sem, binC, out_n, thenX_n]
          refine wpc_reg ?_
          simp only [go_sem, binC, e11, hw1]
          have b1 := pickV_bd code' (q + 1) (n := (ls.length : Int)) (by omega)
          have b2 := pickV_bd code' (q + 1 + 1) (n := 3) (by omega)
          exact ih (i + 1) _ _ (q + 1 + 1 + 1) (pickV code' (q + 1) (ls.length : Int)) (pickV code' (q + 1 + 1) 3) (by omega) ((hxd5.tr hxe).tr hxf) hsf (by omega) (by unfold RgI; omega) (by unfold RgI; omega) (by simp only [go_sem, binC, e2]) (by simp only [go_sem, binC, e6]) (by simp only [go_sem, binC, e7]) (by simp only [go_sem, binC, e8]) (by simp only [go_sem, binC]) (by simp only [go_sem, binC]) (by simp only [go_sem, binC])
      · simp only [go_sem, binC, decide_eq_false h1]
        refine seq_cond (t := false) rfl ?_
        simp only [go_sem, binC]
        refine seq_exit ?_
        simp only [go_sem, binC, thenX_e, out_e, thenX_n]
        exact hend _ _ q x y hxd5 rx ry (by simp only [go_sem, binC, e2]) (by simp only [go_sem, binC, e7]) (by simp only [go_sem, binC, e8]) (by simp only [go_sem, binC, e9]) (by simp only [go_sem, binC, e10])
    · simp only [go_sem, binC, decide_eq_false h0]
      refine seq_cond (t := false) rfl ?_
      simp only [go_sem, binC]
      refine seq_exit ?_
      simp only [go_sem, binC, thenX_e, out_e, thenX_n]
      exact hend _ _ q x y hxd5 rx ry (by simp only [go_sem, binC, e2]) (by simp only [go_sem, binC, e7]) (by simp only [go_sem, binC, e8]) (by simp only [go_sem, binC, e9]) (by simp only [go_sem, binC, e10])
end Go.Proofs.YtfngbmibeplgiaaI
end
section
/- The laws FnPlanHomeMore and FnPlanHome on the ideal machine. -/
set_option linter.unusedVariables false
set_option linter.unusedSimpArgs false
namespace Go.Proofs.YtfngbmibeplgiaaI
open Go Go.RowKit
def c_lawHM : IFn := ⟨1, 46, [.t 2],
 .seq (.reg none [
    ⟨(some 2), none, .mov (.c (.bool false))⟩])
 (.seq (.seq (.reg none [
     ⟨(some 8), none, .mov (.t 0)⟩,
     ⟨(some 9), none, .len (.t 8)⟩,
     ⟨(some 10), none, .bin .gtr (.t 9) (.c (.int .i64 1048576))⟩])
  (.cond (.t 10) (.seq (.reg none [
      ⟨(some 2), none, .mov (.c (.bool true))⟩])
   (.ret)) (.skip)))
 (.seq (.reg none [
    ⟨(some 12), none, .mov (.t 0)⟩,
    ⟨(some 13), none, .call .k (.f 12) [(.t 12)]⟩,
    ⟨(some 11), none, .mov (.t 13)⟩,
    ⟨(some 14), none, .ext (.t 11) 0⟩,
    ⟨(some 15), none, .ext (.t 11) 1⟩,
    ⟨(some 16), none, .ext (.t 11) 2⟩,
    ⟨(some 17), none, .ext (.t 11) 3⟩,
    ⟨(some 3), none, .new [(.slice none 0 0), (.slice none 0 0)]⟩,
    ⟨none, none, .store 2 (.t 3) (.t 14)⟩,
    ⟨(some 4), none, .mov (.t 15)⟩,
    ⟨(some 5), none, .mov (.t 16)⟩,
    ⟨(some 6), none, .mov (.t 17)⟩])
 (.seq (.reg none [
    ⟨(some 18), none, .load true 2 (.t 3)⟩,
    ⟨(some 19), none, .mov (.t 4)⟩,
    ⟨(some 20), none, .mov (.t 5)⟩,
    ⟨(some 21), none, .mov (.t 6)⟩,
    ⟨(some 22), none, .call .q (.f 13) [(.t 18), (.t 19), (.t 20), (.t 21)]⟩,
    ⟨(some 7), none, .mov (.t 22)⟩])
 (.seq (.seq (.reg none [
     ⟨(some 23), none, .mov (.t 7)⟩,
     ⟨(some 24), none, .load true 2 (.t 3)⟩,
     ⟨(some 25), none, .mov (.t 4)⟩,
     ⟨(some 26), none, .mov (.t 5)⟩,
     ⟨(some 27), none, .mov (.t 6)⟩,
     ⟨(some 28), none, .call .q (.f 14) [(.t 24), (.t 25), (.t 26), (.t 27)]⟩,
     ⟨(some 29), none, .beq true (.t 23) (.t 28)⟩,
     ⟨(some 30), none, .mov (.t 29)⟩,
     ⟨(some 31), (some (30, false)), .mov (.t 7)⟩,
     ⟨(some 32), (some (30, false)), .un .not (.t 31)⟩,
     ⟨(some 33), none, .pick (.t 30) (.c (.bool true)) (.t 32)⟩])
  (.cond (.t 33) (.seq (.reg none [
      ⟨(some 34), none, .mov (.t 7)⟩,
      ⟨(some 35), none, .load true 2 (.t 3)⟩,
      ⟨(some 36), none, .mov (.t 4)⟩,
      ⟨(some 37), none, .mov (.t 5)⟩,
      ⟨(some 38), none, .mov (.t 6)⟩,
      ⟨(some 39), none, .call .q (.f 14) [(.t 35), (.t 36), (.t 37), (.t 38)]⟩,
      ⟨(some 40), none, .beq false (.t 34) (.t 39)⟩,
      ⟨(some 2), none, .mov (.t 40)⟩])
   (.ret)) (.skip)))
 (.seq (.reg none [
    ⟨(some 41), none, .load true 2 (.t 3)⟩,
    ⟨(some 42), none, .lit 1 3 3 [(.int .i64 0), (.int .i64 0), (.int .i64 0)] [(0, 1, (.c (.int .i64 7))), (1, 1, (.c (.int .i64 7))), (2, 1, (.c (.int .i64 7)))]⟩,
    ⟨(some 43), none, .mov (.t 5)⟩,
    ⟨(some 44), none, .mov (.t 6)⟩,
    ⟨(some 45), none, .call .q (.f 13) [(.t 41), (.t 42), (.t 43), (.t 44)]⟩,
    ⟨(some 2), none, .mov (.t 45)⟩])
 (.ret))))))⟩
def c_lawPHo : IFn := ⟨1, 71, [.t 2],
 .seq (.reg none [
    ⟨(some 2), none, .mov (.c (.bool false))⟩])
 (.seq (.seq (.reg none [
     ⟨(some 9), none, .mov (.t 0)⟩,
     ⟨(some 10), none, .len (.t 9)⟩,
     ⟨(some 11), none, .bin .gtr (.t 10) (.c (.int .i64 1048576))⟩])
  (.cond (.t 11) (.seq (.reg none [
      ⟨(some 2), none, .mov (.c (.bool true))⟩])
   (.ret)) (.skip)))
 (.seq (.reg none [
    ⟨(some 13), none, .mov (.t 0)⟩,
    ⟨(some 14), none, .call .k (.f 12) [(.t 13)]⟩,
    ⟨(some 12), none, .mov (.t 14)⟩,
    ⟨(some 15), none, .ext (.t 12) 0⟩,
    ⟨(some 16), none, .ext (.t 12) 1⟩,
    ⟨(some 17), none, .ext (.t 12) 2⟩,
    ⟨(some 18), none, .ext (.t 12) 3⟩,
    ⟨(some 3), none, .new [(.slice none 0 0), (.slice none 0 0)]⟩,
    ⟨none, none, .store 2 (.t 3) (.t 15)⟩,
    ⟨(some 4), none, .mov (.t 16)⟩,
    ⟨(some 5), none, .mov (.t 17)⟩,
    ⟨(some 6), none, .mov (.t 18)⟩])
 (.seq (.reg none [
    ⟨(some 19), none, .load true 2 (.t 3)⟩,
    ⟨(some 20), none, .mov (.t 4)⟩,
    ⟨(some 21), none, .mov (.t 5)⟩,
    ⟨(some 22), none, .mov (.t 6)⟩,
    ⟨(some 23), none, .call .q (.f 13) [(.t 19), (.t 20), (.t 21), (.t 22)]⟩,
    ⟨(some 7), none, .mov (.t 23)⟩])
 (.seq (.seq (.reg none [
     ⟨(some 24), none, .mov (.t 7)⟩,
     ⟨(some 25), none, .load true 2 (.t 3)⟩,
     ⟨(some 26), none, .mov (.t 4)⟩,
     ⟨(some 27), none, .mov (.t 5)⟩,
     ⟨(some 28), none, .mov (.t 6)⟩,
     ⟨(some 29), none, .call .q (.f 14) [(.t 25), (.t 26), (.t 27), (.t 28)]⟩,
     ⟨(some 30), none, .beq true (.t 24) (.t 29)⟩,
     ⟨(some 31), none, .mov (.t 30)⟩,
     ⟨(some 32), (some (31, false)), .mov (.t 7)⟩,
     ⟨(some 33), (some (31, false)), .un .not (.t 32)⟩,
     ⟨(some 34), none, .pick (.t 31) (.c (.bool true)) (.t 33)⟩])
  (.cond (.t 34) (.seq (.reg none [
      ⟨(some 35), none, .mov (.t 7)⟩,
      ⟨(some 36), none, .load true 2 (.t 3)⟩,
      ⟨(some 37), none, .mov (.t 4)⟩,
      ⟨(some 38), none, .mov (.t 5)⟩,
      ⟨(some 39), none, .mov (.t 6)⟩,
      ⟨(some 40), none, .call .q (.f 14) [(.t 36), (.t 37), (.t 38), (.t 39)]⟩,
      ⟨(some 41), none, .beq false (.t 35) (.t 40)⟩,
      ⟨(some 2), none, .mov (.t 41)⟩])
   (.ret)) (.skip)))
 (.seq (.seq (.reg none [
     ⟨(some 8), none, .mov (.c (.int .i64 0))⟩])
  (.block 0 (.loop (.seq (.seq (.reg none [
        ⟨(some 42), none, .mov (.t 8)⟩,
        ⟨(some 43), none, .bin .lss (.t 42) (.c (.int .i64 3))⟩])
     (.cond (.t 43) (.skip) (.exit 0)))
    (.seq (.block 1 (.seq (.reg none [
         ⟨(some 46), none, .fad 0 (.t 3)⟩,
         ⟨(some 47), none, .load false 1 (.t 46)⟩,
         ⟨(some 48), none, .mov (.t 5)⟩,
         ⟨(some 49), none, .iad 2 (.t 47) (.t 48)⟩,
         ⟨(some 50), none, .fad 1 (.t 49)⟩,
         ⟨(some 51), none, .load false 1 (.t 50)⟩,
         ⟨(some 52), none, .mov (.t 8)⟩,
         ⟨(some 53), none, .call .q (.f 15) [(.t 51), (.t 52)]⟩,
         ⟨(some 54), none, .mov (.t 53)⟩,
         ⟨(some 55), (some (54, true)), .mov (.t 4)⟩,
         ⟨(some 56), (some (54, true)), .mov (.t 8)⟩,
         ⟨(some 57), (some (54, true)), .iad 1 (.t 55) (.t 56)⟩,
         ⟨(some 58), (some (54, true)), .load false 1 (.t 57)⟩,
         ⟨(some 59), (some (54, true)), .mov (.t 6)⟩,
         ⟨(some 60), (some (54, true)), .call .q (.f 15) [(.t 58), (.t 59)]⟩,
         ⟨(some 61), (some (54, true)), .un .not (.t 60)⟩,
         ⟨(some 62), none, .pick (.t 54) (.t 61) (.c (.bool false))⟩])
      (.cond (.t 62) (.seq (.reg none [
          ⟨(some 2), none, .mov (.c (.bool false))⟩])
       (.ret)) (.skip))))
    (.reg none [
      ⟨(some 44), none, .mov (.t 8)⟩,
      ⟨(some 45), none, .bin .add (.t 44) (.c (.int .i64 1))⟩,
      ⟨(some 8), none, .mov (.t 45)⟩]))))))
 (.seq (.reg none [
    ⟨(some 63), none, .fad 0 (.t 3)⟩,
    ⟨(some 64), none, .load false 1 (.t 63)⟩,
    ⟨(some 65), none, .mov (.t 5)⟩,
    ⟨(some 66), none, .iad 2 (.t 64) (.t 65)⟩,
    ⟨(some 67), none, .fad 0 (.t 66)⟩,
    ⟨(some 68), none, .load false 1 (.t 67)⟩,
    ⟨(some 69), none, .mov (.t 6)⟩,
    ⟨(some 70), none, .call .q (.f 15) [(.t 68), (.t 69)]⟩,
    ⟨(some 2), none, .mov (.t 70)⟩])
 (.ret)))))))⟩
def c_lcHas : IFn := ⟨2, 10, [.t 4],
 .seq (.reg none [
    ⟨(some 4), none, .mov (.c (.bool false))⟩])
 (.seq (.reg none [
    ⟨(some 5), none, .mov (.t 0)⟩,
    ⟨(some 6), none, .mov (.t 1)⟩,
    ⟨(some 7), none, .bin .shr (.t 5) (.t 6)⟩,
    ⟨(some 8), none, .bin .rem (.t 7) (.c (.int .i64 2))⟩,
    ⟨(some 9), none, .bin .eql (.t 8) (.c (.int .i64 1))⟩,
    ⟨(some 4), none, .mov (.t 9)⟩])
 (.ret))⟩
theorem trB777 : trB [7, 7, 7] = true := trB_iff.2 ⟨rfl, fun i hi => by
  have hi : i < 3 := hi
  have : i = 0 ∨ i = 1 ∨ i = 2 := by omega
  rcases this with rfl | rfl | rfl <;> exact ⟨(by decide : inB 7 0 7 = true), (by decide : hasB 7 _ = true)⟩⟩
theorem homeB_more {n : Nat} {p : TProg n} {ts : List Int} {v h : Int} (hb : homeB n p ts v h = true) : homeB n p [7, 7, 7] v h = true := by
  simp only [homeB, Bool.and_eq_true] at hb ⊢
  obtain ⟨⟨⟨⟨h1, h2⟩, h3⟩, h4⟩, h5, h6⟩ := hb
  refine ⟨⟨⟨⟨h1, trB777⟩, h3⟩, h4⟩, h5, ?_⟩
  have hh := inB_iff.1 h4
  have : h = 0 ∨ h = 1 ∨ h = 2 := by omega
  have h7 : byS [7, 7, 7] h 3 = 7 := by rcases this with rfl | rfl | rfl <;> decide
  rw [h7]
  simp [witB, show hasB 7 0 = true by decide, show hasB 7 1 = true by decide, show hasB 7 2 = true by decide]
theorem byS_has {ts : List Int} {h : Int} {i : Nat} (hi : i < 3) : hasB (byS ts h 3) i = hasB (ts.getD i 0) h := by
  simp only [byS]
  have : i = 0 ∨ i = 1 ∨ i = 2 := by omega
  rcases this with rfl | rfl | rfl <;> cases h0 : hasB (ts.getD 0 0) h <;> cases h1 : hasB (ts.getD 1 0) h <;> cases h2 : hasB (ts.getD 2 0) h <;> decide
theorem homeB_tr {n : Nat} {p : TProg n} {ts : List Int} {v h : Int} (hb : homeB n p ts v h = true) {i : Nat} (hi : i < 3) (ht : hasB (p.1.getD v.toNat (0, 0)).2 i = true) : hasB (ts.getD i 0) h = true := by
  simp only [homeB, Bool.and_eq_true] at hb
  obtain ⟨_, _, h6⟩ := hb
  rw [← byS_has hi]
  simp only [witB, Bool.and_eq_true, Bool.not_eq_true', Bool.and_eq_false_iff] at h6
  have : i = 0 ∨ i = 1 ∨ i = 2 := by omega
  rcases this with rfl | rfl | rfl
  · simpa [ht] using (show _ from by simpa using h6.1 : hasB (p.1.getD v.toNat (0, 0)).2 0 = false ∨ hasB (byS ts h 3) 0 = true).resolve_left (by simpa using ht)
  · simpa [ht] using (show _ from by simpa using h6.2.1 : hasB (p.1.getD v.toNat (0, 0)).2 1 = false ∨ hasB (byS ts h 3) 1 = true).resolve_left (by simpa using ht)
  · simpa [ht] using (show _ from by simpa using h6.2.2 : hasB (p.1.getD v.toNat (0, 0)).2 2 = false ∨ hasB (byS ts h 3) 2 = true).resolve_left (by simpa using ht)
theorem lcHas_ok {F : Nat → Option IFn} {f : Nat} (hf : F f = some c_lcHas) : ∀ (H : Heap) (s h : Int), 0 ≤ s → s ≤ 7 → 0 ≤ h → h ≤ 2 → QC F f [.int .i64 s, .int .i64 h] H (.bool (hasB s h)) := by
  intro H s h h1 h2 h3 h4
  have hB := has_rem h1 h2 h3 h4
  refine QC.mk hf rfl ?_
  refine seq_reg ?_
  simp only [go_sem, binC]
  refine seq_reg ?_
  simp only [go_sem, binC]
  refine shr_rule (by omega) ?_
  simp only [go_sem, binC]
  refine rem_rule ?_
  simp only [go_sem, binC]
  refine wpc_ret ⟨Or.inr rfl, _, (by (simp only [go_sem, binC]) <;> rfl), ?_, rfl⟩
  refine congrArg _ ?_
  by_cases h5 : hasB s h = true
  · rw [h5]; exact beq_t (hB.2 h5)
  · rw [Bool.not_eq_true] at h5
    rw [h5]
    exact beq_f (fun h6 => by rw [hB.1 h6] at h5; cases h5)
def LawB (F : Nat → Option IFn) (f : Nat) : Prop := ∀ (H : Heap) (v : Value) (code : List Int), SlR Co.byte (vw 0 H) v code → QC F f [v] H (.bool true)
theorem lawHM_ok {F : Nat → Option IFn} {f : Nat} (hf : F f = some c_lawHM) (gd : DrawHomeOk F 12) (gi : HomeOk F 13) (gs : HomeOk F 14) : LawB F f := by
  intro H v code hv
  have hv0 := hv
  obtain ⟨h0, a, rfl, _⟩ := hv
  refine QC.mk hf rfl ?_
  refine seq_reg ?_
  simp only [go_sem, binC]
  refine seq_assoc (seq_reg ?_)
  simp only [go_sem, binC]
  by_cases hbig : 1048576 < (code.length : Int)
  · refine seq_cond (t := true) (by simp only [go_sem, binC]; rw [decide_eq_true hbig]) ?_
    simp only [go_sem, binC]
    refine seq_assoc (seq_reg ?_)
    simp only [go_sem, binC]
    exact seq_ret ⟨Or.inr rfl, .bool true, by simp only [go_sem, binC], rfl, rfl⟩
  refine seq_cond (t := false) (by simp only [go_sem, binC]; rw [decide_eq_false hbig]) ?_
  simp only [go_sem, binC]
  refine seq_skip (seq_reg ?_)
  simp only [go_sem, binC]
  obtain ⟨d, lv, sv, tv, x, y, ls, l, ts, H1, k, hx, r1, r2, r3, r4, rx, ry⟩ := gd H _ code hv0
  have hl1 := hx.1
  have olv : one lv = true := by obtain ⟨_, a, rfl, _⟩ := r1; rfl
  have osv : one sv = true := by obtain ⟨_, a, rfl, _⟩ := r2; rfl
  have otv : one tv = true := by obtain ⟨_, a, rfl, _⟩ := r4; rfl
  refine op_callK (by simp only [go_sem, binC]; exact k) ?_
  simp only [go_sem, binC, olv, osv, otv]
  refine ⟨by omega, ?_⟩
  refine wpc_gen fun H2 hH2 => ?_
  have hb : H2[H1.length]? = some ⟨[lv, sv], 0, 0, false, true⟩ := hH2 ▸ get_new0 _ _
  have hS : Sub (vw 0 H1) (vw 0 H2) := hH2 ▸ vw_app 0 H1 _
  replace r1 := r1.mono hS
  replace r2 := r2.mono hS
  replace r4 := r4.mono hS
  have hP := prog_rd r1 r2
  clear hH2 hS
  refine seq_reg ?_
  simp only [go_sem, binC, gc_of hb, inBlk_some, osv]
  refine op_callQ (by simp only [go_sem, binC]; exact gi H2 d _ _ (ls, l) ts x y hP r3 r4) ?_
  simp only [go_sem, binC]
  refine seq_assoc (seq_reg ?_)
  simp only [go_sem, binC, gc_of hb, inBlk_some, osv]
  refine op_callQ (by simp only [go_sem, binC]; exact gs H2 d _ _ (ls, l) ts x y hP r3 r4) ?_
  simp only [go_sem, binC, beq_self_eq_true]
  cases hB : homeB d (ls, l) ts x y with
  | false =>
    simp only [go_sem, binC, hB]
    refine seq_cond (t := true) rfl ?_
    simp only [go_sem, binC]
    refine seq_assoc (seq_reg ?_)
    simp only [go_sem, binC, gc_of hb, inBlk_some, osv]
    refine op_callQ (by simp only [go_sem, binC]; exact gs H2 d _ _ (ls, l) ts x y hP r3 r4) ?_
    simp only [go_sem, binC, hB, beq_self_eq_true]
    exact seq_ret ⟨Or.inr rfl, .bool true, by simp only [go_sem, binC], rfl, rfl⟩
  | true =>
    simp only [go_sem, binC, hB]
    refine seq_cond (t := false) rfl ?_
    simp only [go_sem, binC]
    refine seq_skip (seq_reg ?_)
    simp only [go_sem, binC, gc_of hb, inBlk_some, osv]
    have hf : Sub (vw 0 H2) (vw 0 (H2 ++ [⟨[.int .i64 7, .int .i64 7, .int .i64 7], 1, 3, true, true⟩])) := vw_app 0 H2 _
    have r7 : SlR Co.int (vw 0 (H2 ++ [⟨[.int .i64 7, .int .i64 7, .int .i64 7], 1, 3, true, true⟩])) (sli H2.length 0 3) [7, 7, 7] := (ints_sl (l := [7, 7, 7]) (o := 0) (lo := 0) (xs := []) (get_new0 H2 _) (Nat.zero_le _) (by simp) (by intro x hx; simp at hx; subst hx; unfold RgI; omega) (by simp) (by simp)).mono (vwl0 _ _ _)
    refine op_callQ (by simp only [go_sem, binC]; exact gi _ d _ _ (ls, l) [7, 7, 7] x y (hP.mono hf) r3 r7) ?_
    simp only [go_sem, binC, homeB_more hB]
    exact wpc_ret ⟨Or.inr rfl, .bool true, by simp only [go_sem, binC], rfl, rfl⟩
theorem lawPHo_ok {F : Nat → Option IFn} {f : Nat} (hf : F f = some c_lawPHo) (gd : DrawHomeOk F 12) (gi : HomeOk F 13) (gs : HomeOk F 14) (gh : ∀ (H : Heap) (s h : Int), 0 ≤ s → s ≤ 7 → 0 ≤ h → h ≤ 2 → QC F 15 [.int .i64 s, .int .i64 h] H (.bool (hasB s h))) : LawB F f := by
  intro H v code hv
  have hv0 := hv
  obtain ⟨h0, a, rfl, _⟩ := hv
  refine QC.mk hf rfl ?_
  refine seq_reg ?_
  simp only [go_sem, binC]
  refine seq_assoc (seq_reg ?_)
  simp only [go_sem, binC]
  by_cases hbig : 1048576 < (code.length : Int)
  · refine seq_cond (t := true) (by simp only [go_sem, binC]; rw [decide_eq_true hbig]) ?_
    simp only [go_sem, binC]
    refine seq_assoc (seq_reg ?_)
    simp only [go_sem, binC]
    exact seq_ret ⟨Or.inr rfl, .bool true, by simp only [go_sem, binC], rfl, rfl⟩
  refine seq_cond (t := false) (by simp only [go_sem, binC]; rw [decide_eq_false hbig]) ?_
  simp only [go_sem, binC]
  refine seq_skip (seq_reg ?_)
  simp only [go_sem, binC]
  obtain ⟨d, lv, sv, tv, x, y, ls, l, ts, H1, k, hx, r1, r2, r3, r4, rx, ry⟩ := gd H _ code hv0
  have hl1 := hx.1
  have olv : one lv = true := by obtain ⟨_, a, rfl, _⟩ := r1; rfl
  have osv : one sv = true := by obtain ⟨_, a, rfl, _⟩ := r2; rfl
  have otv : one tv = true := by obtain ⟨_, a, rfl, _⟩ := r4; rfl
  refine op_callK (by simp only [go_sem, binC]; exact k) ?_
  simp only [go_sem, binC, olv, osv, otv]
  refine ⟨by omega, ?_⟩
  refine wpc_gen fun H2 hH2 => ?_
  have hb : H2[H1.length]? = some ⟨[lv, sv], 0, 0, false, true⟩ := hH2 ▸ get_new0 _ _
  have hS : Sub (vw 0 H1) (vw 0 H2) := hH2 ▸ vw_app 0 H1 _
  replace r1 := r1.mono hS
  replace r2 := r2.mono hS
  replace r4 := r4.mono hS
  have hP := prog_rd r1 r2
  clear hH2 hS
  refine seq_reg ?_
  simp only [go_sem, binC, gc_of hb, inBlk_some, osv]
  refine op_callQ (by simp only [go_sem, binC]; exact gi H2 d _ _ (ls, l) ts x y hP r3 r4) ?_
  simp only [go_sem, binC]
  refine seq_assoc (seq_reg ?_)
  simp only [go_sem, binC, gc_of hb, inBlk_some, osv]
  refine op_callQ (by simp only [go_sem, binC]; exact gs H2 d _ _ (ls, l) ts x y hP r3 r4) ?_
  simp only [go_sem, binC, beq_self_eq_true]
  cases hB : homeB d (ls, l) ts x y with
  | false =>
    simp only [go_sem, binC, hB]
    refine seq_cond (t := true) rfl ?_
    simp only [go_sem, binC]
    refine seq_assoc (seq_reg ?_)
    simp only [go_sem, binC, gc_of hb, inBlk_some, osv]
    refine op_callQ (by simp only [go_sem, binC]; exact gs H2 d _ _ (ls, l) ts x y hP r3 r4) ?_
    simp only [go_sem, binC, hB, beq_self_eq_true]
    exact seq_ret ⟨Or.inr rfl, .bool true, by simp only [go_sem, binC], rfl, rfl⟩
  | true =>
    simp only [go_sem, binC, hB]
    refine seq_cond (t := false) rfl ?_
    simp only [go_sem, binC]
    have hB2 := hB
    simp only [homeB, Bool.and_eq_true] at hB2
    obtain ⟨⟨⟨⟨hPb, htr⟩, hvar⟩, hin⟩, hkn, _⟩ := hB2
    have htr' := trB_iff.1 htr
    have hall : ls.all labB = true := by
      simp only [progB, Bool.and_eq_true] at hPb; exact hPb.1.1.2
    have hv : 0 ≤ x ∧ x ≤ (ls.length : Int) - 1 := inB_iff.1 hvar
    have hh := inB_iff.1 hin
    have hil : x.toNat < ls.length := by omega
    obtain ⟨hl0, la, rfl, h2⟩ := r1
    rcases h2 with h2 | ⟨b, o, hab, h2⟩
    · have h2q : ls = [] := h2
      rw [h2q] at hil; simp at hil
    subst hab
    obtain ⟨cs, h3, h4⟩ := h2 x.toNat hil
    have hgd : ls.getD x.toNat (0, 0) = ls[x.toNat] := by simp [List.getD, hil]
    have hlab := List.all_eq_true.1 hall _ (List.getElem_mem hil)
    have hT : ∀ i : Nat, i < 3 → hasB (ls.getD x.toNat (0, 0)).2 i = true → hasB (ts.getD i 0) y = true := fun i hi ht => homeB_tr hB hi ht
    try simp only at h3 h4 hlab hgd hkn
    rw [hgd] at hkn hT
    generalize ls[x.toNat] = z at h4 hlab hgd hkn hT
    obtain ⟨z0, z1⟩ := z
    obtain ⟨_, _, rfl, ⟨rfl, b0⟩, ⟨rfl, b1⟩⟩ := h4
    simp only [labB, Bool.and_eq_true, inB_iff] at hlab
    have g3 := rng_gc h3
    rw [show Co.p2.w = 2 from rfl] at g3
    have g30 := gc_part (off := 0) (k := 1) g3 (by omega)
    have g31 := gc_part (off := 1) (k := 1) g3 (by omega)
    simp only [go_sem, binC] at g30 g31
    obtain ⟨hu0, ua, rfl, u2⟩ := r4
    have hts3 : ts.length = 3 := htr'.1
    have hgt : ∀ i, i < 3 → ∃ ub uo t, ua = some ⟨ub, uo, none⟩ ∧ getCells H2 ub (uo + i) 1 = some [.int .i64 t] ∧ 0 ≤ t ∧ t ≤ 7 ∧ ts.getD i 0 = t := by
      intro i hi
      have hi2 : i < ts.length := by omega
      rcases u2 with u2 | ⟨ub, uo, hub, u2⟩
      · rw [u2] at hi2; simp at hi2
      obtain ⟨us, u3, u4, u5⟩ := u2 i hi2
      have u6 := rng_gc u3
      rw [show Co.int.w = 1 from rfl, Nat.mul_one, u4] at u6
      have u7 := inB_iff.1 (htr'.2 i hi2).1
      exact ⟨ub, uo, _, hub, u6, u7.1, u7.2, by simp [List.getD, hi2]⟩
    obtain ⟨ub, uo, _, rfl, _⟩ := hgt 0 (by omega)
    refine seq_skip (seq_assoc (seq_reg ?_))
    simp only [go_sem, binC]
    refine seq_block (wpc_loop ?_)
    suffices h : ∀ (k i : Nat) (e : Env), i + k = 3 → e 3 = ptr H1.length 0 → e 4 = .slice (some ⟨ub, uo, none⟩) ts.length ts.length → e 5 = .int .i64 x → e 6 = .int .i64 y → e 8 = .int .i64 i → W F H.length _ e _ _ from
      h 3 0 _ rfl (by simp only [go_sem, binC]) (by simp only [go_sem, binC]) (by simp only [go_sem, binC]) (by simp only [go_sem, binC]) (by (simp only [go_sem, binC]) <;> rfl)
    intro k
    induction k with
    | zero =>
      intro i e hik e3 e4 e5 e6 e8
      refine lp_step ?_
      refine seq_assoc (seq_reg ?_)
      simp only [go_sem, binC, e8]
      have hlt : decide ((i : Int) < 3) = false := decide_eq_false (by omega)
      simp only [go_sem, binC, hlt]
      refine seq_cond (t := false) rfl ?_
      simp only [go_sem, binC]
      refine seq_exit ?_
      simp only [go_sem, binC, thenX_e, out_e, thenX_n]
      refine seq_reg ?_
      simp only [go_sem, binC, e3, e5, e6, gc_of hb, inBlk_some]
      refine ⟨⟨by omega, by omega⟩, ?_⟩
      simp only [go_sem, binC, g30, g31, Nat.add_zero]
      refine op_callQ (by simp only [go_sem, binC, e6]; exact gh _ _ _ hlab.1.1 hlab.1.2 hh.1 hh.2) ?_
      simp only [go_sem, binC, hkn]
      exact wpc_ret ⟨Or.inr rfl, .bool true, by simp only [go_sem, binC], rfl, rfl⟩
    | succ k ih =>
      intro i e hik e3 e4 e5 e6 e8
      have hlt : decide ((i : Int) < 3) = true := decide_eq_true (by omega)
      have hw1 : IntKind.i64.wrap ((i : Int) + 1) = ((i + 1 : Nat) : Int) := by rw [wrap_id (by omega) (by omega)]; omega
      obtain ⟨ub', uo', t, hu, hg, ht0, ht7, htt⟩ := hgt i (by omega)
      simp only [Option.some.injEq, Addr.mk.injEq, and_true] at hu
      obtain ⟨rfl, rfl⟩ := hu
      refine lp_step ?_
      refine seq_assoc (seq_reg ?_)
      simp only [go_sem, binC, e8]
      simp only [go_sem, binC, hlt]
      refine seq_cond (t := true) rfl ?_
      simp only [go_sem, binC]
      refine seq_skip (seq_block (seq_reg ?_))
      simp only [go_sem, binC, e3, e5, e6, e8, gc_of hb, inBlk_some]
      refine ⟨⟨by omega, by omega⟩, ?_⟩
      simp only [go_sem, binC, g30, g31, Nat.add_zero]
      refine op_callB (by simp only [go_sem, binC, e8]; exact gh _ _ _ hlab.2.1 hlab.2.2 (by omega) (by omega)) (fun hc => ?_) (fun hc => ?_)
      · simp only [go_sem, binC, e4, e6, e8]
        refine ⟨⟨by omega, by omega⟩, ?_⟩
        simp only [go_sem, binC, Int.toNat_natCast, Nat.mul_one, hg]
        refine op_callQ (by simp only [go_sem, binC, e6]; exact gh _ _ _ ht0 ht7 hh.1 hh.2) ?_
        have hq := hT i (by omega) hc
        rw [htt] at hq
        simp only [go_sem, binC, hq]
        refine wpc_cond (t := false) rfl ?_
        simp only [go_sem, binC]
        refine wpc_skip ?_
        simp only [go_sem, binC, out_n, thenX_n]
        refine wpc_reg ?_
        simp only [go_sem, binC, e8, hw1]
        exact ih (i + 1) _ (by omega) (by simp only [go_sem, binC, e3]) (by simp only [go_sem, binC, e4]) (by simp only [go_sem, binC, e5]) (by simp only [go_sem, binC, e6]) (by simp only [go_sem, binC])
      · simp only [go_sem, binC]
        refine wpc_cond (t := false) rfl ?_
        simp only [go_sem, binC]
        refine wpc_skip ?_
        simp only [go_sem, binC, out_n, thenX_n]
        refine wpc_reg ?_
        simp only [go_sem, binC, e8, hw1]
        exact ih (i + 1) _ (by omega) (by simp only [go_sem, binC, e3]) (by simp only [go_sem, binC, e4]) (by simp only [go_sem, binC, e5]) (by simp only [go_sem, binC, e6]) (by simp only [go_sem, binC])
end Go.Proofs.YtfngbmibeplgiaaI
end
section
/- Lists of steps in form: the loops. -/
set_option linter.unusedVariables false
set_option linter.unusedSimpArgs false
namespace Go.Proofs.YtfngbmibeplgiaaI
open Go Go.RowKit
theorem step_false {V : Vw} {cs : List Value} {a : TStep 0} (h : (Co.step 0).rd V cs a) : False := h
theorem sSteps_ok {F : Nat → Option IFn} {f n : Nat} (hf : F f = some c_sSteps) (g0 : StepOk F 114 n) : StepsOk F f n := by
  rintro H m v u ⟨p0, p1⟩ l d hp0 hu hs hd0 hd3
  obtain ⟨pc, hpc, _, _, rfl, ⟨v0, rfl, r0⟩, ⟨v1, rfl, r1⟩⟩ := hp0
  have hp : ∀ L, Rd (Co.prog m) true (vw 0 (H ++ L)) (.agg #[v0, v1]) (p0, p1) := fun L => ⟨_, rfl, _, _, rfl, ⟨_, rfl, r0.mono (vw_app 0 H L)⟩, ⟨_, rfl, r1.mono (vw_app 0 H L)⟩⟩
  simp only [go_sem, binC, Option.some.injEq] at hpc
  subst hpc
  obtain ⟨_, x0⟩ := r0.shape
  subst x0
  obtain ⟨_, x1⟩ := r1.shape
  subst x1
  have hu' := hu
  obtain ⟨h0, a, rfl, h2⟩ := hu
  refine QC.mk hf rfl ?_
  refine seq_reg ?_
  simp only [go_sem, binC]
  refine seq_assoc (seq_reg ?_)
  simp only [go_sem, binC]
  refine seq_block (wpc_loop ?_)
  suffices h : ∀ (k i : Nat) (e : Env), i + k = l.length → e 1 = .slice a l.length l.length → e 2 = .int .i64 d → e 3 = ptr H.length 0 → e 7 = .int .i64 i → l.all (stepB p0.length n d) = (l.drop i).all (stepB p0.length n d) → W F H.length _ e _ _ from
    h l.length 0 _ (by omega) (by simp only [go_sem, binC]) (by simp only [go_sem, binC]) (by simp only [go_sem, binC]) (by simp only [go_sem, binC]; rfl) rfl
  intro k
  induction k with
  | zero =>
    intro i e hi e1 e2 e3 e7 hall
    refine lp_step ?_
    refine seq_assoc (seq_reg ?_)
    simp only [go_sem, binC, e1, e7]
    refine seq_cond (t := false) (by simp only [go_sem, binC]; rw [decide_eq_false (by omega)]) ?_
    simp only [go_sem, binC]
    refine seq_exit ?_
    simp only [go_sem, binC, thenX_e, out_e, thenX_n]
    refine seq_reg ?_
    simp only [go_sem, binC]
    refine wpc_ret ⟨Or.inr rfl, .bool true, by simp only [go_sem, binC], ?_, rfl⟩
    rw [hall, List.drop_of_length_le (by omega)]
    rfl
  | succ k ih =>
    intro i e hi e1 e2 e3 e7 hall
    have hil : i < l.length := by omega
    rcases h2 with h2 | ⟨b, o, rfl, h2⟩
    · rw [h2] at hil; simp at hil
    obtain ⟨cs, h3, h4⟩ := h2 i hil
    have g3 := fun L => rng_gc (rng_sub (vw_app 0 H L) h3)
    rw [step_w] at g3
    refine lp_step ?_
    refine seq_assoc (seq_reg ?_)
    simp only [go_sem, binC, e1, e7]
    refine seq_cond (t := true) (by simp only [go_sem, binC]; rw [decide_eq_true (by omega)]) ?_
    simp only [go_sem, binC]
    refine seq_skip (seq_block (seq_regD ?_))
    simp only [go_sem, binC, e1, e2, e3, e7, g3]
    refine ⟨⟨by omega, by omega⟩, ?_⟩
    refine op_callB (by simp only [go_sem, binC, e2]; exact g0 _ m _ _ (p0, p1) l[i] d (hp _) ⟨cs, rfl, (Co.step n).mono (vw_app 0 H _) h4⟩ (hs.2 _ (List.getElem_mem _)) hd0 hd3) (fun hb => ?_) (fun hb => ?_)
    · simp only [go_sem, binC]
      refine wpc_cond (t := false) (by simp only [go_sem, binC]) ?_
      simp only [go_sem, binC]
      refine wpc_skip ?_
      simp only [go_sem, binC, out_n, thenX_n]
      refine wpc_reg ?_
      simp only [go_sem, binC, e7]
      have hw1 : IntKind.i64.wrap ((i : Int) + 1) = ((i + 1 : Nat) : Int) := by rw [wrap_id (by omega) (by omega)]; omega
      rw [hw1]
      refine ih (i + 1) _ (by omega) (by simp only [go_sem, binC, e1]) (by simp only [go_sem, binC, e2]) (by simp only [go_sem, binC, e3]) (by simp only [go_sem, binC]) ?_
      rw [hall, List.drop_eq_getElem_cons hil, List.all_cons, hb, Bool.true_and]
    · simp only [go_sem, binC]
      refine wpc_cond (t := true) (by simp only [go_sem, binC]) ?_
      simp only [go_sem, binC]
      refine seq_reg ?_
      simp only [go_sem, binC]
      refine wpc_ret ?_
      simp only [go_sem, binC, out_r, thenX_r]
      refine ⟨Or.inr rfl, .bool false, by simp only [go_sem, binC], ?_, rfl⟩
      rw [hall, List.drop_eq_getElem_cons hil, List.all_cons, hb, Bool.false_and]
theorem sSteps_all {F : Nat → Option IFn} (hf : F 114 = some c_sStep) (hfs : F 85 = some c_sSteps) (g0 : InOk F 46) (g1 : VarOk F 45) (g2 : ValOk F 127) : ∀ n, StepsOk F 85 n ∧ StepOk F 114 n := by
  intro n
  induction n with
  | zero =>
    have z : StepOk F 114 0 := by
      rintro H m v u p a d _ ⟨_, _, h⟩
      exact h.elim
    exact ⟨sSteps_ok hfs z, z⟩
  | succ n ih =>
    have z := sStep_ok hf g0 g1 g2 ih.1
    exact ⟨sSteps_ok hfs z, z⟩
end Go.Proofs.YtfngbmibeplgiaaI
end
section
/- The program's test of steps, in segments. -/
set_option linter.unusedVariables false
set_option linter.unusedSimpArgs false
namespace Go.Proofs.YtfngbmibeplgiaaI
open Go Go.RowKit
attribute [local irreducible] optP wpo wpp wpc binI Kc Kp wpOp thenX eqsV
def Same (e e1 : Env) : Prop := e1 2 = e 2 ∧ e1 3 = e 3 ∧ e1 8 = e 8 ∧ e1 10 = e 10 ∧ e1 11 = e 11 ∧ e1 12 = e 12
theorem Same.refl (e : Env) : Same e e := ⟨rfl, rfl, rfl, rfl, rfl, rfl⟩
theorem Same.trans {e e1 e2 : Env} (h : Same e e1) (h' : Same e1 e2) : Same e e2 :=
  ⟨h'.1.trans h.1, h'.2.1.trans h.2.1, h'.2.2.1.trans h.2.2.1, h'.2.2.2.1.trans h.2.2.2.1, h'.2.2.2.2.1.trans h.2.2.2.2.1, h'.2.2.2.2.2.trans h.2.2.2.2.2⟩
theorem seg1 {F : Nat → Option IFn} {lo : Nat} {H : Heap} {e : Env} {r : List IOper} {K : Env → Heap → Prop} {c : Nat}  {m : Nat} (g1 : VarOk F 40) {v0 v1 : Value} {p : TProg m} {b : Nat} {d a1 : Int} (hp : Rd (Co.prog m) true (vw 0 H) (.agg #[v0, v1]) p) (e2 : e 2 = .int .i64 d) (e3 : e 3 = ptr b 0) (e8 : e 8 = ptr c 0) (gb : getCells H b 0 2 = some [v0, v1]) (gc1 : getCells H c 1 1 = some [.int .i64 a1]) (hK : ∀ e1, Same e e1 → e1 24 = .bool (decide (d < 1) || !varB p.1.length a1) → wpo F lo r e1 H K) : wpo F lo (⟨(some 16), none, .mov (.t 2)⟩ :: ⟨(some 17), none, .bin .lss (.t 16) (.c (.int .i64 1))⟩ :: ⟨(some 18), none, .mov (.t 17)⟩ :: ⟨(some 19), (some (18, false)), .load true 2 (.t 3)⟩ :: ⟨(some 20), (some (18, false)), .fad 1 (.t 8)⟩ :: ⟨(some 21), (some (18, false)), .load false 1 (.t 20)⟩ :: ⟨(some 22), (some (18, false)), .call .q (.f 40) [(.t 19), (.t 21)]⟩ :: ⟨(some 23), (some (18, false)), .un .not (.t 22)⟩ :: ⟨(some 24), none, .pick (.t 18) (.c (.bool true)) (.t 23)⟩ :: r) e H K := by
  repeat' (first
    | refine seq_assoc ?_
    | refine seq_reg ?_
    | refine seq_skip ?_
    | refine seq_regD ?_
    | refine seq_cond (t := true) rfl ?_
    | refine seq_cond (t := false) rfl ?_
    | refine wpc_cond (t := true) rfl ?_
    | refine wpc_cond (t := false) rfl ?_
    | refine seq_block ?_
    | refine wpc_block ?_
    | refine seq_ret ?_
    | refine wpc_ret ?_
    | refine wpc_reg ?_
    | refine wpc_regD ?_
    | refine wpc_skip ?_
    | refine fin_t rfl ?_
    | refine seq_exit ?_
    | refine wpc_exit ?_
    | refine eqs_rule (fun _ => ?_) (fun _ => ?_)
    | refine cmp_lss (fun _ => ?_) (fun _ => ?_)
    | refine cmp_leq (fun _ => ?_) (fun _ => ?_)
    | refine cmp_gtr (fun _ => ?_) (fun _ => ?_)
    | refine cmp_geq (fun _ => ?_) (fun _ => ?_)
    | refine cmp_eql (fun _ => ?_) (fun _ => ?_)
    | refine cmp_neq (fun _ => ?_) (fun _ => ?_)
    | (refine op_callB (by simp only [go_sem, out_n, out_r, out_e, thenX_n, thenX_r, thenX_e, e2, e3, e8, gb, gc1]; exact g1 _ m _ p _ hp) (fun _ => ?_) (fun _ => ?_))
    | simp only [go_sem, out_n, out_r, out_e, thenX_n, thenX_r, thenX_e, e2, e3, e8, gb, gc1]
    )
  all_goals (refine hK _ ?_ ?_ <;> first | exact ⟨by simp only [go_sem, binC], by simp only [go_sem, binC], by simp only [go_sem, binC], by simp only [go_sem, binC], by simp only [go_sem, binC], by simp only [go_sem, binC]⟩ | (simp only [go_sem, binC]; simp [*]; done) | (simp only [go_sem, binC]; simp_all; done))
theorem seg2 {F : Nat → Option IFn} {lo : Nat} {H : Heap} {e : Env} {r : List IOper} {K : Env → Heap → Prop} {c : Nat}  {t : Bool} {a0 a2 a3 a4 : Int} (e24 : e 24 = .bool t) (e8 : e 8 = ptr c 0) (gc0 : getCells H c 0 1 = some [.int .i64 a0]) (gc2 : getCells H c 2 3 = some [.int .i64 a2, .int .i64 a3, .int .i64 a4]) (hK : ∀ e1, Same e e1 → e1 35 = .bool (t || (!decide (a0 = 1) && !decide ((a2, a3, a4) = (0, 0, 0)))) → wpo F lo r e1 H K) : wpo F lo (⟨(some 25), none, .mov (.t 24)⟩ :: ⟨(some 26), (some (25, false)), .fad 0 (.t 8)⟩ :: ⟨(some 27), (some (25, false)), .load false 1 (.t 26)⟩ :: ⟨(some 28), (some (25, false)), .bin .neq (.t 27) (.c (.int .i64 1))⟩ :: ⟨(some 29), (some (25, false)), .mov (.t 28)⟩ :: ⟨(some 30), (some (29, true)), .fad 2 (.t 8)⟩ :: ⟨(some 31), (some (29, true)), .load true 3 (.t 30)⟩ :: ⟨(some 32), (some (29, true)), .build [(.int .i64 0), (.int .i64 0), (.int .i64 0)] []⟩ :: ⟨(some 33), (some (29, true)), .eqs true 3 (.t 31) (.t 32)⟩ :: ⟨(some 34), (some (25, false)), .pick (.t 29) (.t 33) (.c (.bool false))⟩ :: ⟨(some 35), none, .pick (.t 25) (.c (.bool true)) (.t 34)⟩ :: r) e H K := by
  cases t
  all_goals skip
  repeat' (first
    | refine seq_assoc ?_
    | refine seq_reg ?_
    | refine seq_skip ?_
    | refine seq_regD ?_
    | refine seq_cond (t := true) rfl ?_
    | refine seq_cond (t := false) rfl ?_
    | refine wpc_cond (t := true) rfl ?_
    | refine wpc_cond (t := false) rfl ?_
    | refine seq_block ?_
    | refine wpc_block ?_
    | refine seq_ret ?_
    | refine wpc_ret ?_
    | refine wpc_reg ?_
    | refine wpc_regD ?_
    | refine wpc_skip ?_
    | refine fin_t rfl ?_
    | refine seq_exit ?_
    | refine wpc_exit ?_
    | refine eqs_rule (fun _ => ?_) (fun _ => ?_)
    | refine cmp_lss (fun _ => ?_) (fun _ => ?_)
    | refine cmp_leq (fun _ => ?_) (fun _ => ?_)
    | refine cmp_gtr (fun _ => ?_) (fun _ => ?_)
    | refine cmp_geq (fun _ => ?_) (fun _ => ?_)
    | refine cmp_eql (fun _ => ?_) (fun _ => ?_)
    | refine cmp_neq (fun _ => ?_) (fun _ => ?_)
    | simp only [go_sem, out_n, out_r, out_e, thenX_n, thenX_r, thenX_e, e24, e8, gc0, gc2]
    )
  all_goals (refine hK _ ?_ ?_ <;> first | exact ⟨by simp only [go_sem, binC], by simp only [go_sem, binC], by simp only [go_sem, binC], by simp only [go_sem, binC], by simp only [go_sem, binC], by simp only [go_sem, binC]⟩ | (simp only [go_sem, binC]; simp [*]; done) | (simp only [go_sem, binC]; simp_all; done))
theorem seg3 {F : Nat → Option IFn} {lo : Nat} {H : Heap} {e : Env} {r : List IOper} {K : Env → Heap → Prop} {c : Nat}  {t : Bool} {a0 a5 : Int} (e35 : e 35 = .bool t) (e8 : e 8 = ptr c 0) (gc0 : getCells H c 0 1 = some [.int .i64 a0]) (gc5 : getCells H c 5 1 = some [.int .i64 a5]) (hK : ∀ e1, Same e e1 → e1 45 = .bool (t || (!decide (a0 = 3) && !decide (a5 = 0))) → wpo F lo r e1 H K) : wpo F lo (⟨(some 36), none, .mov (.t 35)⟩ :: ⟨(some 37), (some (36, false)), .fad 0 (.t 8)⟩ :: ⟨(some 38), (some (36, false)), .load false 1 (.t 37)⟩ :: ⟨(some 39), (some (36, false)), .bin .neq (.t 38) (.c (.int .i64 3))⟩ :: ⟨(some 40), (some (36, false)), .mov (.t 39)⟩ :: ⟨(some 41), (some (40, true)), .fad 5 (.t 8)⟩ :: ⟨(some 42), (some (40, true)), .load false 1 (.t 41)⟩ :: ⟨(some 43), (some (40, true)), .bin .neq (.t 42) (.c (.int .i64 0))⟩ :: ⟨(some 44), (some (36, false)), .pick (.t 40) (.t 43) (.c (.bool false))⟩ :: ⟨(some 45), none, .pick (.t 36) (.c (.bool true)) (.t 44)⟩ :: r) e H K := by
  cases t
  all_goals skip
  repeat' (first
    | refine seq_assoc ?_
    | refine seq_reg ?_
    | refine seq_skip ?_
    | refine seq_regD ?_
    | refine seq_cond (t := true) rfl ?_
    | refine seq_cond (t := false) rfl ?_
    | refine wpc_cond (t := true) rfl ?_
    | refine wpc_cond (t := false) rfl ?_
    | refine seq_block ?_
    | refine wpc_block ?_
    | refine seq_ret ?_
    | refine wpc_ret ?_
    | refine wpc_reg ?_
    | refine wpc_regD ?_
    | refine wpc_skip ?_
    | refine fin_t rfl ?_
    | refine seq_exit ?_
    | refine wpc_exit ?_
    | refine eqs_rule (fun _ => ?_) (fun _ => ?_)
    | refine cmp_lss (fun _ => ?_) (fun _ => ?_)
    | refine cmp_leq (fun _ => ?_) (fun _ => ?_)
    | refine cmp_gtr (fun _ => ?_) (fun _ => ?_)
    | refine cmp_geq (fun _ => ?_) (fun _ => ?_)
    | refine cmp_eql (fun _ => ?_) (fun _ => ?_)
    | refine cmp_neq (fun _ => ?_) (fun _ => ?_)
    | simp only [go_sem, out_n, out_r, out_e, thenX_n, thenX_r, thenX_e, e35, e8, gc0, gc5]
    )
  all_goals (refine hK _ ?_ ?_ <;> first | exact ⟨by simp only [go_sem, binC], by simp only [go_sem, binC], by simp only [go_sem, binC], by simp only [go_sem, binC], by simp only [go_sem, binC], by simp only [go_sem, binC]⟩ | (simp only [go_sem, binC]; simp [*]; done) | (simp only [go_sem, binC]; simp_all; done))
theorem seg4 {F : Nat → Option IFn} {lo : Nat} {H : Heap} {e : Env} {r : List IOper} {K : Env → Heap → Prop} {c : Nat}  {t : Bool} {a0 : Int} {u6 u7 : Option Addr} {n6 n7 : Nat} (e45 : e 45 = .bool t) (e8 : e 8 = ptr c 0) (gc0 : getCells H c 0 1 = some [.int .i64 a0]) (gc6 : getCells H c 6 1 = some [.slice u6 n6 n6]) (gc7 : getCells H c 7 1 = some [.slice u7 n7 n7]) (ha : IntKind.i64.wrap ((n6 : Int) + (n7 : Int)) = (n6 : Int) + (n7 : Int)) (hK : ∀ e1, Same e e1 → e1 60 = .bool (t || (!decide (a0 = 2) && decide (0 < (n6 : Int) + n7))) → wpo F lo r e1 H K) : wpo F lo (⟨(some 46), none, .mov (.t 45)⟩ :: ⟨(some 47), (some (46, false)), .fad 0 (.t 8)⟩ :: ⟨(some 48), (some (46, false)), .load false 1 (.t 47)⟩ :: ⟨(some 49), (some (46, false)), .bin .neq (.t 48) (.c (.int .i64 2))⟩ :: ⟨(some 50), (some (46, false)), .mov (.t 49)⟩ :: ⟨(some 51), (some (50, true)), .fad 6 (.t 8)⟩ :: ⟨(some 52), (some (50, true)), .load false 1 (.t 51)⟩ :: ⟨(some 53), (some (50, true)), .len (.t 52)⟩ :: ⟨(some 54), (some (50, true)), .fad 7 (.t 8)⟩ :: ⟨(some 55), (some (50, true)), .load false 1 (.t 54)⟩ :: ⟨(some 56), (some (50, true)), .len (.t 55)⟩ :: ⟨(some 57), (some (50, true)), .bin .add (.t 53) (.t 56)⟩ :: ⟨(some 58), (some (50, true)), .bin .gtr (.t 57) (.c (.int .i64 0))⟩ :: ⟨(some 59), (some (46, false)), .pick (.t 50) (.t 58) (.c (.bool false))⟩ :: ⟨(some 60), none, .pick (.t 46) (.c (.bool true)) (.t 59)⟩ :: r) e H K := by
  cases t
  all_goals skip
  repeat' (first
    | refine seq_assoc ?_
    | refine seq_reg ?_
    | refine seq_skip ?_
    | refine seq_regD ?_
    | refine seq_cond (t := true) rfl ?_
    | refine seq_cond (t := false) rfl ?_
    | refine wpc_cond (t := true) rfl ?_
    | refine wpc_cond (t := false) rfl ?_
    | refine seq_block ?_
    | refine wpc_block ?_
    | refine seq_ret ?_
    | refine wpc_ret ?_
    | refine wpc_reg ?_
    | refine wpc_regD ?_
    | refine wpc_skip ?_
    | refine fin_t rfl ?_
    | refine seq_exit ?_
    | refine wpc_exit ?_
    | refine eqs_rule (fun _ => ?_) (fun _ => ?_)
    | refine cmp_lss (fun _ => ?_) (fun _ => ?_)
    | refine cmp_leq (fun _ => ?_) (fun _ => ?_)
    | refine cmp_gtr (fun _ => ?_) (fun _ => ?_)
    | refine cmp_geq (fun _ => ?_) (fun _ => ?_)
    | refine cmp_eql (fun _ => ?_) (fun _ => ?_)
    | refine cmp_neq (fun _ => ?_) (fun _ => ?_)
    | simp only [go_sem, out_n, out_r, out_e, thenX_n, thenX_r, thenX_e, e45, e8, gc0, gc6, gc7, ha]
    )
  all_goals (refine hK _ ?_ ?_ <;> first | exact ⟨by simp only [go_sem, binC], by simp only [go_sem, binC], by simp only [go_sem, binC], by simp only [go_sem, binC], by simp only [go_sem, binC], by simp only [go_sem, binC]⟩ | (simp only [go_sem, binC]; simp [*]; done) | (simp only [go_sem, binC]; simp_all; done))
end Go.Proofs.YtfngbmibeplgiaaI
end
section
/- The program's test of steps: what is done for each kind. -/
set_option linter.unusedVariables false
set_option linter.unusedSimpArgs false
namespace Go.Proofs.YtfngbmibeplgiaaI
open Go Go.RowKit
attribute [local irreducible] optP wpo wpp wpc binI Kc Kp wpOp thenX eqsV
def c_tests : List IOper := [
          ⟨(some 16), none, .mov (.t 2)⟩,
          ⟨(some 17), none, .bin .lss (.t 16) (.c (.int .i64 1))⟩,
          ⟨(some 18), none, .mov (.t 17)⟩,
          ⟨(some 19), (some (18, false)), .load true 2 (.t 3)⟩,
          ⟨(some 20), (some (18, false)), .fad 1 (.t 8)⟩,
          ⟨(some 21), (some (18, false)), .load false 1 (.t 20)⟩,
          ⟨(some 22), (some (18, false)), .call .q (.f 40) [(.t 19), (.t 21)]⟩,
          ⟨(some 23), (some (18, false)), .un .not (.t 22)⟩,
          ⟨(some 24), none, .pick (.t 18) (.c (.bool true)) (.t 23)⟩,
          ⟨(some 25), none, .mov (.t 24)⟩,
          ⟨(some 26), (some (25, false)), .fad 0 (.t 8)⟩,
          ⟨(some 27), (some (25, false)), .load false 1 (.t 26)⟩,
          ⟨(some 28), (some (25, false)), .bin .neq (.t 27) (.c (.int .i64 1))⟩,
          ⟨(some 29), (some (25, false)), .mov (.t 28)⟩,
          ⟨(some 30), (some (29, true)), .fad 2 (.t 8)⟩,
          ⟨(some 31), (some (29, true)), .load true 3 (.t 30)⟩,
          ⟨(some 32), (some (29, true)), .build [(.int .i64 0), (.int .i64 0), (.int .i64 0)] []⟩,
          ⟨(some 33), (some (29, true)), .eqs true 3 (.t 31) (.t 32)⟩,
          ⟨(some 34), (some (25, false)), .pick (.t 29) (.t 33) (.c (.bool false))⟩,
          ⟨(some 35), none, .pick (.t 25) (.c (.bool true)) (.t 34)⟩,
          ⟨(some 36), none, .mov (.t 35)⟩,
          ⟨(some 37), (some (36, false)), .fad 0 (.t 8)⟩,
          ⟨(some 38), (some (36, false)), .load false 1 (.t 37)⟩,
          ⟨(some 39), (some (36, false)), .bin .neq (.t 38) (.c (.int .i64 3))⟩,
          ⟨(some 40), (some (36, false)), .mov (.t 39)⟩,
          ⟨(some 41), (some (40, true)), .fad 5 (.t 8)⟩,
          ⟨(some 42), (some (40, true)), .load false 1 (.t 41)⟩,
          ⟨(some 43), (some (40, true)), .bin .neq (.t 42) (.c (.int .i64 0))⟩,
          ⟨(some 44), (some (36, false)), .pick (.t 40) (.t 43) (.c (.bool false))⟩,
          ⟨(some 45), none, .pick (.t 36) (.c (.bool true)) (.t 44)⟩,
          ⟨(some 46), none, .mov (.t 45)⟩,
          ⟨(some 47), (some (46, false)), .fad 0 (.t 8)⟩,
          ⟨(some 48), (some (46, false)), .load false 1 (.t 47)⟩,
          ⟨(some 49), (some (46, false)), .bin .neq (.t 48) (.c (.int .i64 2))⟩,
          ⟨(some 50), (some (46, false)), .mov (.t 49)⟩,
          ⟨(some 51), (some (50, true)), .fad 6 (.t 8)⟩,
          ⟨(some 52), (some (50, true)), .load false 1 (.t 51)⟩,
          ⟨(some 53), (some (50, true)), .len (.t 52)⟩,
          ⟨(some 54), (some (50, true)), .fad 7 (.t 8)⟩,
          ⟨(some 55), (some (50, true)), .load false 1 (.t 54)⟩,
          ⟨(some 56), (some (50, true)), .len (.t 55)⟩,
          ⟨(some 57), (some (50, true)), .bin .add (.t 53) (.t 56)⟩,
          ⟨(some 58), (some (50, true)), .bin .gtr (.t 57) (.c (.int .i64 0))⟩,
          ⟨(some 59), (some (46, false)), .pick (.t 50) (.t 58) (.c (.bool false))⟩,
          ⟨(some 60), none, .pick (.t 46) (.c (.bool true)) (.t 59)⟩]
def c_rest : ICode := (.seq (.reg none [
         ⟨(some 9), none, .mov (.c (.bool false))⟩])
      (.seq (.seq (.reg none [
          ⟨(some 61), none, .fad 0 (.t 8)⟩,
          ⟨(some 62), none, .load false 1 (.t 61)⟩])
       (.block 2 (.seq (.reg none [
           ⟨(some 64), none, .bin .eql (.t 62) (.c (.int .i64 1))⟩,
           ⟨(some 63), none, .mov (.t 64)⟩])
        (.cond (.t 63) (.reg none [
           ⟨(some 65), none, .load true 2 (.t 3)⟩,
           ⟨(some 66), none, .fad 2 (.t 8)⟩,
           ⟨(some 67), none, .load true 3 (.t 66)⟩,
           ⟨(some 68), none, .call .q (.f 113) [(.t 65), (.t 67)]⟩,
           ⟨(some 9), none, .mov (.t 68)⟩]) (.seq (.reg none [
            ⟨(some 70), none, .bin .eql (.t 62) (.c (.int .i64 2))⟩,
            ⟨(some 69), none, .mov (.t 70)⟩])
         (.cond (.t 69) (.reg none [
            ⟨(some 71), none, .load true 2 (.t 3)⟩,
            ⟨(some 72), none, .fad 6 (.t 8)⟩,
            ⟨(some 73), none, .load false 1 (.t 72)⟩,
            ⟨(some 74), none, .mov (.t 2)⟩,
            ⟨(some 75), none, .bin .sub (.t 74) (.c (.int .i64 1))⟩,
            ⟨(some 76), none, .call .q (.f 79) [(.t 71), (.t 73), (.t 75)]⟩,
            ⟨(some 77), none, .mov (.t 76)⟩,
            ⟨(some 78), (some (77, true)), .load true 2 (.t 3)⟩,
            ⟨(some 79), (some (77, true)), .fad 7 (.t 8)⟩,
            ⟨(some 80), (some (77, true)), .load false 1 (.t 79)⟩,
            ⟨(some 81), (some (77, true)), .mov (.t 2)⟩,
            ⟨(some 82), (some (77, true)), .bin .sub (.t 81) (.c (.int .i64 1))⟩,
            ⟨(some 83), (some (77, true)), .call .q (.f 79) [(.t 78), (.t 80), (.t 82)]⟩,
            ⟨(some 84), none, .pick (.t 77) (.t 83) (.c (.bool false))⟩,
            ⟨(some 9), none, .mov (.t 84)⟩]) (.seq (.reg none [
             ⟨(some 86), none, .bin .eql (.t 62) (.c (.int .i64 3))⟩,
             ⟨(some 85), none, .mov (.t 86)⟩])
          (.cond (.t 85) (.reg none [
             ⟨(some 87), none, .fad 5 (.t 8)⟩,
             ⟨(some 88), none, .load false 1 (.t 87)⟩,
             ⟨(some 89), none, .call .q (.f 41) [(.t 88)]⟩,
             ⟨(some 9), none, .mov (.t 89)⟩]) (.skip)))))))))
      (.seq (.reg none [
         ⟨(some 90), none, .mov (.t 9)⟩,
         ⟨(some 91), none, .un .not (.t 90)⟩])
      (.cond (.t 91) (.seq (.reg none [
          ⟨(some 6), none, .mov (.c (.bool false))⟩])
       (.ret)) (.skip)))))
def c_iStepsB : ICode := (.seq (.reg none [
       ⟨(some 13), none, .bin .lss (.t 12) (.t 11)⟩])
    (.seq (.cond (.t 13) (.skip) (.exit 0))
    (.seq (.block 1 (.seq (.reg none [
         ⟨(some 14), none, .iad 8 (.t 10) (.t 12)⟩,
         ⟨(some 15), none, .load true 8 (.t 14)⟩,
         ⟨(some 8), none, .new [(.int .i64 0), (.int .i64 0), (.int .i64 0), (.int .i64 0), (.int .i64 0), (.int .i64 0), (.slice none 0 0), (.slice none 0 0)]⟩,
         ⟨none, none, .store 8 (.t 8) (.t 15)⟩])
      (.seq (.seq (.reg none c_tests)
       (.cond (.t 60) (.seq (.reg none [
           ⟨(some 6), none, .mov (.c (.bool false))⟩])
        (.ret)) (.skip)))
      c_rest)))
    (.reg none [
      ⟨(some 92), none, .bin .add (.t 12) (.c (.int .i64 1))⟩,
      ⟨(some 12), none, .mov (.t 92)⟩]))))
theorem rest_ok {F : Nat → Option IFn} {lo m n : Nat} {H : Heap} {e : Env} {K : X → Env → Heap → Prop} {b c : Nat} {v0 v1 : Value} {p : TProg m} {d a0 a1 a2 a3 a4 a5 : Int} {a6 a7 : List (TStep n)} {u6 u7 : Option Addr} (g2 : ValOk F 113) (g4 : ∀ (H : Heap) (a : Int), QC F 41 [.int .i64 a] H (.bool (inB a 0 2))) (g3 : StepsOk F 79 n)
    (hp : Rd (Co.prog m) true (vw 0 H) (.agg #[v0, v1]) p) (hv : Rd Co.val true (vw 0 H) (.agg #[.int .i64 a2, .int .i64 a3, .int .i64 a4]) (a2, a3, a4)) (r6 : SlR (Co.step n) (vw 0 H) (.slice u6 a6.length a6.length) a6) (r7 : SlR (Co.step n) (vw 0 H) (.slice u7 a7.length a7.length) a7) (s6 : (Co.sl (Co.step n)).sm a6) (s7 : (Co.sl (Co.step n)).sm a7)
    (hd1 : 1 ≤ d) (hd3 : d ≤ 3) (hd : IntKind.i64.wrap (d - 1) = d - 1)
    (e2 : e 2 = .int .i64 d) (e3 : e 3 = ptr b 0) (e8 : e 8 = ptr c 0) (gb : getCells H b 0 2 = some [v0, v1]) (gc0 : getCells H c 0 1 = some [.int .i64 a0]) (gc2 : getCells H c 2 3 = some [.int .i64 a2, .int .i64 a3, .int .i64 a4]) (gc5 : getCells H c 5 1 = some [.int .i64 a5]) (gc6 : getCells H c 6 1 = some [.slice u6 a6.length a6.length]) (gc7 : getCells H c 7 1 = some [.slice u7 a7.length a7.length])
    (hK1 : ∀ e1, Same e e1 → (if a0 = 1 then valB p.1.length (a2, a3, a4) else if a0 = 2 then a6.all (stepB p.1.length n (d - 1)) && a7.all (stepB p.1.length n (d - 1)) else if a0 = 3 then inB a5 0 2 else false) = true → K .n e1 H)
    (hK2 : ∀ e1, e1 6 = .bool false → (if a0 = 1 then valB p.1.length (a2, a3, a4) else if a0 = 2 then a6.all (stepB p.1.length n (d - 1)) && a7.all (stepB p.1.length n (d - 1)) else if a0 = 3 then inB a5 0 2 else false) = false → K .r e1 H) : wpc F lo c_rest e H K := by
  generalize hA6 : a6.all (stepB p.1.length n (d - 1)) = A6 at hK1 hK2
  generalize hA7 : a7.all (stepB p.1.length n (d - 1)) = A7 at hK1 hK2
  have q6 := g3 H m _ _ p a6 (d - 1) hp r6 s6 (by omega) (by omega)
  have q7 := g3 H m _ _ p a7 (d - 1) hp r7 s7 (by omega) (by omega)
  rw [hA6] at q6
  rw [hA7] at q7
  unfold c_rest
  repeat' (first
    | refine seq_assoc ?_
    | refine seq_reg ?_
    | refine seq_skip ?_
    | refine seq_regD ?_
    | refine seq_cond (t := true) rfl ?_
    | refine seq_cond (t := false) rfl ?_
    | refine wpc_cond (t := true) rfl ?_
    | refine wpc_cond (t := false) rfl ?_
    | refine seq_block ?_
    | refine wpc_block ?_
    | refine seq_ret ?_
    | refine wpc_ret ?_
    | refine wpc_reg ?_
    | refine wpc_regD ?_
    | refine wpc_skip ?_
    | refine fin_t rfl ?_
    | refine seq_exit ?_
    | refine wpc_exit ?_
    | refine cmp_lss (fun _ => ?_) (fun _ => ?_)
    | refine cmp_leq (fun _ => ?_) (fun _ => ?_)
    | refine cmp_gtr (fun _ => ?_) (fun _ => ?_)
    | refine cmp_geq (fun _ => ?_) (fun _ => ?_)
    | refine cmp_eql (fun _ => ?_) (fun _ => ?_)
    | refine cmp_neq (fun _ => ?_) (fun _ => ?_)
    | (refine op_callB (by simp only [go_sem, out_n, out_r, out_e, thenX_n, thenX_r, thenX_e, hd, e2, e3, e8, gb, gc0, gc2, gc5, gc6, gc7, Bool.not_true, Bool.not_false]; exact g2 _ m _ _ p (a2, a3, a4) hp hv) (fun _ => ?_) (fun _ => ?_))
    | (refine op_callB (by simp only [go_sem, out_n, out_r, out_e, thenX_n, thenX_r, thenX_e, hd, e2, e3, e8, gb, gc0, gc2, gc5, gc6, gc7, Bool.not_true, Bool.not_false]; exact g4 _ _) (fun _ => ?_) (fun _ => ?_))
    | (refine op_callB (by simp only [go_sem, out_n, out_r, out_e, thenX_n, thenX_r, thenX_e, hd, e2, e3, e8, gb, gc0, gc2, gc5, gc6, gc7, Bool.not_true, Bool.not_false]; exact q6) (fun _ => ?_) (fun _ => ?_))
    | (refine op_callB (by simp only [go_sem, out_n, out_r, out_e, thenX_n, thenX_r, thenX_e, hd, e2, e3, e8, gb, gc0, gc2, gc5, gc6, gc7, Bool.not_true, Bool.not_false]; exact q7) (fun _ => ?_) (fun _ => ?_))
    | simp only [go_sem, out_n, out_r, out_e, thenX_n, thenX_r, thenX_e, hd, e2, e3, e8, gb, gc0, gc2, gc5, gc6, gc7, Bool.not_true, Bool.not_false]
    )
  all_goals first
    | (refine hK2 _ ?_ ?_ <;> first | (simp only [go_sem, binC]; done) | (simp [*]; done) | (simp_all; done))
    | (refine hK1 _ ?_ ?_ <;> first | exact ⟨by simp only [go_sem, binC], by simp only [go_sem, binC], by simp only [go_sem, binC], by simp only [go_sem, binC], by simp only [go_sem, binC], by simp only [go_sem, binC]⟩ | (simp [*]; done) | (simp_all; done))
end Go.Proofs.YtfngbmibeplgiaaI
end
section
/- The program's test of steps: the loop. -/
set_option linter.unusedVariables false
set_option linter.unusedSimpArgs false
namespace Go.Proofs.YtfngbmibeplgiaaI
open Go Go.RowKit
attribute [local irreducible] optP wpo wpp wpc binI Kc Kp wpOp thenX eqsV
theorem step_bad {k n : Nat} {d a0 a1 a2 a3 a4 a5 : Int} {a6 a7 : List (TStep n)} (h : (decide (d < 1) || !varB k a1 || (!decide (a0 = 1) && !decide ((a2, a3, a4) = (0, 0, 0))) || (!decide (a0 = 3) && !decide (a5 = 0)) || (!decide (a0 = 2) && decide (0 < (a6.length : Int) + a7.length))) = true) : stepB k (n + 1) d (a0, a1, (a2, a3, a4), a5, a6, a7) = false := by
  simp only [stepB]
  generalize (a6.length : Int) + (a7.length : Int) = X at *
  generalize List.all a6 (stepB k n (d - 1)) = A6 at *
  generalize List.all a7 (stepB k n (d - 1)) = A7 at *
  by_cases h1 : d < 1
  · rw [decide_eq_false (show ¬ 1 ≤ d by omega)]; rfl
  cases hv : varB k a1 with
  | false => simp
  | true =>
    by_cases hX : 0 < X
    · have hX0 : ¬ X = 0 := by omega
      by_cases k1 : a0 = 1 <;> by_cases k3 : a0 = 3 <;> by_cases k2 : a0 = 2 <;> simp_all <;> (intros; simp_all) <;> (try omega)
    · by_cases k1 : a0 = 1 <;> by_cases k3 : a0 = 3 <;> by_cases k2 : a0 = 2 <;> simp_all <;> (intros; simp_all) <;> (try omega)
theorem step_bad2 {k n : Nat} {d a0 a1 a2 a3 a4 a5 : Int} {a6 a7 : List (TStep n)} (h : (if a0 = 1 then valB k (a2, a3, a4) else if a0 = 2 then a6.all (stepB k n (d - 1)) && a7.all (stepB k n (d - 1)) else if a0 = 3 then inB a5 0 2 else false) = false) : stepB k (n + 1) d (a0, a1, (a2, a3, a4), a5, a6, a7) = false := by
  simp only [stepB]
  generalize List.all a6 (stepB k n (d - 1)) = A6 at *
  generalize List.all a7 (stepB k n (d - 1)) = A7 at *
  by_cases k1 : a0 = 1 <;> by_cases k3 : a0 = 3 <;> by_cases k2 : a0 = 2 <;> simp_all <;> (intros; simp_all)
theorem step_good {k n : Nat} {d a0 a1 a2 a3 a4 a5 : Int} {a6 a7 : List (TStep n)} (ht : (decide (d < 1) || !varB k a1 || (!decide (a0 = 1) && !decide ((a2, a3, a4) = (0, 0, 0))) || (!decide (a0 = 3) && !decide (a5 = 0)) || (!decide (a0 = 2) && decide (0 < (a6.length : Int) + a7.length))) = false) (h : (if a0 = 1 then valB k (a2, a3, a4) else if a0 = 2 then a6.all (stepB k n (d - 1)) && a7.all (stepB k n (d - 1)) else if a0 = 3 then inB a5 0 2 else false) = true) : stepB k (n + 1) d (a0, a1, (a2, a3, a4), a5, a6, a7) = true := by
  have hX : (0 : Int) ≤ (a6.length : Int) + (a7.length : Int) := by omega
  simp only [stepB]
  generalize (a6.length : Int) + (a7.length : Int) = X at *
  generalize List.all a6 (stepB k n (d - 1)) = A6 at *
  generalize List.all a7 (stepB k n (d - 1)) = A7 at *
  by_cases k1 : a0 = 1 <;> by_cases k3 : a0 = 3 <;> by_cases k2 : a0 = 2 <;> simp_all <;> omega
set_option maxHeartbeats 4000000 in
theorem iSteps_lp {F : Nat → Option IFn} {n m : Nat} (g1 : VarOk F 40) (g2 : ValOk F 113) (g4 : ∀ (H : Heap) (a : Int), QC F 41 [.int .i64 a] H (.bool (inB a 0 2))) (g3 : StepsOk F 79 n) {H : Heap} {v0 v1 : Value} {p0 : List (Int × Int)} {p1 : List (TStep m)} {d : Int}
    (hp : ∀ L, Rd (Co.prog m) true (vw 0 (H ++ L)) (.agg #[v0, v1]) (p0, p1)) {l : List (TStep (n + 1))} {a : Option Addr} (hu : SlR (Co.step (n + 1)) (vw 0 H) (.slice a l.length l.length) l) (hs : (Co.sl (Co.step (n + 1))).sm l) (hd0 : 0 ≤ d) (hd3 : d ≤ 3)
    {K : X → Env → Heap → Prop} (hK1 : ∀ e1 M, l.all (stepB p0.length (n + 1) d) = true → K (.e 0) e1 (H ++ ⟨[v0, v1], 0, 0, false, true⟩ :: M)) (hK2 : ∀ e1 M, e1 6 = .bool false → l.all (stepB p0.length (n + 1) d) = false → K .r e1 (H ++ ⟨[v0, v1], 0, 0, false, true⟩ :: M)) :
    ∀ (k i : Nat) (e : Env) (M : Heap), i + k = l.length → e 2 = .int .i64 d → e 3 = ptr H.length 0 → e 10 = .slice a l.length l.length → e 11 = .int .i64 l.length → e 12 = .int .i64 i → l.all (stepB p0.length (n + 1) d) = (l.drop i).all (stepB p0.length (n + 1) d) →
      W F H.length (.lp c_iStepsB) e (H ++ ⟨[v0, v1], 0, 0, false, true⟩ :: M) K := by
  obtain ⟨h0, a', ha', h2⟩ := hu
  cases ha'
  have hd : IntKind.i64.wrap (d - 1) = d - 1 := wrap_id (by omega) (by omega)
  intro k
  induction k with
  | zero =>
    intro i e M hi e2 e3 e10 e11 e12 hall
    refine lp_step ?_
    refine seq_reg ?_
    simp only [go_sem, binC, e11, e12]
    refine seq_cond (t := false) (by simp only [go_sem, binC]; rw [decide_eq_false (by omega)]) ?_
    simp only [go_sem, binC]
    refine seq_exit ?_
    simp only [go_sem, binC, thenX_e]
    refine hK1 _ _ ?_
    rw [hall, List.drop_of_length_le (by omega)]
    rfl
  | succ k ih =>
    intro i e M hi e2 e3 e10 e11 e12 hall
    have hil : i < l.length := by omega
    rcases h2 with h2 | ⟨b, o, hab, h2⟩
    · rw [h2] at hil; simp at hil
    subst hab
    obtain ⟨cs, h3, h4⟩ := h2 i hil
    have hsm := hs.2 _ (List.getElem_mem hil)
    rw [List.drop_eq_getElem_cons hil, List.all_cons] at hall
    generalize l[i] = x at h4 hsm hall
    obtain ⟨a0, a1, ⟨a2, a3, a4⟩, a5, a6, a7⟩ := x
    obtain ⟨_, _, rfl, ⟨rfl, b0⟩, _, _, rfl, ⟨rfl, b1⟩, _, _, rfl, ⟨_, _, rfl, ⟨rfl, b2⟩, _, _, rfl, ⟨rfl, b3⟩, ⟨rfl, b4⟩⟩, _, _, rfl, ⟨rfl, b5⟩, _, _, rfl, ⟨v6, rfl, r6⟩, ⟨v7, rfl, r7⟩⟩ := h4
    obtain ⟨s0, s1, s2, s3, s6, s7⟩ := hsm
    have r6c := r6
    have r7c := r7
    obtain ⟨u6, x6⟩ := r6.shape
    subst x6
    obtain ⟨u7, x7⟩ := r7.shape
    subst x7
    have ha : IntKind.i64.wrap ((a6.length : Int) + (a7.length : Int)) = (a6.length : Int) + (a7.length : Int) := by
      have h6 : a6.length ≤ 1048576 := s6.1
      have h7 : a7.length ≤ 1048576 := s7.1
      exact wrap_id (by omega) (by omega)
    have g3c := fun L => rng_gc (rng_sub (vw_app 0 H L) h3)
    rw [step_w] at g3c
    simp only [go_sem, binC] at g3c
    have hw1 : IntKind.i64.wrap ((i : Int) + 1) = ((i + 1 : Nat) : Int) := by rw [wrap_id (by omega) (by omega)]; omega
    refine lp_step ?_
    refine seq_reg ?_
    simp only [go_sem, binC, e11, e12]
    refine seq_cond (t := true) (by simp only [go_sem, binC]; rw [decide_eq_true (by omega)]) ?_
    simp only [go_sem, binC]
    refine seq_skip (seq_block (seq_reg ?_))
    simp only [go_sem, binC, e10, e12, g3c]
    refine ⟨⟨by omega, by omega⟩, ?_⟩
    have hE : ∀ L, getCells (H ++ L) H.length 0 2 = inBlk L[0]? 0 2 := fun L => gc_new0 H L 0 2
    refine seq_assoc (seq_reg ?_)
    unfold c_tests
    refine seg1 (c := H.length + (M.length + 1)) (b := H.length) (m := m) (d := d) (a1 := a1) g1 (hp _) (by simp only [go_sem, binC, e2]) (by simp only [go_sem, binC, e3]) (by simp only [go_sem, binC]) (by simp only [go_sem, binC]) (by simp only [go_sem, binC]) (fun x1 m1 t1 => ?_)
    refine seg2 (c := H.length + (M.length + 1)) (a0 := a0) (a2 := a2) (a3 := a3) (a4 := a4) t1 (by rw [m1.2.2.1]; simp only [go_sem, binC]) (by simp only [go_sem, binC]) (by simp only [go_sem, binC]) (fun x2 m2 t2 => ?_)
    refine seg3 (c := H.length + (M.length + 1)) (a0 := a0) (a5 := a5) t2 (by rw [m2.2.2.1, m1.2.2.1]; simp only [go_sem, binC]) (by simp only [go_sem, binC]) (by simp only [go_sem, binC]) (fun x3 m3 t3 => ?_)
    refine seg4 (c := H.length + (M.length + 1)) (a0 := a0) (n6 := a6.length) (n7 := a7.length) (u6 := u6) (u7 := u7) t3 (by rw [m3.2.2.1, m2.2.2.1, m1.2.2.1]; simp only [go_sem, binC]) (by simp only [go_sem, binC]) (by simp only [go_sem, binC]) (by simp only [go_sem, binC]) ha (fun x4 m4 t4 => ?_)
    have mm := (m1.trans m2).trans (m3.trans m4)
    obtain ⟨y2, y3, y8, y10, y11, y12⟩ := mm
    simp only [go_sem, binC] at y2 y3 y8 y10 y11 y12
    rw [e2] at y2
    rw [e3] at y3
    rw [e10] at y10
    rw [e11] at y11
    rw [e12] at y12
    simp only [go_sem, binC]
    obtain ⟨T, hT, t5⟩ : ∃ T, T = _ ∧ x4 60 = .bool T := ⟨_, rfl, t4⟩
    cases T with
    | true =>
      refine seq_cond (t := true) (by simp only [go_sem, binC, t5]) ?_
      simp only [go_sem, binC]
      refine seq_assoc (seq_reg ?_)
      simp only [go_sem, binC]
      refine seq_ret ?_
      simp only [go_sem, binC, out_r, thenX_r]
      refine hK2 _ _ (by simp only [go_sem, binC]) ?_
      rw [hall, step_bad hT.symm, Bool.false_and]
    | false =>
      refine seq_cond (t := false) (by simp only [go_sem, binC, t5]) ?_
      simp only [go_sem, binC]
      refine seq_skip ?_
      have hd1 : 1 ≤ d := by
        by_cases h1 : d < 1
        · rw [decide_eq_true h1] at hT; simp at hT
        · omega
      refine rest_ok (m := m) (p := (p0, p1)) (b := H.length) (c := H.length + (M.length + 1)) (d := d) (a0 := a0) (a1 := a1) (a2 := a2) (a3 := a3) (a4 := a4) (a5 := a5) (a6 := a6) (a7 := a7) g2 g4 g3 (hp _) ⟨_, rfl, _, _, rfl, ⟨rfl, b2⟩, _, _, rfl, ⟨rfl, b3⟩, ⟨rfl, b4⟩⟩ (r6c.mono (vw_app 0 H _)) (r7c.mono (vw_app 0 H _)) s6 s7 hd1 hd3 hd y2 y3 y8 (by simp only [go_sem, binC]) (by simp only [go_sem, binC]) (by simp only [go_sem, binC]) (by simp only [go_sem, binC]) (by simp only [go_sem, binC]) (by simp only [go_sem, binC]) ?_ ?_
      · intro e5 m5 hg
        obtain ⟨z2, z3, z8, z10, z11, z12⟩ := m5
        simp only [go_sem, binC, out_n, thenX_n]
        refine wpc_reg ?_
        simp only [go_sem, binC, z12, y12, hw1, thenX_n]
        refine ih (i + 1) _ _ (by omega) ?_ ?_ ?_ ?_ ?_ ?_
        · simp only [go_sem, binC, z2, y2]
        · simp only [go_sem, binC, z3, y3]
        · simp only [go_sem, binC, z10, y10]
        · simp only [go_sem, binC, z11, y11]
        · simp only [go_sem, binC]
        · rw [hall, step_good hT.symm hg, Bool.true_and]
      · intro e5 h6 hg
        simp only [go_sem, binC, out_r, thenX_r]
        refine hK2 _ _ h6 ?_
        rw [hall, step_bad2 hg, Bool.false_and]
end Go.Proofs.YtfngbmibeplgiaaI
end
section
/- The program's test of steps, for steps of any depth. -/
set_option linter.unusedVariables false
set_option linter.unusedSimpArgs false
namespace Go.Proofs.YtfngbmibeplgiaaI
open Go Go.RowKit
theorem iSteps_succ {F : Nat → Option IFn} {f n : Nat} (hf : F f = some c_iSteps) (g1 : VarOk F 40) (g2 : ValOk F 113) (g4 : ∀ (H : Heap) (a : Int), QC F 41 [.int .i64 a] H (.bool (inB a 0 2))) (g3 : StepsOk F 79 n) : StepsOk F f (n + 1) := by
  rintro H m v u ⟨p0, p1⟩ l d hp0 hu hs hd0 hd3
  obtain ⟨pc, hpc, _, _, rfl, ⟨v0, rfl, r0⟩, ⟨v1, rfl, r1⟩⟩ := hp0
  have hp : ∀ L, Rd (Co.prog m) true (vw 0 (H ++ L)) (.agg #[v0, v1]) (p0, p1) := fun L => ⟨_, rfl, _, _, rfl, ⟨_, rfl, r0.mono (vw_app 0 H L)⟩, ⟨_, rfl, r1.mono (vw_app 0 H L)⟩⟩
  simp only [go_sem, binC, Option.some.injEq] at hpc
  subst hpc
  have r0c := r0
  have r1c := r1
  obtain ⟨_, x0⟩ := r0.shape
  subst x0
  obtain ⟨_, x1⟩ := r1.shape
  subst x1
  obtain ⟨a, xa⟩ := hu.shape
  subst xa
  refine QC.mk hf rfl ?_
  refine seq_reg ?_
  simp only [go_sem, binC]
  refine seq_assoc (seq_reg ?_)
  simp only [go_sem, binC]
  refine seq_block (wpc_loop ?_)
  refine iSteps_lp g1 g2 g4 g3 hp hu hs hd0 hd3 ?_ ?_ l.length 0 _ [] (by omega) (by simp only [go_sem, binC]) (by simp only [go_sem, binC]) (by simp only [go_sem, binC]) (by simp only [go_sem, binC]) (by simp only [go_sem, binC]; rfl) rfl
  · intro e1 M hall
    simp only [go_sem, binC, out_e, thenX_n]
    refine seq_reg ?_
    simp only [go_sem, binC]
    exact wpc_ret ⟨Or.inr rfl, .bool true, by simp only [go_sem, binC], by rw [hall], rfl⟩
  · intro e1 M h6 hall
    simp only [go_sem, binC, out_r, thenX_r]
    exact ⟨Or.inr rfl, .bool false, by simp only [go_sem, binC, h6], by rw [hall], rfl⟩
theorem iSteps_z {F : Nat → Option IFn} {f : Nat} (hf : F f = some c_iSteps) : StepsOk F f 0 := by
  rintro H m v u ⟨p0, p1⟩ l d hp0 hu hs hd0 hd3
  obtain ⟨pc, hpc, _, _, rfl, ⟨v0, rfl, r0⟩, ⟨v1, rfl, r1⟩⟩ := hp0
  have hp : ∀ L, Rd (Co.prog m) true (vw 0 (H ++ L)) (.agg #[v0, v1]) (p0, p1) := fun L => ⟨_, rfl, _, _, rfl, ⟨_, rfl, r0.mono (vw_app 0 H L)⟩, ⟨_, rfl, r1.mono (vw_app 0 H L)⟩⟩
  simp only [go_sem, binC, Option.some.injEq] at hpc
  subst hpc
  have r0c := r0
  have r1c := r1
  obtain ⟨_, x0⟩ := r0.shape
  subst x0
  obtain ⟨_, x1⟩ := r1.shape
  subst x1
  obtain ⟨a, xa⟩ := hu.shape
  subst xa
  have hl : l = [] := by
    cases l with
    | nil => rfl
    | cons x r => exact x.elim
  subst hl
  refine QC.mk hf rfl ?_
  refine seq_reg ?_
  simp only [go_sem, binC]
  refine seq_assoc (seq_reg ?_)
  simp only [go_sem, binC]
  refine seq_block (wpc_loop (lp_step ?_))
  refine seq_reg ?_
  simp only [go_sem, binC]
  refine seq_cond (t := false) (by simp only [go_sem, binC]; rw [decide_eq_false (by simp)]) ?_
  simp only [go_sem, binC]
  refine seq_exit ?_
  simp only [go_sem, binC, thenX_e, out_e, thenX_n]
  refine seq_reg ?_
  simp only [go_sem, binC]
  exact wpc_ret ⟨Or.inr rfl, .bool true, by simp only [go_sem, binC], rfl, rfl⟩
theorem iSteps_all {F : Nat → Option IFn} (hf : F 79 = some c_iSteps) (g1 : VarOk F 40) (g2 : ValOk F 113) (g4 : ∀ (H : Heap) (a : Int), QC F 41 [.int .i64 a] H (.bool (inB a 0 2))) : ∀ n, StepsOk F 79 n := by
  intro n
  induction n with
  | zero => exact iSteps_z hf
  | succ n ih => exact iSteps_succ hf g1 g2 g4 ih
end Go.Proofs.YtfngbmibeplgiaaI
end
section
/- Slices of what is opened with one fuel less. -/
set_option linter.unusedVariables false
set_option linter.unusedSimpArgs false
namespace Go.Proofs.YtfngbmibeplgiaaI
open Go Go.RowKit Go.ChangeShapes
section
variable {T : Type} {enc : TypeId × Value → T} {P : Program} {w : World} {spare : Nat → Bool} {held : Bool}
theorem Good.slF {α : Type} {A : Co α} {fuel : Nat} {t e : TypeId} {cs : List Value} {x : DataW T × List MemPlace} (ht : P.underlying t = some (.slice e)) (hw : P.cellsOf e = A.w) (h0 : 0 < A.w)
    (h : DataW.trod enc P w 0 spare held fuel t cs = some x) (he : ∀ n cs x, fuel = n + 1 → DataW.trod enc P w 0 spare held n e cs = some x → Good A w cs) : Good (Co.sl A) w cs := by
  rcases DataW.trod_slice ht h with ⟨rfl, _⟩ | ⟨a, len, cap, elems, rest, n, rfl, rfl, _, _, hl, hm, hlen, hel, _, _⟩
  · exact fun H m s => ⟨[], [], m, [.slice none 0 0], by simpa using s, sub_refl m, ⟨_, rfl, by simp, none, rfl, .inl rfl⟩, All2.cons (.inl ⟨rfl, rfl⟩) All2.nil⟩
  intro H m s
  rcases Nat.eq_zero_or_pos len with hz | hpos
  · subst hz
    exact ⟨[], [], m, [.slice (some ⟨0, 1, none⟩) 0 0], by simpa using s, sub_refl m, ⟨_, rfl, by simp, _, rfl, .inl rfl⟩, All2.cons (.inl (.inr ⟨rfl, by simp, _, _, rfl⟩)) All2.nil⟩
  have key : ∀ k, k ≤ len → ∃ (l : List α) (L : Heap) (m' : MM) (big : List Value), l.length = k ∧ big.length = k * A.w ∧ SL m' (H ++ L) w.heap ∧ m.sub m' ∧
      (∀ i (h : i < l.length), A.rd (vw 0 (H ++ L)) ((big.drop (i * A.w)).take A.w) l[i]) ∧ (∀ j v, big[j]? = some v → ∃ v', w.cell? (a.add j) = some v' ∧ VR1 m' v v') := by
    intro k
    induction k with
    | zero => exact fun _ => ⟨[], [], m, [], rfl, by simp, by simpa using s, sub_refl m, fun i h => by simp at h, fun j v h => by simp at h⟩
    | succ k ih =>
      intro hk
      obtain ⟨l, L, m1, big, h1, h2, h3, h4, h5, h6⟩ := ih (by omega)
      have hk' := hel k (by omega)
      have hke : k < elems.length := by omega
      rw [List.getElem?_eq_getElem hke, Option.bind_eq_some_iff, hw] at hk'
      obtain ⟨ck, hc, hd⟩ := hk'
      obtain ⟨b, L2, m2, c2, s2, q2, r2, e2⟩ := he n ck _ rfl hd (H ++ L) m1 h3
      have hcl := A.len r2
      rw [List.append_assoc] at s2 r2
      refine ⟨l ++ [b], L ++ L2, m2, big ++ c2, by simp [h1], by rw [List.length_append, h2, hcl, Nat.succ_mul], s2, sub_trans h4 q2, ?_, ?_⟩
      · intro i hi
        simp only [List.length_append, List.length_cons, List.length_nil, Nat.zero_add] at hi
        by_cases hik : i < l.length
        · have hb : i * A.w + A.w ≤ big.length := by rw [h2, ← Nat.succ_mul]; exact Nat.mul_le_mul_right _ (by omega)
          rw [List.getElem_append_left hik, List.drop_append_of_le_length (by omega), List.take_append_of_le_length (by rw [List.length_drop]; omega)]
          exact A.mono (by rw [← List.append_assoc]; exact vw_app 0 _ _) (h5 i hik)
        · have hik' : i = k := by omega
          subst hik'
          rw [List.getElem_append_right (by omega)]
          have : big.length = i * A.w := h2
          rw [← this, List.drop_left, List.take_of_length_le (by omega)]
          simpa [h1] using r2
      · intro j v hj
        rcases Nat.lt_or_ge j big.length with hjl | hjl
        · rw [List.getElem?_append_left hjl] at hj
          obtain ⟨v', g1, g2⟩ := h6 j v hj
          exact ⟨v', g1, VR1.mono q2 g2⟩
        · rw [List.getElem?_append_right hjl] at hj
          have hj2 : j - big.length < c2.length := (List.getElem?_eq_some_iff.1 hj).1
          obtain ⟨_, _, hcell⟩ := World.cells?_some hc
          have hj3 := hcell (j - big.length) (by omega)
          rw [add_add, ← h2, show big.length + (j - big.length) = j by omega] at hj3
          have hl2 : c2.length = ck.length := e2.1
          have hj4 : j - big.length < ck.length := by omega
          obtain ⟨y, hy, hr⟩ := e2.2 (j - big.length) v hj
          exact ⟨y, hj3.trans hy, hr⟩
  obtain ⟨l, L, m1, big, h1, h2, h3, h4, h5, h6⟩ := key len (Nat.le_refl _)
  have hbig : 0 < big.length := by rw [h2]; exact Nat.mul_pos hpos h0
  obtain ⟨v0, hv0, _⟩ := h6 0 _ (List.getElem?_eq_getElem hbig)
  obtain ⟨cs0, t0, fr0, g1, _, g3⟩ := cell_at hv0
  have hsp := g3 rfl
  have hblt : a.block < w.heap.size := (Array.getElem?_eq_some_iff.1 g1).1
  have hsub : m1.sub (m1.put (H ++ L).length ⟨a.block, a.off, 0, 0, 0⟩) := by
    intro b x hb
    have := h3.dom b x hb
    simp only [MM.put]
    rw [if_neg (by omega)]
    exact hb
  refine ⟨l, L ++ [⟨big, 0, 0, false, false⟩], m1.put (H ++ L).length ⟨a.block, a.off, 0, 0, 0⟩, [.slice (some ⟨(H ++ L).length, 0, none⟩) l.length l.length], ?_, sub_trans h4 hsub, ?_, ?_⟩
  · rw [← List.append_assoc]
    refine ⟨?_, ?_, ?_, ?_⟩
    · intro b x hb
      rcases MM.put_eq hb with ⟨rfl, _⟩ | ⟨_, hb⟩
      · simp
      · have := h3.dom b x hb
        rw [List.length_append]; omega
    · intro b x k hb hk
      rcases MM.put_eq hb with ⟨rfl, rfl⟩ | ⟨_, hb⟩
      · rw [List.getElem?_append_right (Nat.le_refl _)] at hk
        simp only [Nat.sub_self, List.getElem?_cons_zero, Option.some.injEq] at hk
        subst hk
        refine ⟨cs0, t0, fr0, g1, fun j v hj => ?_⟩
        obtain ⟨v', u1, u2⟩ := h6 j v hj
        obtain ⟨cs1, t1, fr1, y1, y2, _⟩ := cell_at u1
        rw [g1] at y1
        cases y1
        exact ⟨v', y2, VR1.mono hsub u2⟩
      · rw [List.getElem?_append_left (h3.dom b x hb)] at hk
        obtain ⟨c1, t1, f1, y1, y2⟩ := h3.cell b x k hb hk
        exact ⟨c1, t1, f1, y1, fun j v hj => let ⟨v', z1, z2⟩ := y2 j v hj; ⟨v', z1, VR1.mono hsub z2⟩⟩
    · intro b x hb
      rcases MM.put_eq hb with ⟨rfl, rfl⟩ | ⟨_, hb⟩
      · exact hblt
      · exact h3.lt b x hb
    · intro b k hk
      rcases get_snoc hk with ⟨_, hk⟩ | ⟨_, rfl⟩
      · exact h3.na b k hk
      · rfl
  · refine ⟨_, rfl, ?_, _, rfl, .inr ⟨_, _, rfl, fun i hi => ⟨_, ?_, A.mono (by rw [← List.append_assoc]; exact vw_app 0 _ _) (h5 i hi)⟩⟩⟩
    · have : maxLen = 9223372036854775807 := by decide
      omega
    · have hb : i * A.w + A.w ≤ big.length := by rw [h2, ← Nat.succ_mul]; exact Nat.mul_le_mul_right _ (by omega)
      unfold rng vw
      rw [if_pos (Nat.zero_le _), ← List.append_assoc, get_new0]
      simp only [List.getElem?_cons_zero, Option.map_some, Nat.zero_add]
      rw [if_pos hb]
  · refine All2.cons (.inl (.inl ⟨_, MM.put_self _ _ _, rfl, cap, ?_, by omega, fun _ => by simp⟩)) All2.nil
    obtain ⟨ab, ao, asp⟩ := a
    simp only at hsp
    subst hsp
    rw [h1]
    rfl
end
def dF : Nat → Nat
  | 0 => 0
  | 1 => 0
  | n + 2 => dF n + 1
end Go.Proofs.YtfngbmibeplgiaaI
end
section
/- The functions that the laws FnPlanHomeMore and FnPlanHome reach, as ideal functions. -/
set_option linter.unusedVariables false
set_option linter.unusedSimpArgs false
namespace Go.Proofs.YtfngbmibeplgiaaI
open Go Go.RowKit
def fnOf : Nat → Option IFn
  | 3 => some (c_lawHM)
  | 4 => some (c_lawPHo)
  | 12 => some (c_drHome)
  | 13 => some (c_iPlanHome)
  | 14 => some (c_sHome)
  | 15 => some (c_lcHas)
  | 34 => some (c_l6Open)
  | 35 => some (c_drAny)
  | 36 => some (c_drTrusts)
  | 37 => some (c_pick)
  | 38 => some (c_iProg)
  | 39 => some (c_iTrusts)
  | 40 => some (c_iVar)
  | 41 => some (c_iHost)
  | 42 => some (c_iHomeM)
  | 43 => some (c_sProg)
  | 44 => some (c_sTrusts)
  | 45 => some (c_sVar)
  | 46 => some (c_sIn)
  | 47 => some (c_sHas)
  | 48 => some (c_sWithin)
  | 49 => some (c_sBy)
  | 59 => some (c_iIn)
  | 60 => some (c_iSize)
  | 72 => some (c_drProg)
  | 73 => some (c_drFine)
  | 74 => some (c_drBent)
  | 75 => some (c_sEither)
  | 76 => some (c_con)
  | 77 => some (c_p1)
  | 78 => some (c_iLabelOk)
  | 79 => some (c_iSteps)
  | 80 => some (c_iSet)
  | 81 => some (c_iHas)
  | 82 => some (c_iWithin)
  | 83 => some (c_iBy)
  | 84 => some (c_sLabelOk)
  | 85 => some (c_sSteps)
  | 86 => some (c_sCount)
  | 87 => some (c_sSet)
  | 88 => some (c_sAll)
  | 90 => some (c_sAllSteps)
  | 91 => some (c_sTypeAt)
  | 104 => some (c_sWhy)
  | 107 => some (c_drLabel)
  | 108 => some (c_drSteps)
  | 109 => some (c_sWithout)
  | 110 => some (c_sCopy)
  | 111 => some (c_sBoth)
  | 112 => some (c_idx)
  | 113 => some (c_iVal)
  | 114 => some (c_sStep)
  | 115 => some (c_sAt)
  | 116 => some (c_sAny)
  | 124 => some (c_sFine)
  | 125 => some (c_drVal)
  | 126 => some (c_iNum)
  | 127 => some (c_sVal)
  | 128 => some (c_sLBoth)
  | 130 => some (c_sFlows)
  | 131 => some (c_sValL)
  | _ => none
def cmOf (f : Nat) : CM := ⟨fun g => if [3, 4, 13, 14, 15, 38, 39, 40, 41, 42, 43, 44, 45, 46, 47, 48, 49, 59, 60, 75, 76, 77, 78, 79, 80, 81, 82, 83, 84, 85, 86, 87, 88, 104, 111, 112, 113, 114, 116, 124, 126, 127, 128, 130, 131].contains g then .q else if [34, 35, 36, 37, 72, 73, 74, 107, 108, 115, 125].contains g then .n else .k, if [34, 35, 36, 37, 72, 73, 74, 107, 108, 115, 125].contains f then .n else .q, [36].contains f⟩
theorem hF3 : cFn Try.prog cmOf 3 = some (c_lawHM) := by kernel_rfl
theorem hF4 : cFn Try.prog cmOf 4 = some (c_lawPHo) := by kernel_rfl
theorem hF12 : cFn Try.prog cmOf 12 = some (c_drHome) := by kernel_rfl
theorem hF13 : cFn Try.prog cmOf 13 = some (c_iPlanHome) := by kernel_rfl
theorem hF14 : cFn Try.prog cmOf 14 = some (c_sHome) := by kernel_rfl
theorem hF15 : cFn Try.prog cmOf 15 = some (c_lcHas) := by kernel_rfl
theorem hF34 : cFn Try.prog cmOf 34 = some (c_l6Open) := by kernel_rfl
theorem hF35 : cFn Try.prog cmOf 35 = some (c_drAny) := by kernel_rfl
theorem hF36 : cFn Try.prog cmOf 36 = some (c_drTrusts) := by kernel_rfl
theorem hF37 : cFn Try.prog cmOf 37 = some (c_pick) := by kernel_rfl
theorem hF38 : cFn Try.prog cmOf 38 = some (c_iProg) := by kernel_rfl
theorem hF39 : cFn Try.prog cmOf 39 = some (c_iTrusts) := by kernel_rfl
theorem hF40 : cFn Try.prog cmOf 40 = some (c_iVar) := by kernel_rfl
theorem hF41 : cFn Try.prog cmOf 41 = some (c_iHost) := by kernel_rfl
theorem hF42 : cFn Try.prog cmOf 42 = some (c_iHomeM) := by kernel_rfl
theorem hF43 : cFn Try.prog cmOf 43 = some (c_sProg) := by kernel_rfl
theorem hF44 : cFn Try.prog cmOf 44 = some (c_sTrusts) := by kernel_rfl
theorem hF45 : cFn Try.prog cmOf 45 = some (c_sVar) := by kernel_rfl
theorem hF46 : cFn Try.prog cmOf 46 = some (c_sIn) := by kernel_rfl
theorem hF47 : cFn Try.prog cmOf 47 = some (c_sHas) := by kernel_rfl
theorem hF48 : cFn Try.prog cmOf 48 = some (c_sWithin) := by kernel_rfl
theorem hF49 : cFn Try.prog cmOf 49 = some (c_sBy) := by kernel_rfl
theorem hF59 : cFn Try.prog cmOf 59 = some (c_iIn) := by kernel_rfl
theorem hF60 : cFn Try.prog cmOf 60 = some (c_iSize) := by kernel_rfl
theorem hF72 : cFn Try.prog cmOf 72 = some (c_drProg) := by kernel_rfl
theorem hF73 : cFn Try.prog cmOf 73 = some (c_drFine) := by kernel_rfl
theorem hF74 : cFn Try.prog cmOf 74 = some (c_drBent) := by kernel_rfl
theorem hF75 : cFn Try.prog cmOf 75 = some (c_sEither) := by kernel_rfl
theorem hF76 : cFn Try.prog cmOf 76 = some (c_con) := by kernel_rfl
theorem hF77 : cFn Try.prog cmOf 77 = some (c_p1) := by kernel_rfl
theorem hF78 : cFn Try.prog cmOf 78 = some (c_iLabelOk) := by kernel_rfl
theorem hF79 : cFn Try.prog cmOf 79 = some (c_iSteps) := by kernel_rfl
theorem hF80 : cFn Try.prog cmOf 80 = some (c_iSet) := by kernel_rfl
theorem hF81 : cFn Try.prog cmOf 81 = some (c_iHas) := by kernel_rfl
theorem hF82 : cFn Try.prog cmOf 82 = some (c_iWithin) := by kernel_rfl
theorem hF83 : cFn Try.prog cmOf 83 = some (c_iBy) := by kernel_rfl
theorem hF84 : cFn Try.prog cmOf 84 = some (c_sLabelOk) := by kernel_rfl
theorem hF85 : cFn Try.prog cmOf 85 = some (c_sSteps) := by kernel_rfl
theorem hF86 : cFn Try.prog cmOf 86 = some (c_sCount) := by kernel_rfl
theorem hF87 : cFn Try.prog cmOf 87 = some (c_sSet) := by kernel_rfl
theorem hF88 : cFn Try.prog cmOf 88 = some (c_sAll) := by kernel_rfl
theorem hF90 : cFn Try.prog cmOf 90 = some (c_sAllSteps) := by kernel_rfl
theorem hF91 : cFn Try.prog cmOf 91 = some (c_sTypeAt) := by kernel_rfl
theorem hF104 : cFn Try.prog cmOf 104 = some (c_sWhy) := by kernel_rfl
theorem hF107 : cFn Try.prog cmOf 107 = some (c_drLabel) := by kernel_rfl
theorem hF108 : cFn Try.prog cmOf 108 = some (c_drSteps) := by kernel_rfl
theorem hF109 : cFn Try.prog cmOf 109 = some (c_sWithout) := by kernel_rfl
theorem hF110 : cFn Try.prog cmOf 110 = some (c_sCopy) := by kernel_rfl
theorem hF111 : cFn Try.prog cmOf 111 = some (c_sBoth) := by kernel_rfl
theorem hF112 : cFn Try.prog cmOf 112 = some (c_idx) := by kernel_rfl
theorem hF113 : cFn Try.prog cmOf 113 = some (c_iVal) := by kernel_rfl
theorem hF114 : cFn Try.prog cmOf 114 = some (c_sStep) := by kernel_rfl
theorem hF115 : cFn Try.prog cmOf 115 = some (c_sAt) := by kernel_rfl
theorem hF116 : cFn Try.prog cmOf 116 = some (c_sAny) := by kernel_rfl
theorem hF124 : cFn Try.prog cmOf 124 = some (c_sFine) := by kernel_rfl
theorem hF125 : cFn Try.prog cmOf 125 = some (c_drVal) := by kernel_rfl
theorem hF126 : cFn Try.prog cmOf 126 = some (c_iNum) := by kernel_rfl
theorem hF127 : cFn Try.prog cmOf 127 = some (c_sVal) := by kernel_rfl
theorem hF128 : cFn Try.prog cmOf 128 = some (c_sLBoth) := by kernel_rfl
theorem hF130 : cFn Try.prog cmOf 130 = some (c_sFlows) := by kernel_rfl
theorem hF131 : cFn Try.prog cmOf 131 = some (c_sValL) := by kernel_rfl
theorem hF (g : Nat) (fn : IFn) (h : fnOf g = some fn) : cFn Try.prog cmOf g = some fn := by
  unfold fnOf at h
  split at h
  · rw [← h]; exact hF3
  · rw [← h]; exact hF4
  · rw [← h]; exact hF12
  · rw [← h]; exact hF13
  · rw [← h]; exact hF14
  · rw [← h]; exact hF15
  · rw [← h]; exact hF34
  · rw [← h]; exact hF35
  · rw [← h]; exact hF36
  · rw [← h]; exact hF37
  · rw [← h]; exact hF38
  · rw [← h]; exact hF39
  · rw [← h]; exact hF40
  · rw [← h]; exact hF41
  · rw [← h]; exact hF42
  · rw [← h]; exact hF43
  · rw [← h]; exact hF44
  · rw [← h]; exact hF45
  · rw [← h]; exact hF46
  · rw [← h]; exact hF47
  · rw [← h]; exact hF48
  · rw [← h]; exact hF49
  · rw [← h]; exact hF59
  · rw [← h]; exact hF60
  · rw [← h]; exact hF72
  · rw [← h]; exact hF73
  · rw [← h]; exact hF74
  · rw [← h]; exact hF75
  · rw [← h]; exact hF76
  · rw [← h]; exact hF77
  · rw [← h]; exact hF78
  · rw [← h]; exact hF79
  · rw [← h]; exact hF80
  · rw [← h]; exact hF81
  · rw [← h]; exact hF82
  · rw [← h]; exact hF83
  · rw [← h]; exact hF84
  · rw [← h]; exact hF85
  · rw [← h]; exact hF86
  · rw [← h]; exact hF87
  · rw [← h]; exact hF88
  · rw [← h]; exact hF90
  · rw [← h]; exact hF91
  · rw [← h]; exact hF104
  · rw [← h]; exact hF107
  · rw [← h]; exact hF108
  · rw [← h]; exact hF109
  · rw [← h]; exact hF110
  · rw [← h]; exact hF111
  · rw [← h]; exact hF112
  · rw [← h]; exact hF113
  · rw [← h]; exact hF114
  · rw [← h]; exact hF115
  · rw [← h]; exact hF116
  · rw [← h]; exact hF124
  · rw [← h]; exact hF125
  · rw [← h]; exact hF126
  · rw [← h]; exact hF127
  · rw [← h]; exact hF128
  · rw [← h]; exact hF130
  · rw [← h]; exact hF131
  · cases h
theorem hMixed : Try.prog.follows .mixedOrders = true := by kernel_rfl
theorem ok_iIn : ∀ (H : Heap) (a b c : Int), QC fnOf 59 [.int .i64 a, .int .i64 b, .int .i64 c] H (.bool (inB a b c)) := iIn_ok rfl
theorem ok_sIn : ∀ (H : Heap) (a b c : Int), QC fnOf 46 [.int .i64 a, .int .i64 b, .int .i64 c] H (.bool (inB a b c)) := sIn_ok rfl
theorem ok_iSet : ∀ (H : Heap) (a : Int), QC fnOf 80 [.int .i64 a] H (.bool (inB a 0 7)) := iSet_ok rfl ok_iIn
theorem ok_iHost : ∀ (H : Heap) (a : Int), QC fnOf 41 [.int .i64 a] H (.bool (inB a 0 2)) := iHost_ok rfl ok_iIn
theorem ok_iNum : ∀ (H : Heap) (a : Int), QC fnOf 126 [.int .i64 a] H (.bool (inB a 0 9)) := iNum_ok rfl ok_iIn
theorem ok_sAll : ∀ H, QC fnOf 88 [] H (.int .i64 7) := sAll_ok rfl
theorem ok_sSet : ∀ (H : Heap) (a : Int), QC fnOf 87 [.int .i64 a] H (.bool (inB a 0 7)) := sSet_ok rfl ok_sIn ok_sAll
theorem ok_iLabelOk : LabOk fnOf 78 := iLabelOk_ok rfl ok_iSet
theorem ok_sLabelOk : LabOk fnOf 84 := sLabelOk_ok rfl ok_sSet
theorem ok_iVar : VarOk fnOf 40 := iVar_ok rfl ok_iIn
theorem ok_sVar : VarOk fnOf 45 := sVar_ok rfl ok_sIn
theorem ok_iVal : ValOk fnOf 113 := iVal_ok rfl ok_iNum ok_iVar
theorem ok_sVal : ValOk fnOf 127 := sVal_ok rfl ok_sIn ok_sVar
theorem ok_sSteps : ∀ n, StepsOk fnOf 85 n := fun n => (sSteps_all rfl rfl ok_sIn ok_sVar ok_sVal n).1
theorem ok_iSteps : ∀ n, StepsOk fnOf 79 n := iSteps_all rfl ok_iVar ok_iVal ok_iHost
theorem ok_sCount : ∀ n, CntOk fnOf 86 n := cnt_all (fun _ h => sCount_ok rfl h) (sCount_z rfl)
theorem ok_iSize : ∀ n, CntOk fnOf 60 n := cnt_all (fun _ h => iSize_ok rfl h) (iSize_z rfl)
theorem ok_sProg : ProgOk fnOf 43 := sProg_ok rfl ok_sLabelOk ok_sSteps ok_sCount
theorem ok_iProg : ProgOk fnOf 38 := iProg_ok rfl (con_ok rfl (idx_ok rfl (p1_ok rfl ok_iLabelOk))) ok_iSteps ok_iSize
theorem ok_iHas : HasOk fnOf 81 := iHas_ok rfl ok_iHost
theorem ok_sHas : HasOk fnOf 47 := sHas_ok rfl
theorem ok_iTrusts : TrOk fnOf 39 := iTrusts_ok rfl ok_iSet ok_iHas
theorem ok_sTrusts : TrOk fnOf 44 := sTrusts_ok rfl ok_sSet ok_sHas
theorem ok_iBy : ByOk fnOf 83 := iBy_ok rfl ok_iHas
theorem ok_sBy : ByOk fnOf 49 := sBy_ok rfl ok_sHas
theorem ok_iWit : WitOk fnOf 82 := iWithin_ok rfl
theorem ok_sWit : WitOk fnOf 48 := sWithin_ok rfl ok_sHas
theorem ok_sHome : HomeOk fnOf 14 := sHome_ok rfl ok_sProg ok_sTrusts ok_sVar ok_sIn ok_sHas ok_sWit ok_sBy
theorem ok_iHome : HomeOk fnOf 13 := iPlanHome_ok rfl ok_iProg ok_iTrusts ok_iVar ok_iHost (iHomeM_ok rfl ok_iHas ok_iWit ok_iBy)
theorem ok_sBoth : BothOk fnOf 111 := sBoth_ok rfl ok_sHas
theorem ok_sLBoth : LBothOk fnOf 128 := sLBoth_ok rfl ok_sLabelOk ok_sBoth
theorem ok_sFlows : FlowsOk fnOf 130 := sFlows_ok rfl ok_sLabelOk ok_sWit
theorem ok_sAny : ∀ H, QC fnOf 116 [] H (.agg #[.int .i64 7, .int .i64 7]) := sAny_ok rfl ok_sAll
theorem ok_sFine : FineOk fnOf 124 := sFine_ok rfl (sValL_ok rfl ok_sAny ok_sLBoth) ok_sLBoth ok_sFlows ok_sBoth ok_sHas
theorem ok_sAllSteps : ∀ n, AllOk fnOf 90 n := sAllSteps_all rfl
theorem ok_sAt : ∀ n, AtOk fnOf 115 n := sAt_all rfl ok_sLBoth
theorem ok_sTypeAt : TypeAtOk fnOf 91 := sTypeAt_ok rfl ok_sProg ok_sAny ok_sAt
theorem ok_sWhy : WhyOk fnOf 104 := sWhy_ok rfl ok_sProg ok_sAllSteps ok_sTypeAt ok_sFine
theorem ok_sCopy : ∀ n, CopyOk fnOf 110 n := sCopy_all rfl
theorem ok_sWithout : ∀ n, WoOk fnOf 109 n := sWithout_all rfl ok_sCount
theorem ok_drProg {H0 : Heap} {rb : Nat} {bv : Value} {code : List Int} (hc : RdC H0 rb bv code) : DrawS fnOf H0 rb bv 72 [] 40000 (ProgQ 3) := drProg_ok rfl rfl rfl rfl rfl ok_sProg hc
theorem ok_drFine {H0 : Heap} {rb : Nat} {bv : Value} {code : List Int} (hc : RdC H0 rb bv code) : DrawS fnOf H0 rb bv 73 [] 40000 (ProgQ 3) := drFine_ok rfl hc (ok_drProg hc) ok_sWhy ok_sWithout
theorem ok_drTrusts {H0 : Heap} {rb : Nat} {bv : Value} {code : List Int} (hc : RdC H0 rb bv code) : DrawS fnOf H0 rb bv 36 [] 10 TrQ := drTrusts_ok rfl rfl (sEither_ok rfl ok_sBoth) hc
theorem ok_drAny {H0 : Heap} {rb : Nat} {bv : Value} {code : List Int} (hc : RdC H0 rb bv code) : DrawS fnOf H0 rb bv 35 [] 90000 ProgR := drAny_ok rfl rfl hc (ok_drProg hc) (ok_drFine hc) (drBent_ok rfl rfl ok_sCopy hc)
theorem ok_drHome : DrawHomeOk fnOf 12 := drHome_ok rfl rfl rfl ok_drAny ok_drTrusts ok_sHome
theorem ok_lawHM : LawB fnOf 3 := lawHM_ok rfl ok_drHome ok_iHome ok_sHome
theorem ok_lawPHo : LawB fnOf 4 := lawPHo_ok rfl ok_drHome ok_iHome ok_sHome (lcHas_ok rfl)
end Go.Proofs.YtfngbmibeplgiaaI
end
section
/- A law of one argument, a list of bytes, called in the model. -/
set_option linter.unusedVariables false
set_option linter.unusedSimpArgs false
namespace Go.Proofs.YtfngbmibeplgiaaI
open Go Go.RowKit
theorem Good.byte {w : World} {n : Int} (h : (Lit.int .u8 n).wf = true) : Good Co.byte w [.int .u8 n] := fun H m s =>
  ⟨n, [], m, [.int .u8 n], by simpa using s, sub_refl m, ⟨rfl, by simpa [Lit.wf, IntKind.min, IntKind.max, IntKind.signed, IntKind.bits] using h⟩, All2.cons (.inl rfl) All2.nil⟩
theorem good_5 {T : Type} {enc : TypeId × Value → T} {w : World} {spare : Nat → Bool} {held : Bool} {n : Nat} {cs : List Value} {x : DataW T × List MemPlace} (h : DataW.trod enc Try.prog w 0 spare held n 5 cs = some x) : Good Co.byte w cs := by
  obtain ⟨m, rfl, _, hw⟩ := DataW.trod_int Try.underlying5 h
  exact Good.byte hw
theorem good_22 {T : Type} {enc : TypeId × Value → T} {w : World} {spare : Nat → Bool} {held : Bool} {n : Nat} {cs : List Value} {x : DataW T × List MemPlace} (h : DataW.trod enc Try.prog w 0 spare held n 22 cs = some x) : Good (Co.sl Co.byte) w cs :=
  Good.sl Try.underlying22 (by kernel_rfl) (by decide) h fun _ _ _ _ h => good_5 h
theorem lawB_calls {n : Nat} (hl : LawB fnOf n) {W : World} {a : Option Addr} {l c : Nat} (g0 : Good (Co.sl Co.byte) W [.slice a l c]) :
    Calls Try.prog n #[.slice a l c] W fun e w' => e = .returned (.bool true) ∧ Below W.heap.size W w' := by
  obtain ⟨ts, L2, m2, cs1, s2, q2, r2, e2⟩ := g0 [] (fun _ => none) (SL.none _)
  obtain ⟨u, rfl, hu⟩ := r2
  exact law_core hF hMixed s2 (vals := [u]) (All2.cons (VR.one_mk e2) All2.nil) (hl _ u ts hu)
end Go.Proofs.YtfngbmibeplgiaaI
end
