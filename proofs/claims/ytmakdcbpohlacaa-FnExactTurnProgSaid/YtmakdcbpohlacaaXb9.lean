/- Texts of this proof, merged: V7, V8, V9X, H17, V12X, GL64, K17, CL64. -/
import Derived.Test.YtmakdcbpohlacaaXb7
import Derived.Test.YtmakdcbpohlacaaXb8
import Derived.Test.YtmakdcbpohlacaaRows
section
/- Tests of marked steps; marks and tests of programs of one's own. -/
set_option linter.unusedVariables false
set_option linter.unusedSimpArgs false
namespace Go.Proofs.YtmakdcbpohlacaaI
open Go Go.RowKit
def c_heldStepS : IFn := ⟨2, 88, [.t 4],
 .seq (.reg none [
    ⟨(some 4), none, .mov (.c (.int .i64 0))⟩])
 (.seq (.seq (.reg none [
     ⟨(some 5), none, .mov (.c (.int .i64 0))⟩])
  (.block 0 (.loop (.seq (.seq (.reg none [
        ⟨(some 6), none, .mov (.t 5)⟩,
        ⟨(some 7), none, .mov (.t 0)⟩,
        ⟨(some 8), none, .len (.t 7)⟩,
        ⟨(some 9), none, .bin .lss (.t 6) (.t 8)⟩])
     (.cond (.t 9) (.skip) (.exit 0)))
    (.seq (.block 1 (.seq (.seq (.reg none [
          ⟨(some 12), none, .mov (.t 0)⟩,
          ⟨(some 13), none, .mov (.t 5)⟩,
          ⟨(some 14), none, .iad 8 (.t 12) (.t 13)⟩,
          ⟨(some 15), none, .fad 0 (.t 14)⟩,
          ⟨(some 16), none, .load false 1 (.t 15)⟩,
          ⟨(some 17), none, .mov (.t 1)⟩,
          ⟨(some 18), none, .bin .neq (.t 16) (.t 17)⟩])
       (.cond (.t 18) (.seq (.reg none [
           ⟨(some 4), none, .mov (.c (.int .i64 (-1)))⟩])
        (.ret)) (.skip)))
      (.seq (.reg none [
         ⟨(some 19), none, .mov (.t 1)⟩,
         ⟨(some 20), none, .bin .add (.t 19) (.c (.int .i64 1))⟩,
         ⟨(some 1), none, .mov (.t 20)⟩])
      (.seq (.seq (.reg none [
          ⟨(some 21), none, .mov (.t 0)⟩,
          ⟨(some 22), none, .mov (.t 5)⟩,
          ⟨(some 23), none, .iad 8 (.t 21) (.t 22)⟩,
          ⟨(some 24), none, .fad 1 (.t 23)⟩,
          ⟨(some 25), none, .load false 1 (.t 24)⟩,
          ⟨(some 26), none, .mov (.t 1)⟩,
          ⟨(some 27), none, .bin .neq (.t 25) (.t 26)⟩])
       (.cond (.t 27) (.seq (.reg none [
           ⟨(some 4), none, .mov (.c (.int .i64 (-1)))⟩])
        (.ret)) (.skip)))
      (.seq (.reg none [
         ⟨(some 28), none, .mov (.t 1)⟩,
         ⟨(some 29), none, .bin .add (.t 28) (.c (.int .i64 1))⟩,
         ⟨(some 1), none, .mov (.t 29)⟩])
      (.seq (.seq (.reg none [
          ⟨(some 30), none, .mov (.t 0)⟩,
          ⟨(some 31), none, .mov (.t 5)⟩,
          ⟨(some 32), none, .iad 8 (.t 30) (.t 31)⟩,
          ⟨(some 33), none, .fad 2 (.t 32)⟩,
          ⟨(some 34), none, .fad 0 (.t 33)⟩,
          ⟨(some 35), none, .load false 1 (.t 34)⟩,
          ⟨(some 36), none, .mov (.t 1)⟩,
          ⟨(some 37), none, .bin .neq (.t 35) (.t 36)⟩])
       (.cond (.t 37) (.seq (.reg none [
           ⟨(some 4), none, .mov (.c (.int .i64 (-1)))⟩])
        (.ret)) (.skip)))
      (.seq (.reg none [
         ⟨(some 38), none, .mov (.t 1)⟩,
         ⟨(some 39), none, .bin .add (.t 38) (.c (.int .i64 1))⟩,
         ⟨(some 1), none, .mov (.t 39)⟩])
      (.seq (.seq (.reg none [
          ⟨(some 40), none, .mov (.t 0)⟩,
          ⟨(some 41), none, .mov (.t 5)⟩,
          ⟨(some 42), none, .iad 8 (.t 40) (.t 41)⟩,
          ⟨(some 43), none, .fad 2 (.t 42)⟩,
          ⟨(some 44), none, .fad 1 (.t 43)⟩,
          ⟨(some 45), none, .load false 1 (.t 44)⟩,
          ⟨(some 46), none, .mov (.t 1)⟩,
          ⟨(some 47), none, .bin .neq (.t 45) (.t 46)⟩])
       (.cond (.t 47) (.seq (.reg none [
           ⟨(some 4), none, .mov (.c (.int .i64 (-1)))⟩])
        (.ret)) (.skip)))
      (.seq (.reg none [
         ⟨(some 48), none, .mov (.t 1)⟩,
         ⟨(some 49), none, .bin .add (.t 48) (.c (.int .i64 1))⟩,
         ⟨(some 1), none, .mov (.t 49)⟩])
      (.seq (.seq (.reg none [
          ⟨(some 50), none, .mov (.t 0)⟩,
          ⟨(some 51), none, .mov (.t 5)⟩,
          ⟨(some 52), none, .iad 8 (.t 50) (.t 51)⟩,
          ⟨(some 53), none, .fad 2 (.t 52)⟩,
          ⟨(some 54), none, .fad 2 (.t 53)⟩,
          ⟨(some 55), none, .load false 1 (.t 54)⟩,
          ⟨(some 56), none, .mov (.t 1)⟩,
          ⟨(some 57), none, .bin .neq (.t 55) (.t 56)⟩])
       (.cond (.t 57) (.seq (.reg none [
           ⟨(some 4), none, .mov (.c (.int .i64 (-1)))⟩])
        (.ret)) (.skip)))
      (.seq (.reg none [
         ⟨(some 58), none, .mov (.t 1)⟩,
         ⟨(some 59), none, .bin .add (.t 58) (.c (.int .i64 1))⟩,
         ⟨(some 1), none, .mov (.t 59)⟩])
      (.seq (.seq (.reg none [
          ⟨(some 60), none, .mov (.t 0)⟩,
          ⟨(some 61), none, .mov (.t 5)⟩,
          ⟨(some 62), none, .iad 8 (.t 60) (.t 61)⟩,
          ⟨(some 63), none, .fad 5 (.t 62)⟩,
          ⟨(some 64), none, .load false 1 (.t 63)⟩,
          ⟨(some 65), none, .mov (.t 1)⟩,
          ⟨(some 66), none, .bin .neq (.t 64) (.t 65)⟩])
       (.cond (.t 66) (.seq (.reg none [
           ⟨(some 4), none, .mov (.c (.int .i64 (-1)))⟩])
        (.ret)) (.skip)))
      (.seq (.reg none [
         ⟨(some 67), none, .mov (.t 1)⟩,
         ⟨(some 68), none, .bin .add (.t 67) (.c (.int .i64 1))⟩,
         ⟨(some 1), none, .mov (.t 68)⟩])
      (.seq (.reg none [
         ⟨(some 69), none, .mov (.t 0)⟩,
         ⟨(some 70), none, .mov (.t 5)⟩,
         ⟨(some 71), none, .iad 8 (.t 69) (.t 70)⟩,
         ⟨(some 72), none, .fad 6 (.t 71)⟩,
         ⟨(some 73), none, .load false 1 (.t 72)⟩,
         ⟨(some 74), none, .mov (.t 1)⟩,
         ⟨(some 75), none, .call .q (.f 43) [(.t 73), (.t 74)]⟩,
         ⟨(some 1), none, .mov (.t 75)⟩])
      (.seq (.seq (.reg none [
          ⟨(some 76), none, .mov (.t 1)⟩,
          ⟨(some 77), none, .bin .lss (.t 76) (.c (.int .i64 0))⟩])
       (.cond (.t 77) (.seq (.reg none [
           ⟨(some 4), none, .mov (.c (.int .i64 (-1)))⟩])
        (.ret)) (.skip)))
      (.seq (.reg none [
         ⟨(some 78), none, .mov (.t 0)⟩,
         ⟨(some 79), none, .mov (.t 5)⟩,
         ⟨(some 80), none, .iad 8 (.t 78) (.t 79)⟩,
         ⟨(some 81), none, .fad 7 (.t 80)⟩,
         ⟨(some 82), none, .load false 1 (.t 81)⟩,
         ⟨(some 83), none, .mov (.t 1)⟩,
         ⟨(some 84), none, .call .q (.f 43) [(.t 82), (.t 83)]⟩,
         ⟨(some 1), none, .mov (.t 84)⟩])
      (.seq (.reg none [
         ⟨(some 85), none, .mov (.t 1)⟩,
         ⟨(some 86), none, .bin .lss (.t 85) (.c (.int .i64 0))⟩])
      (.cond (.t 86) (.seq (.reg none [
          ⟨(some 4), none, .mov (.c (.int .i64 (-1)))⟩])
       (.ret)) (.skip)))))))))))))))))))
    (.reg none [
      ⟨(some 10), none, .mov (.t 5)⟩,
      ⟨(some 11), none, .bin .add (.t 10) (.c (.int .i64 1))⟩,
      ⟨(some 5), none, .mov (.t 11)⟩]))))))
 (.seq (.reg none [
    ⟨(some 87), none, .mov (.t 1)⟩,
    ⟨(some 4), none, .mov (.t 87)⟩])
 (.ret)))⟩
def c_heldProg : IFn := ⟨2, 18, [.t 4],
 .seq (.reg none [
    ⟨(some 2), none, .box (.t 0)⟩,
    ⟨(some 4), none, .mov (.c (.int .i64 0))⟩])
 (.seq (.reg none [
    ⟨(some 5), none, .fad 0 (.t 2)⟩,
    ⟨(some 6), none, .load false 1 (.t 5)⟩,
    ⟨(some 7), none, .mov (.t 1)⟩,
    ⟨(some 8), none, .call .q (.f 42) [(.t 6), (.t 7)]⟩,
    ⟨(some 1), none, .mov (.t 8)⟩])
 (.seq (.seq (.reg none [
     ⟨(some 9), none, .mov (.t 1)⟩,
     ⟨(some 10), none, .bin .lss (.t 9) (.c (.int .i64 0))⟩])
  (.cond (.t 10) (.seq (.reg none [
      ⟨(some 4), none, .mov (.c (.int .i64 (-1)))⟩])
   (.ret)) (.skip)))
 (.seq (.reg none [
    ⟨(some 11), none, .fad 1 (.t 2)⟩,
    ⟨(some 12), none, .load false 1 (.t 11)⟩,
    ⟨(some 13), none, .mov (.t 1)⟩,
    ⟨(some 14), none, .call .q (.f 43) [(.t 12), (.t 13)]⟩,
    ⟨(some 1), none, .mov (.t 14)⟩])
 (.seq (.seq (.reg none [
     ⟨(some 15), none, .mov (.t 1)⟩,
     ⟨(some 16), none, .bin .lss (.t 15) (.c (.int .i64 0))⟩])
  (.cond (.t 16) (.seq (.reg none [
      ⟨(some 4), none, .mov (.c (.int .i64 (-1)))⟩])
   (.ret)) (.skip)))
 (.seq (.reg none [
    ⟨(some 17), none, .mov (.t 1)⟩,
    ⟨(some 4), none, .mov (.t 17)⟩])
 (.ret))))))⟩
def HeS (F : Nat → Option IFn) (f n : Nat) : Prop := ∀ (H : Heap) (v : Value) (l : List (TStep n)) (k : Int), SlR (Co.step n) (vw 0 H) v (mkL n k l) → 0 ≤ k → k + (cS n l : Nat) ≤ 9223372036854775807 → QC F f [v, .int .i64 k] H (.int .i64 (k + (cS n l : Nat)))
set_option maxHeartbeats 8000000 in
theorem heldS_ok {F : Nat → Option IFn} {n : Nat} (hf : F 43 = some c_heldStepS) (ih : ∀ m, n = m + 1 → HeS F 43 m) : HeS F 43 n := by
  intro H v l k hv hk hkn
  obtain ⟨h0, av, hav0, _⟩ := id hv
  rw [mkL_len] at hav0 h0
  subst hav0
  suffices h : ∃ w, QC F 43 [.slice av l.length l.length, .int .i64 k] H w ∧ w = .int .i64 (k + (cS n l : Nat)) by
    obtain ⟨w, h1, rfl⟩ := h
    exact h1
  refine QC.mkE hf rfl ?_
  refine seq_reg ?_
  simp only [go_sem, binC]
  refine seq_assoc (seq_reg ?_)
  simp only [go_sem, binC]
  refine seq_block (wpc_loop ?_)
  suffices h : ∀ (kk i : Nat) (e : Env), i + kk = l.length → e 0 = .slice av l.length l.length → e 5 = .int .i64 i → e 1 = .int .i64 (k + (((l.map (cT n)).take i).sum : Nat)) → W F H.length _ e H _ from
    h l.length 0 _ (by omega) (by simp only [go_sem, binC]) (by (simp only [go_sem, binC]) <;> rfl) (by simp only [go_sem, binC]; simp)
  unfold cS at hkn
  cases n with
  | zero =>
    have hl : l = [] := by
      cases l with
      | nil => rfl
      | cons s l => exact s.elim
    subst hl
    intro kk i e hi e0 e5 e1
    obtain rfl : i = 0 := by simp at hi; omega
    refine lp_step ?_
    refine seq_assoc (seq_reg ?_)
    simp only [go_sem, binC, e0, e5]
    refine seq_cond (t := false) (by (simp only [go_sem, binC]) <;> rfl) ?_
    simp only [go_sem, binC]
    refine seq_exit ?_
    simp only [go_sem, binC, thenX_e, out_e, thenX_n]
    refine seq_reg ?_
    simp only [go_sem, binC, e1]
    exact wpc_ret ⟨Or.inr rfl, _, (by (simp only [go_sem, binC]) <;> rfl), by simp [cS], rfl⟩
  | succ n =>
  intro kk
  induction kk with
  | zero =>
    intro i e hi e0 e5 e1
    refine lp_step ?_
    refine seq_assoc (seq_reg ?_)
    simp only [go_sem, binC, e0, e5]
    refine seq_cond (t := false) (by simp only [go_sem, binC]; rw [decide_eq_false (by omega)]) ?_
    simp only [go_sem, binC]
    refine seq_exit ?_
    simp only [go_sem, binC, thenX_e, out_e, thenX_n]
    refine seq_reg ?_
    simp only [go_sem, binC, e1]
    refine wpc_ret ⟨Or.inr rfl, _, (by (simp only [go_sem, binC]) <;> rfl), ?_, rfl⟩
    unfold cS
    rw [List.take_of_length_le (by rw [List.length_map]; omega)]
  | succ kk ihk =>
    intro i e hi e0 e5 e1
    have hil : i < l.length := by omega
    have hsum := sum_take (fun x => x) (l.map (cT (n + 1))) i (by rw [List.length_map]; exact hil)
    rw [List.getElem_map, cT_sh] at hsum
    have hle := sum_take_le (l.map (cT (n + 1))) (i + 1)
    have hq0 : 0 ≤ k + (((l.map (cT (n + 1))).take i).sum : Nat) := by omega
    have hqn : (k + (((l.map (cT (n + 1))).take i).sum : Nat)) + (6 + (cS n (thOf l[i]) + cS n (elOf l[i])) : Nat) ≤ 9223372036854775807 := by omega
    have hq2 : k + (((l.map (cT (n + 1))).take (i + 1)).sum : Nat) = (k + (((l.map (cT (n + 1))).take i).sum : Nat)) + (6 + (cS n (thOf l[i]) + cS n (elOf l[i])) : Nat) := by omega
    obtain ⟨vb, vo, a0, a1, a2, a3, a4, a5, tv, ev, tl, el, hav, hs, rg, otv, oev, hgc, htl, hel⟩ := step_at hv (i := i) (by rw [mkL_len]; exact hil)
    rw [mkL_len] at hav
    simp only [Value.slice.injEq, and_true] at hav
    subst hav
    rw [mkL_at _ hil] at hs
    generalize k + (((l.map (cT (n + 1))).take i).sum : Nat) = q at e1 hq0 hqn hq2 hs
    generalize l[i] = s at hqn hq2 hs
    obtain ⟨s0, s1, s2, s3, th, el'⟩ := s
    have hs' : ((q, q + 1, (q + 2, q + 3, q + 4), q + 5, mkL n (q + 6) th, mkL n (q + 6 + (cS n th : Nat)) el') : Int × Int × (Int × Int × Int) × Int × List (TStep n) × List (TStep n)) = (a0, a1, (a2, a3, a4), a5, tl, el) := hs
    clear hs
    simp only [Prod.mk.injEq] at hs'
    obtain ⟨e0', e1', ⟨e2', e3', e4'⟩, e5', e6', e7'⟩ := hs'
    subst e0' e1' e2' e3' e4' e5' e6' e7'
    have hg8 := hgc H (fun _ _ h => h)
    have g6 := gc_part (off := 6) (k := 1) hg8 (by omega)
    have g7 := gc_part (off := 7) (k := 1) hg8 (by omega)
    simp only [List.drop_succ_cons, List.drop_zero, List.take_succ_cons, List.take_zero] at g6 g7
    have hqn' : q + (6 + (cS n th + cS n el') : Nat) ≤ 9223372036854775807 := hqn
    have hq2' : k + (((l.map (cT (n + 1))).take (i + 1)).sum : Nat) = q + (6 + (cS n th + cS n el') : Nat) := hq2
    clear hqn hq2
    refine lp_step ?_
    refine seq_assoc (seq_reg ?_)
    simp only [go_sem, binC, e0, e5]
    refine seq_cond (t := true) (by simp only [go_sem, binC]; rw [decide_eq_true (by omega)]) ?_
    simp only [go_sem, binC]
    refine seq_skip (seq_block ?_)
    have g0 : getCells H vb (vo + i * 8) 1 = some [.int .i64 (q)] := by
      have h := gc_part (off := 0) (k := 1) hg8 (by omega)
      rw [Nat.add_zero] at h
      rw [h]
      show some [Value.int .i64 q] = _
      congr 3
      try omega
    refine seq_assoc (seq_reg ?_)
    simp only [go_sem, binC, e0, e5, e1, g0, bne_self_eq_false]
    refine ⟨⟨by omega, by omega⟩, ?_⟩
    refine seq_cond (t := false) (by simp only [go_sem, binC]) ?_
    simp only [go_sem, binC]
    refine seq_skip ?_
    refine seq_reg ?_
    simp only [go_sem, binC, e1]
    rw [wrap_id (x := q + 1) (by omega) (by omega)]
    have g1 : getCells H vb (vo + i * 8 + 1) 1 = some [.int .i64 (q + 1)] := by
      have h := gc_part (off := 1) (k := 1) hg8 (by omega)
      skip
      rw [h]
      show some [Value.int .i64 (q + 1)] = _
      congr 3
      try omega
    refine seq_assoc (seq_reg ?_)
    simp only [go_sem, binC, e0, e5, e1, g1, bne_self_eq_false]
    refine ⟨⟨by omega, by omega⟩, ?_⟩
    refine seq_cond (t := false) (by simp only [go_sem, binC]) ?_
    simp only [go_sem, binC]
    refine seq_skip ?_
    refine seq_reg ?_
    simp only [go_sem, binC, e1]
    rw [wrap_id (x := (q + 1) + 1) (by omega) (by omega)]
    have g2 : getCells H vb (vo + i * 8 + 2) 1 = some [.int .i64 ((q + 1) + 1)] := by
      have h := gc_part (off := 2) (k := 1) hg8 (by omega)
      skip
      rw [h]
      show some [Value.int .i64 (q + 2)] = _
      congr 3
      try omega
    refine seq_assoc (seq_reg ?_)
    simp only [go_sem, binC, e0, e5, e1, g2, bne_self_eq_false]
    refine ⟨⟨by omega, by omega⟩, ?_⟩
    refine seq_cond (t := false) (by simp only [go_sem, binC]) ?_
    simp only [go_sem, binC]
    refine seq_skip ?_
    refine seq_reg ?_
    simp only [go_sem, binC, e1]
    rw [wrap_id (x := ((q + 1) + 1) + 1) (by omega) (by omega)]
    have g3 : getCells H vb (vo + i * 8 + 3) 1 = some [.int .i64 (((q + 1) + 1) + 1)] := by
      have h := gc_part (off := 3) (k := 1) hg8 (by omega)
      skip
      rw [h]
      show some [Value.int .i64 (q + 3)] = _
      congr 3
      try omega
    refine seq_assoc (seq_reg ?_)
    simp only [go_sem, binC, e0, e5, e1, g3, bne_self_eq_false]
    refine ⟨⟨by omega, by omega⟩, ?_⟩
    refine seq_cond (t := false) (by simp only [go_sem, binC]) ?_
    simp only [go_sem, binC]
    refine seq_skip ?_
    refine seq_reg ?_
    simp only [go_sem, binC, e1]
    rw [wrap_id (x := (((q + 1) + 1) + 1) + 1) (by omega) (by omega)]
    have g4 : getCells H vb (vo + i * 8 + 4) 1 = some [.int .i64 ((((q + 1) + 1) + 1) + 1)] := by
      have h := gc_part (off := 4) (k := 1) hg8 (by omega)
      skip
      rw [h]
      show some [Value.int .i64 (q + 4)] = _
      congr 3
      try omega
    refine seq_assoc (seq_reg ?_)
    simp only [go_sem, binC, e0, e5, e1, g4, bne_self_eq_false]
    refine ⟨⟨by omega, by omega⟩, ?_⟩
    refine seq_cond (t := false) (by simp only [go_sem, binC]) ?_
    simp only [go_sem, binC]
    refine seq_skip ?_
    refine seq_reg ?_
    simp only [go_sem, binC, e1]
    rw [wrap_id (x := ((((q + 1) + 1) + 1) + 1) + 1) (by omega) (by omega)]
    have g5 : getCells H vb (vo + i * 8 + 5) 1 = some [.int .i64 (((((q + 1) + 1) + 1) + 1) + 1)] := by
      have h := gc_part (off := 5) (k := 1) hg8 (by omega)
      skip
      rw [h]
      show some [Value.int .i64 (q + 5)] = _
      congr 3
      try omega
    refine seq_assoc (seq_reg ?_)
    simp only [go_sem, binC, e0, e5, e1, g5, bne_self_eq_false]
    refine ⟨⟨by omega, by omega⟩, ?_⟩
    refine seq_cond (t := false) (by simp only [go_sem, binC]) ?_
    simp only [go_sem, binC]
    refine seq_skip ?_
    refine seq_reg ?_
    simp only [go_sem, binC, e1]
    rw [wrap_id (x := (((((q + 1) + 1) + 1) + 1) + 1) + 1) (by omega) (by omega)]
    refine seq_reg ?_
    simp only [go_sem, binC, e0, e5, g6, otv]
    refine ⟨⟨by omega, by omega⟩, ?_⟩
    refine op_callQ (by simp only [go_sem, binC]; rw [show (((((q + 1) + 1) + 1) + 1) + 1) + 1 = q + 6 by omega]; exact ih n rfl H tv th (q + 6) htl (by omega) (by omega)) ?_
    simp only [go_sem, binC]
    refine seq_assoc (seq_reg ?_)
    simp only [go_sem, binC]
    refine seq_cond (t := false) (by simp only [go_sem, binC]; rw [decide_eq_false (by omega)]) ?_
    simp only [go_sem, binC]
    refine seq_skip (seq_reg ?_)
    simp only [go_sem, binC, e0, e5, g7, oev]
    refine ⟨⟨by omega, by omega⟩, ?_⟩
    refine op_callQ (by simp only [go_sem, binC]; exact ih n rfl H ev el' (q + 6 + (cS n th : Nat)) hel (by omega) (by omega)) ?_
    simp only [go_sem, binC]
    refine seq_reg ?_
    simp only [go_sem, binC]
    refine wpc_cond (t := false) (by simp only [go_sem, binC]; rw [decide_eq_false (by omega)]) ?_
    simp only [go_sem, binC]
    refine wpc_skip ?_
    simp only [go_sem, binC, out_n, thenX_n]
    have hw1 : IntKind.i64.wrap ((i : Int) + 1) = ((i + 1 : Nat) : Int) := by rw [wrap_id (by omega) (by omega)]; omega
    refine wpc_reg ?_
    simp only [go_sem, binC, e5, hw1]
    simp only [go_sem, binC, thenX_n]
    exact ihk (i + 1) _ (by omega) (by simp only [go_sem, binC, e0]) (by simp only [go_sem, binC]) (by simp only [go_sem, binC]; rw [hq2']; congr 1; omega)
theorem heldS_all {F : Nat → Option IFn} (hf : F 43 = some c_heldStepS) : ∀ n, HeS F 43 n
  | 0 => heldS_ok hf fun m h => by cases h
  | n + 1 => heldS_ok hf fun m h => by cases h; exact heldS_all hf n
end Go.Proofs.YtmakdcbpohlacaaI
end
section
/- Marks and tests of programs of one's own. -/
set_option linter.unusedVariables false
set_option linter.unusedSimpArgs false
namespace Go.Proofs.YtmakdcbpohlacaaI
open Go Go.RowKit
theorem LabV.flat {lo : Nat} {H : Heap} {v : Value} {ls : List (Int × Int)} (h : LabV lo H v ls) (hl : ls.length ≤ 1048576) : ∃ b, FlatB lo H.length H 2 v ls.length b 0 ∧ (ls = [] ∨ ∃ cs, H[b]? = some ⟨cs, 2, 59, true, true⟩) := by
  rcases h with ⟨rfl, rfl⟩ | ⟨b, h1, rfl, h3, h4⟩
  · exact ⟨0, ⟨by simp, none, rfl, .inl rfl⟩, .inl rfl⟩
  · exact ⟨b, ⟨by omega, _, rfl, .inr ⟨rfl, h1, (List.getElem?_eq_some_iff.1 h4).1, _, _, _, _, h4, by rw [flat_len (fl := fp) (w := 2) (fun _ => rfl)]; omega⟩⟩, .inr ⟨_, h4⟩⟩
/-- The marks of a program of one's own. -/
theorem mkProgOwn_ok {F : Nat → Option IFn} {f n : Nat} (hf : F f = some c_markProg) (gl : MarkFlat F 2 40) (gs : MkOwn F 41 n) {H : Heap} {lv sv : Value} {ls : List (Int × Int)} {l : List (TStep n)} {B : List Nat} {lo lo0 b : Nat} (hb : FlatB lo H.length H 2 lv ls.length b 0) (hk : ls = [] ∨ ∃ cs, H[b]? = some ⟨cs, 2, 59, true, true⟩) (ho : OwnT lo H n sv l B)
    (hlo : lo0 ≤ lo) (hlh : lo0 ≤ H.length) (hc : 1 + ((cP n (ls, l) : Nat) : Int) ≤ 9223372036854775807) :
    ∃ H', NC F lo0 f [.agg #[lv, sv], .int .i64 1] H (.int .i64 (1 + ((cP n (ls, l) : Nat) : Int))) H' ∧ (H.length ≤ H'.length ∧ ∀ b', b' < H.length → (b' < lo ∨ ∃ k, H[b']? = some k ∧ k.es = 0) → H'[b']? = H[b']?) ∧ HeldR H' lv 2 ls.length b 0 1 ∧ SlR (Co.step n) (vw 0 H') sv (mkL n (1 + ((nLab ls : Nat) : Int)) l) := by
  have o1 := hb.one
  have o2 := ho.one
  have hcl : ((cP n (ls, l) : Nat) : Int) = ((nLab ls : Nat) : Int) + ((cS n l : Nat) : Int) := by unfold cP; simp
  have hnl : nLab ls = ls.length * 2 := rfl
  suffices h : ∃ w H', NC F lo0 f [.agg #[lv, sv], .int .i64 1] H w H' ∧ w = .int .i64 (1 + ((cP n (ls, l) : Nat) : Int)) ∧ (H.length ≤ H'.length ∧ ∀ b', b' < H.length → (b' < lo ∨ ∃ k, H[b']? = some k ∧ k.es = 0) → H'[b']? = H[b']?) ∧ HeldR H' lv 2 ls.length b 0 1 ∧ SlR (Co.step n) (vw 0 H') sv (mkL n (1 + ((nLab ls : Nat) : Int)) l) by
    obtain ⟨w, H', g1, rfl, g2⟩ := h
    exact ⟨H', g1, g2⟩
  refine NC.mk hf rfl ?_
  refine seq_reg ?_
  simp only [go_sem, binC, o1, o2]
  refine wpc_gen fun Hb hHb => ?_
  have hx : AgX [] H Hb := hHb ▸ AgX.app [] _ _
  have hbx : Hb[H.length]? = some ⟨[lv, sv], 0, 0, false, true⟩ := hHb ▸ get_new0 _ _
  clear hHb
  have hbo : ∀ b, b < H.length → Hb[b]? = H[b]? := fun b hb => hx.2 b hb (by simp)
  have hlt : ls.length = 0 ∨ (lo ≤ b ∧ b < H.length) := by
    obtain ⟨_, a, _, h3⟩ := hb
    exact h3.imp id fun h => ⟨h.2.1, h.2.2.1⟩
  have k1 : FlatB lo H.length Hb 2 lv ls.length b 0 := hb.mono (Nat.le_refl _) (hlt.imp id fun h => hbo _ h.2)
  have ob : OwnT lo Hb n sv l B := ho.keep (Nat.le_refl _) fun b' hb' => hbo _ (ho.ge b' hb').2.1
  have m1 := gl Hb lv ls.length b 0 lo H.length lo0 1 k1 hlo (by omega) (by omega)
  have e1 := held_mark k1 1
  have hne : ∀ b' k, H[b']? = some k → k.es ≠ 2 → ls.length = 0 ∨ b' ≠ b := fun b' k h1 h2 => by
    rcases hk with hk | ⟨cs, hk⟩
    · exact .inl (by rw [hk]; rfl)
    · refine .inr fun he => ?_
      rw [he, hk] at h1
      cases h1
      exact h2 rfl
  generalize hH1 : (if ls.length = 0 then Hb else markB Hb b 0 1 (ls.length * 2)) = H1 at m1 e1
  have c1 : ∀ b', ls.length = 0 ∨ b' ≠ b → H1[b']? = Hb[b']? := fun b' h => hH1 ▸ mark_out h
  have le1 : H1.length = Hb.length := hH1 ▸ mark_len _ _ _ _ _ _
  have o1' : OwnT lo H1 n sv l B := ob.keep (Nat.le_refl _) fun b' hb' => c1 b' (by
    obtain ⟨_, _, cs, h4⟩ := ho.ge b' hb'
    exact hne b' _ h4 (by simp))
  obtain ⟨H2, k2, o2', x2⟩ := gs H1 sv l B lo lo0 (1 + ((nLab ls : Nat) : Int)) o1' hlo (by omega) (by omega)
  have hb1 : H1[H.length]? = some ⟨[lv, sv], 0, 0, false, true⟩ := (c1 _ (hlt.imp id fun h => by omega)).trans hbx
  refine seq_reg ?_
  simp only [go_sem, binC, gc_of hbx, inBlk_some, o1]
  refine op_callN (by simp only [go_sem, binC]; exact m1) ?_
  simp only [go_sem, binC]
  refine seq_reg ?_
  simp only [go_sem, binC, gc_of hb1, inBlk_some, o2]
  refine op_callN (by simp only [go_sem, binC]; exact k2) ?_
  simp only [go_sem, binC]
  refine seq_reg ?_
  simp only [go_sem, binC]
  have hlb := hx.1
  have l2 := x2.1
  have hlt0 : ls.length = 0 ∨ (ls.length ≠ 0 ∧ lo ≤ b ∧ b < H.length) := by omega
  refine wpc_ret ⟨Or.inr rfl, _, (by (simp only [go_sem, binC]) <;> rfl), by congr 1; omega, ⟨by omega, fun b' h1 h2 => ?_⟩, e1.mono (hlt0.imp id fun h => x2.2 b (by omega) fun hB => ?_), o2'.sl.mono ((vws_vw _ _).trans (vw_grow (Nat.zero_le _) fun _ _ _ => rfl))⟩
  · have hB : b' ∉ B := fun hB => by
      obtain ⟨g1, _, cs, h4⟩ := ho.ge b' hB
      rcases h2 with h2 | ⟨k, h2, h3⟩
      · omega
      · rw [h4] at h2; cases h2; cases h3
    have hbb : ls.length = 0 ∨ b' ≠ b := by
      rcases h2 with h2 | ⟨k, h2, h3⟩
      · exact hlt.imp id fun h => by omega
      · exact hne b' k h2 (by rw [h3]; simp)
    rw [x2.2 b' (by omega) hB, c1 b' hbb, hbo b' h1]
  · obtain ⟨_, _, cs, h4⟩ := ho.ge b hB
    rcases hk with hk | ⟨cs', hk⟩
    · exact h.1 (by rw [hk]; rfl)
    · rw [hk] at h4; cases h4
theorem heProg_ok {F : Nat → Option IFn} {f n : Nat} (hf : F f = some c_heldProg) (gl : HeldFlat F 2 42) (gs : HeS F 43 n) {H : Heap} {lv sv : Value} {ls : List (Int × Int)} {l : List (TStep n)} {b : Nat} (hb : ls.length = 0 ∨ b < H.length) (hk : HeldR H lv 2 ls.length b 0 1) (hs : SlR (Co.step n) (vw 0 H) sv (mkL n (1 + ((nLab ls : Nat) : Int)) l))
    (hc : 1 + ((cP n (ls, l) : Nat) : Int) ≤ 9223372036854775807) : QC F f [.agg #[lv, sv], .int .i64 1] H (.int .i64 (1 + ((cP n (ls, l) : Nat) : Int))) := by
  have o1 : one lv = true := by obtain ⟨_, a, rfl, _⟩ := hk; rfl
  have o2 : one sv = true := by obtain ⟨_, a, rfl, _⟩ := hs; rfl
  have hcl : ((cP n (ls, l) : Nat) : Int) = ((nLab ls : Nat) : Int) + ((cS n l : Nat) : Int) := by unfold cP; simp
  have hnl : nLab ls = ls.length * 2 := rfl
  refine QC.mk hf rfl ?_
  refine seq_reg ?_
  simp only [go_sem, binC, o1, o2]
  refine wpc_gen fun Hb hHb => ?_
  have hx : AgX [] H Hb := hHb ▸ AgX.app [] _ _
  have hbx : Hb[H.length]? = some ⟨[lv, sv], 0, 0, false, true⟩ := hHb ▸ get_new0 _ _
  clear hHb
  have m1 := gl Hb lv ls.length b 0 1 (hk.mono (hb.imp id fun h => hx.2 _ h (by simp))) (by omega) (by omega)
  have m2 := gs Hb sv l (1 + ((nLab ls : Nat) : Int)) (hs.mono (agx_sub hx)) (by omega) (by omega)
  rw [← hnl] at m1
  refine seq_reg ?_
  simp only [go_sem, binC, gc_of hbx, inBlk_some, o1]
  refine op_callQ (by simp only [go_sem, binC]; exact m1) ?_
  simp only [go_sem, binC]
  refine seq_assoc (seq_reg ?_)
  simp only [go_sem, binC]
  refine seq_cond (t := false) (by simp only [go_sem, binC]; rw [decide_eq_false (by omega)]) ?_
  simp only [go_sem, binC]
  refine seq_skip (seq_reg ?_)
  simp only [go_sem, binC, gc_of hbx, inBlk_some, o2]
  refine op_callQ (by simp only [go_sem, binC]; exact m2) ?_
  simp only [go_sem, binC]
  refine seq_assoc (seq_reg ?_)
  simp only [go_sem, binC]
  refine seq_cond (t := false) (by simp only [go_sem, binC]; rw [decide_eq_false (by omega)]) ?_
  simp only [go_sem, binC]
  refine seq_skip (seq_reg ?_)
  simp only [go_sem, binC]
  exact wpc_ret ⟨Or.inr rfl, _, (by (simp only [go_sem, binC]) <;> rfl), by congr 1; omega, rfl⟩
end Go.Proofs.YtmakdcbpohlacaaI
end
section
/- The programs that impl.TurnVars and impl.TurnProg return lie in memory of their own. -/
set_option linter.unusedVariables false
set_option linter.unusedSimpArgs false
namespace Go.Proofs.YtmakdcbpohlacaaI
open Go Go.RowKit
def TurnPOwn (F : Nat → Option IFn) (f : Nat) (m : Nat → Nat) (lab : List Int → List (Int × Int) → List (Int × Int)) (T : List Int → Shal → Shal) : Prop := ∀ (H : Heap) (n : Nat) (lv sv w : Value) (ls : List (Int × Int)) (l : List (TStep n)) (row : List Int), SlR Co.p2 (vw 0 H) lv ls → SlR (Co.step n) (vw 0 H) sv l → (Co.prog n).sm (ls, l) → SlR Co.int (vw 0 H) w row →
  ∃ lv' sv' H', KC F f [.agg #[lv, sv], w] H (.tuple #[.agg #[lv', sv'], .bool (turnB n m ls l row)]) H' ∧ AgX [] H H' ∧ LabV H.length H' lv' (turnO n m lab T ls l row).1 ∧ ∃ B, OwnT H.length H' n sv' (turnO n m lab T ls l row).2 B
theorem iTurnProgO_ok {F : Nat → Option IFn} {f : Nat} (hf : F f = some c_iTurnProg) (gp : ProgOk F 33) (gr : RowOk F 34) (gpc : PCloneOk F 35) (hch : F 36 = some c_change) (hc1 : F 47 = some c_tp1) (gt : ∀ (H : Heap) (s : Int) (v : Value) (row : List Int), 0 ≤ s ∧ s ≤ 7 → rowB row 3 = true → SlR Co.int (vw 0 H) v row → QC F 46 [.int .i64 s, v] H (.int .i64 (tset row s))) : TurnPOwn F f (fun _ => 3) turnLH turnH := by
  intro H n lv sv w ls l row r1 r2 hsm r3
  suffices h : ∃ v H', KC F f [.agg #[lv, sv], w] H v H' ∧ (∃ lv' sv', v = .tuple #[.agg #[lv', sv'], .bool (turnB n (fun _ => 3) ls l row)] ∧ AgX [] H H' ∧ LabV H.length H' lv' (turnO n (fun _ => 3) turnLH turnH ls l row).1 ∧ ∃ B, OwnT H.length H' n sv' (turnO n (fun _ => 3) turnLH turnH ls l row).2 B) by
    obtain ⟨_, H', h1, lv', sv', rfl, h2⟩ := h
    exact ⟨lv', sv', H', h1, h2⟩
  have osv : one sv = true := by obtain ⟨_, a, rfl, _⟩ := r2; rfl
  obtain ⟨_, wa, rfl, _⟩ := id r3
  obtain ⟨_, la, rfl, _⟩ := id r1
  have hls0 : ls.length ≤ 1048576 := hsm.1.1
  refine KC.mk hf rfl ?_
  refine seq_reg ?_
  simp only [go_sem, binC, osv]
  refine wpc_gen fun H1 hH1 => ?_
  have hx1 : AgX [] H H1 := hH1 ▸ AgX.app [] _ _
  have hb2 : H1[H.length]? = some ⟨[.slice la ls.length ls.length, sv], 0, 0, false, true⟩ := hH1 ▸ get_new0 _ _
  have hb3 : H1[H.length + 1]? = some ⟨[.slice wa row.length row.length], 0, 0, false, true⟩ := hH1 ▸ get_new _ _ 1
  have hb4 : H1[H.length + 2]? = some ⟨[nilS, nilS], 0, 0, false, true⟩ := hH1 ▸ get_new _ _ 2
  have hln1 : H1.length = H.length + 3 := by rw [hH1]; simp
  clear hH1
  have r1' := r1.mono (agx_sub hx1)
  have r2' := r2.mono (agx_sub hx1)
  have r3' := r3.mono (agx_sub hx1)
  have hb4l := (List.getElem?_eq_some_iff.1 hb4).1
  refine seq_assoc (seq_reg ?_)
  simp only [go_sem, binC, gc_of hb2, inBlk_some, osv]
  refine op_callB (by simp only [go_sem, binC]; exact gp H1 n _ (ls, l) (prog_rd r1' r2') hsm) (fun hP => ?_) (fun hP => ?_)
  rotate_left
  · simp only [go_sem, binC]
    refine seq_cond (t := true) rfl ?_
    simp only [go_sem, binC]
    refine seq_assoc (seq_reg ?_)
    simp only [go_sem, binC, hb4]
    have hB : turnB n (fun _ => 3) ls l row = false := by simp [turnB, hP]
    have hr : turnO n (fun _ => 3) turnLH turnH ls l row = ([], []) := if_neg (by rw [hB]; simp)
    refine seq_ret ⟨Or.inr rfl, .tuple #[.agg #[nilS, nilS], .bool false], ?_, nilS, nilS, by rw [hB], hx1.setN (by omega) _, ?_, ?_⟩
    · simp [resV, resL, res1, putE_get, notT, ptr, gc_set hb4l, inBlk_some, valOf]
    · rw [hr]; exact .inl ⟨rfl, rfl⟩
    · rw [hr]; exact ⟨[], OwnT.nil⟩
  have hls : ls.length ≤ 4 := by
    have := hP
    simp only [progB, Bool.and_eq_true, decide_eq_true_eq] at this; have := this.1.1.1; omega
  simp only [go_sem, binC, gc_of hb3, inBlk_some]
  refine op_callB (by simp only [go_sem, binC]; exact gr H1 _ row 3 (by omega) r3') (fun hR => ?_) (fun hR => ?_)
  rotate_left
  · simp only [go_sem, binC]
    refine seq_cond (t := true) rfl ?_
    simp only [go_sem, binC]
    refine seq_assoc (seq_reg ?_)
    simp only [go_sem, binC, hb4]
    have hB : turnB n (fun _ => 3) ls l row = false := by simp [turnB, hR]
    have hr : turnO n (fun _ => 3) turnLH turnH ls l row = ([], []) := if_neg (by rw [hB]; simp)
    refine seq_ret ⟨Or.inr rfl, .tuple #[.agg #[nilS, nilS], .bool false], ?_, nilS, nilS, by rw [hB], hx1.setN (by omega) _, ?_, ?_⟩
    · simp [resV, resL, res1, putE_get, notT, ptr, gc_set hb4l, inBlk_some, valOf]
    · rw [hr]; exact .inl ⟨rfl, rfl⟩
    · rw [hr]; exact ⟨[], OwnT.nil⟩
  have hB : turnB n (fun _ => 3) ls l row = true := by simp [turnB, hP, hR]
  have hO : turnO n (fun _ => 3) turnLH turnH ls l row = (turnLH row ls, l.map (mapT (turnH row) n)) := if_pos hB
  obtain ⟨hr1, hr2, hr3⟩ := rowB_iff.1 hR
  simp only [go_sem, binC]
  refine seq_cond (t := false) rfl ?_
  simp only [go_sem, binC]
  refine seq_skip (seq_reg ?_)
  simp only [go_sem, binC, gc_of hb2, inBlk_some, osv]
  obtain ⟨lv2, sv2, B, H2, k2, hx2, hL2, o2⟩ := gpc H1 n _ sv ls l r1' r2' hsm
  obtain ⟨la2, hlv2⟩ := hL2.shape
  obtain ⟨_, sa2, hsv2⟩ := id o2.len
  refine op_callK (by simp only [go_sem, binC]; exact k2) ?_
  simp only [go_sem, binC]
  rw [hlv2, hsv2]
  simp only [go_sem, binC, get_new0]
  refine ⟨by have := hx1.1; have := hx2.1; omega, ?_⟩
  rw [← hlv2, ← hsv2]
  refine wpc_genH fun H3 hH3 => ?_
  have hx3 : AgX [] H2 H3 := hH3 ▸ AgX.app [] _ _
  have hb6 : H3[H2.length]? = some ⟨[lv2, sv2], 0, 0, false, true⟩ := hH3 ▸ get_new0 _ _
  clear hH3
  have hx23 := hx2.tr hx3
  have hL3 := hL2.keep (Nat.le_refl _) hx3 (fun b _ _ => by simp)
  have o3 : OwnT H1.length H3 n sv2 l B := o2.keep (Nat.le_refl _) fun b hb => hx3.2 b (o2.ge b hb).2.1 (by simp)
  have hl2 := hx2.1
  have hl3 := hx3.1
  have hb6l := (List.getElem?_eq_some_iff.1 hb6).1
  have hb23 := hx23.get hb2 (by simp)
  have hb33 := hx23.get hb3 (by simp)
  have hb43 := hx23.get hb4 (by simp)
  have hbB : ∀ b ∈ blkOf lv2, b ∉ B := fun b h1 h2 => by
    obtain ⟨_, _, q⟩ := hL3.blk h1
    obtain ⟨_, _, cs, q2⟩ := o3.ge b h2
    rw [q] at q2
    simp at q2
  clear k2
  have hlab := List.all_eq_true.1 (progB_labs hP)
  refine seq_assoc (seq_reg ?_)
  simp only [go_sem, binC, gc_of hb6, inBlk_some]
  rw [hlv2]
  simp only [go_sem, binC]
  refine seq_block (wpc_loop ?_)
  suffices h : ∀ (k i : Nat) (e : Env) (Hc : Heap) (cur : List (Int × Int)), i + k = ls.length → AgX (blkOf lv2) H3 Hc → cur.length = ls.length → LabV H1.length Hc lv2 cur → (∀ p ∈ cur, RgI p.1 ∧ RgI p.2) → (∀ j (h' : j < ls.length), cur[j]? = some (if j < i then (tset row ls[j].1, tset row ls[j].2) else ls[j])) → e 2 = ptr H.length 0 → e 3 = ptr (H.length + 1) 0 → e 4 = ptr (H.length + 2) 0 → e 6 = ptr H2.length 0 → e 21 = .slice la2 ls.length ls.length → e 22 = .int .i64 ls.length → e 23 = .int .i64 i → W F H.length _ e Hc _ from
    h ls.length 0 _ H3 ls (by omega) (AgX.refl _ _) rfl hL3 (p2_rg r1) (fun j h' => by rw [if_neg (by omega), List.getElem?_eq_getElem h']) (by simp only [go_sem, binC]) (by simp only [go_sem, binC]) (by simp only [go_sem, binC]) (by simp only [go_sem, binC]) (by (simp only [go_sem, binC]) <;> rfl) (by (simp only [go_sem, binC]) <;> rfl) (by (simp only [go_sem, binC]) <;> rfl)
  intro k
  induction k with
  | zero =>
    intro i e Hc cur hi hxc hcl hLc hrg hcur e2 e3 e4 e6 e21 e22 e23
    refine lp_step ?_
    refine seq_reg ?_
    simp only [go_sem, binC, e22, e23]
    refine seq_cond (t := false) (by simp only [go_sem, binC]; rw [decide_eq_false (by omega)]) ?_
    simp only [go_sem, binC]
    refine seq_exit ?_
    simp only [go_sem, binC, thenX_e, out_e, thenX_n]
    have hb6c := hxc.get hb6 (fun h => by have := (hL3.blk h).2.2; rw [hb6] at this; simp at this)
    have hb3c := hxc.get hb33 (fun h => by have := (hL3.blk h).1; omega)
    have hb4c := hxc.get hb43 (fun h => by have := (hL3.blk h).1; omega)
    have hx1c : AgX [] H1 Hc := hx23.trans hxc (fun _ h _ => h) (fun b h1 h2 => by have := (hL3.blk h1).1; omega)
    have hcT : cur = turnLH row ls := List.ext_getElem (by rw [turnLH_len, hcl]) fun j h1 h2 => by
      have hj : j < ls.length := by omega
      have := hcur j hj
      rw [List.getElem?_eq_getElem h1, Option.some.injEq, if_pos (by omega)] at this
      rw [this]
      simp [turnLH]
    have oc : OwnT H1.length Hc n sv2 l B := o3.keep (Nat.le_refl _) fun b hb => hxc.2 b (o3.ge b hb).2.1 (fun h => hbB b h hb)
    have hclo : CloOk F 47 #[] #[ptr (H.length + 1) 0] H1 (okS ls.length) (turnH row) := tp1_ok hc1 r3' hb3 hR
    obtain ⟨H5, k5, o5, hx5⟩ := change_all hch hclo n Hc sv2 l B H.length oc hx1c (by omega) (progB_okS hP)
    have osv2 := o2.one
    refine seq_reg ?_
    simp only [go_sem, binC, e6, e3, gc_of hb6c, inBlk_some, osv2]
    refine ⟨rfl, ?_⟩
    refine op_callN (by simp only [go_sem, binC]; exact k5) ?_
    have hBb : ∀ b, (∃ cs, Hc[b]? = some ⟨cs, 0, 0, false, true⟩) → b ∉ B := fun b h1 h2 => by
      obtain ⟨cs, h1⟩ := h1
      obtain ⟨_, _, cs2, q2⟩ := oc.ge b h2
      rw [h1] at q2
      simp at q2
    have hb65 := hx5.get hb6c (hBb _ ⟨_, hb6c⟩)
    have hb45 := hx5.get hb4c (hBb _ ⟨_, hb4c⟩)
    have hb45l := (List.getElem?_eq_some_iff.1 hb45).1
    simp only [go_sem, binC]
    refine seq_reg ?_
    rw [hlv2, hsv2] at hb65
    simp only [go_sem, binC, e6, e4, gc_of hb65, inBlk_some, hb45]
    have hx15 : AgX [] H1 H5 := hx1c.trans hx5 (fun _ h _ => h) (fun b h1 h2 => by have := (oc.ge b h1).1; omega)
    have hxf : AgX [H.length + 2] H5 (H5.set (H.length + 2) ⟨[.slice la2 ls.length ls.length, .slice sa2 l.length l.length], 0, 0, false, true⟩) := AgX.set _ _ _
    have hL5 := (hLc.keep (Nat.le_refl _) hx5 (fun b h1 h2 h3 => by
      obtain ⟨_, _, cs2, q2⟩ := oc.ge b h3
      rw [h2] at q2
      simp at q2)).keep (Nat.le_refl _) hxf (fun b h1 _ h2 => by simp only [List.mem_singleton] at h2; omega)
    have o6 := o5.keep (lo' := H1.length) (H' := H5.set (H.length + 2) ⟨[.slice la2 ls.length ls.length, .slice sa2 l.length l.length], 0, 0, false, true⟩) (Nat.le_refl _) fun b hb => hxf.2 b (o5.ge b hb).2.1 (fun h => by simp only [List.mem_singleton] at h; have := (o5.ge b hb).1; omega)
    refine wpc_ret ⟨Or.inr rfl, .tuple #[.agg #[lv2, sv2], .bool true], ?_, lv2, sv2, by rw [hB], (hx1.tr hx15).setN (by omega) _, ?_, ?_⟩
    · rw [hlv2, hsv2]
      simp [resV, resL, res1, putE_get, notT, ptr, gc_set hb45l, inBlk_some, valOf, e4]
    · rw [hO]
      show LabV _ _ _ (turnLH row ls)
      rw [← hcT]
      exact hL5.keep (by have := hx1.1; omega) (AgX.refl [] _) (fun b _ _ hm => by simp at hm)
    · rw [hO]
      exact ⟨B, o6.keep (by have := hx1.1; omega) fun b hb => rfl⟩
  | succ k ih =>
    intro i e Hc cur hi hxc hcl hLc hrg hcur e2 e3 e4 e6 e21 e22 e23
    have hil : i < ls.length := by omega
    have hw1 : IntKind.i64.wrap ((i : Int) + 1) = ((i + 1 : Nat) : Int) := by rw [wrap_id (by omega) (by omega)]; omega
    have hx1c : AgX [] H1 Hc := hx23.trans hxc (fun _ h _ => h) (fun b h1 h2 => by have := (hL3.blk h1).1; omega)
    have hb6c := hxc.get hb6 (fun h => by have := (hL3.blk h).2.2; rw [hb6] at this; simp at this)
    have hb3c := hxc.get hb33 (fun h => by have := (hL3.blk h).1; omega)
    have hne : cur ≠ [] := fun h => by rw [h] at hcl; simp at hcl; omega
    obtain ⟨bl, hbl0, hlv, _, hbl⟩ := hLc.resolve_left (fun h => hne h.2)
    have hbll := (List.getElem?_eq_some_iff.1 hbl).1
    have hci := hcur i hil
    rw [if_neg (by omega)] at hci
    have hcil : i < cur.length := by omega
    obtain ⟨pb, po, hpv, hpg⟩ := gcP (blk_slP hbl hrg (by omega)) hcil
    rw [← hlv, hlv2, hcl] at hpv
    simp only [Value.slice.injEq, and_true] at hpv
    obtain rfl := hpv
    rw [List.getElem?_eq_getElem hcil, Option.some.injEq] at hci
    rw [hci] at hpg
    have hlb := labB_iff.1 (hlab ls[i] (List.getElem_mem hil))
    have hlv' : lv2 = sli bl 0 ls.length := by rw [← hcl]; exact hlv
    rw [hlv2] at hlv'
    simp only [sli, Value.slice.injEq, Option.some.injEq, Addr.mk.injEq, and_true] at hlv'
    obtain ⟨rfl, rfl⟩ := hlv'
    simp only [Nat.zero_add] at hpg
    refine lp_step ?_
    refine seq_reg ?_
    simp only [go_sem, binC, e22, e23]
    refine seq_cond (t := true) (by simp only [go_sem, binC]; rw [decide_eq_true (by omega)]) ?_
    simp only [go_sem, binC]
    refine seq_skip (seq_block (seq_reg ?_))
    simp only [go_sem, binC, e21, e23]
    refine ⟨⟨by omega, by omega⟩, ?_⟩
    simp only [go_sem, binC, hpg, Int.toNat_natCast]
    refine ⟨by have := hx1.1; have := hx1c.1; omega, ?_⟩
    refine wpc_genH fun H5 hH5 => ?_
    have hx5 : AgX [] Hc H5 := hH5 ▸ AgX.app [] _ _
    have hb8 : H5[Hc.length]? = some ⟨[.int .i64 ls[i].1, .int .i64 ls[i].2], 0, 0, false, true⟩ := hH5 ▸ get_new0 _ _
    clear hH5
    have hb65 := hx5.get hb6c (by simp)
    have hb35 := hx5.get hb3c (by simp)
    have hbl5 := hx5.get hbl (by simp)
    have hfl := flat_len (fl := fp) (w := 2) (fun _ => rfl) cur
    rw [hlv2] at hb65
    have r35 := r3'.mono (agx_sub (hx1c.tr hx5))
    refine wpc_regD ?_
    simp only [go_sem, binC, e6, e3, gc_of hb65, gc_of hb35, gc_of hb8, inBlk_some]
    refine op_callQ (by simp only [go_sem, binC]; exact gt H5 _ _ row hlb.1 hR r35) ?_
    simp only [go_sem, binC, e3, gc_of hb35, gc_of hb8, inBlk_some]
    refine op_callQ (by simp only [go_sem, binC]; exact gt H5 _ _ row hlb.2 hR r35) ?_
    simp only [go_sem, binC, e23]
    refine ⟨⟨by omega, by omega⟩, ?_⟩
    simp only [go_sem, binC, Int.toNat_natCast, hbl5]
    refine ⟨⟨by omega, by omega⟩, ?_⟩
    simp only [go_sem, binC, out_n, thenX_n, Nat.zero_add]
    rw [show ((cur.flatMap fp).set (i * 2) (.int .i64 (tset row ls[i].1))).set (i * 2 + 1) (.int .i64 (tset row ls[i].2)) = (cur.set i (tset row ls[i].1, tset row ls[i].2)).flatMap fp from flat_set _ _ (tset row ls[i].1, tset row ls[i].2) hcil]
    have hbl5l := (List.getElem?_eq_some_iff.1 hbl5).1
    generalize hT : ((tset row ls[i].1, tset row ls[i].2) : Int × Int) = tv
    have hxs : AgX [pb] H5 (H5.set pb ⟨(cur.set i tv).flatMap fp, 2, 59, true, true⟩) := AgX.set _ _ _
    have hgs : (H5.set pb ⟨(cur.set i tv).flatMap fp, 2, 59, true, true⟩)[pb]? = some ⟨(cur.set i tv).flatMap fp, 2, 59, true, true⟩ := List.getElem?_set_self hbl5l
    refine wpc_reg ?_
    simp only [go_sem, binC, e23, hw1]
    simp only [go_sem, binC, thenX_n]
    refine ih (i + 1) _ _ (cur.set i tv) (by omega) ((hxc.trans hx5 (fun _ h _ => h) (fun _ h _ => by simp at h)).trans hxs (fun _ h _ => h) (fun b' h1 _ => by simp only [List.mem_singleton] at h1; subst h1; rw [hlv2]; simp [blkOf])) (by rw [List.length_set]; exact hcl) (.inr ⟨pb, hbl0, by rw [List.length_set]; exact hlv, fun h => hne (List.eq_nil_of_length_eq_zero (by simpa using congrArg List.length h)), hgs⟩) (fun p hp => ?_) (fun j hj => ?_) (by simp only [go_sem, binC, e2]) (by simp only [go_sem, binC, e3]) (by simp only [go_sem, binC, e4]) (by simp only [go_sem, binC, e6]) (by simp only [go_sem, binC, e21]) (by simp only [go_sem, binC, e22]) (by simp only [go_sem, binC])
    · rcases List.mem_or_eq_of_mem_set hp with h | h
      · exact hrg p h
      · have a1 := tset_bd hR hlb.1
        have a2 := tset_bd hR hlb.2
        rw [h, ← hT]
        exact ⟨by show RgI (tset row ls[i].1); unfold RgI; omega, by show RgI (tset row ls[i].2); unfold RgI; omega⟩
    · rw [List.getElem?_set]
      by_cases hji : i = j
      · subst hji
        rw [if_pos rfl, if_pos hcil, if_pos (by omega), ← hT]
      · rw [if_neg hji, hcur j hj]
        by_cases hlt : j < i
        · rw [if_pos hlt, if_pos (by omega)]
        · rw [if_neg hlt, if_neg (by omega)]
theorem sum_mapI {α : Type} {g c : α → Nat} {h : α → α} {l : List α} (e : ∀ a, c (h a) = g a) : ((l.map h).map c).sum = (l.map g).sum := by
  induction l with
  | nil => rfl
  | cons a l ih => simp only [List.map_cons, List.sum_cons, e, ih]
theorem cT_mapT (T : Shal → Shal) : ∀ (n : Nat) (s : TStep n), cT n (mapT T n s) = cT n s
  | 0, s => s.elim
  | n + 1, (k, x, v, g, th, el) => by
    show 6 + (((th.map (mapT T n)).map (cT n)).sum + ((el.map (mapT T n)).map (cT n)).sum) = 6 + ((th.map (cT n)).sum + (el.map (cT n)).sum)
    rw [sum_mapI (cT_mapT T n), sum_mapI (cT_mapT T n)]
theorem cS_mapT (T : Shal → Shal) (n : Nat) (l : List (TStep n)) : cS n (l.map (mapT T n)) = cS n l := sum_mapI (cT_mapT T n)
theorem progB_le4 {n : Nat} {ls : List (Int × Int)} {l : List (TStep n)} (h : progB n (ls, l) = true) : ls.length ≤ 4 := by
  unfold progB at h
  simp only [Bool.and_eq_true, decide_eq_true_eq] at h
  have := h.1.1.1
  omega
theorem ints_mk {F : Nat → Option IFn} {f : Nat} (hf : F f = some c_mark1) {H : Heap} {v : Value} {l : List Int} {lo hi lo0 : Nat} {k : Int} (hr : SlR Co.int (vwb lo hi H) v l) (hh : hi ≤ H.length) (hlo : lo0 ≤ lo) (hk : 0 ≤ k) (hkn : k + (l.length : Int) ≤ 9223372036854775807) : ∃ H', NC F lo0 f [v, .int .i64 k] H (.int .i64 (k + (l.length : Int))) H' ∧ (H.length ≤ H'.length ∧ ∀ b', b' < H.length → b' < lo ∨ hi ≤ b' → H'[b']? = H[b']?) := by
  have e : nInt l = l.length := Nat.mul_one _
  obtain ⟨H2, h1, h2⟩ := mkInts_ok hf H v l lo hi lo0 k ⟨_, rfl, v, rfl, hr⟩ hh hlo hk (by rw [e]; exact hkn)
  rw [e] at h1
  exact ⟨H2, h1, h2.1, fun b a1 a2 => h2.out a1 a2⟩
theorem turnO_bd {n : Nat} {m : Nat → Nat} {lab : List Int → List (Int × Int) → List (Int × Int)} {T : List Int → Shal → Shal} (hlab : ∀ r ls, (lab r ls).length = ls.length) {ls : List (Int × Int)} {l : List (TStep n)} {row : List Int} : (turnO n m lab T ls l row).1.length ≤ 1000 ∧ cP n (turnO n m lab T ls l row) ≤ cP n (ls, l) := by
  unfold turnO
  by_cases h : turnB n m ls l row = true
  · rw [if_pos h]
    simp only [turnB, Bool.and_eq_true] at h
    have h2 := progB_le4 h.1
    refine ⟨by simp only [hlab]; omega, ?_⟩
    show nLab (lab row ls) + cS n (l.map (mapT (T row) n)) ≤ nLab ls + cS n l
    rw [cS_mapT]
    unfold nLab
    rw [hlab]
    omega
  · rw [if_neg h]
    refine ⟨by simp, ?_⟩
    show nLab [] + cS n [] ≤ _
    simp [nLab, cS]
end Go.Proofs.YtmakdcbpohlacaaI
end
section
/- Programs whose hosts are named otherwise (the reference's). -/
set_option linter.unusedVariables false
set_option linter.unusedSimpArgs false
namespace Go.Proofs.YtmakdcbpohlacaaI
open Go Go.RowKit
theorem sTurnProg_ok {F : Nat → Option IFn} {f : Nat} (hf : F f = some c_sTurnProg) (gp : ProgOk F 28) (gr : RowOk F 29) (gv : F 44 = some c_sHosts) (gt : TSetOk F 45) : TurnPOk F f (fun _ => 3) turnLH turnH := by
  intro H n lv sv w ls l row r1 r2 hsm r3
  suffices h : ∃ v H', KC F f [.agg #[lv, sv], w] H v H' ∧ (∃ lv' sv', v = .tuple #[.agg #[lv', sv'], .bool (turnB n (fun _ => 3) ls l row)] ∧ AgX [] H H' ∧ SlR Co.p2 (vw 0 H') lv' (turnO n (fun _ => 3) turnLH turnH ls l row).1 ∧ SlR (Co.step n) (vw 0 H') sv' (turnO n (fun _ => 3) turnLH turnH ls l row).2) by
    obtain ⟨_, H', h1, lv', sv', rfl, h2⟩ := h
    exact ⟨lv', sv', H', h1, h2⟩
  have osv : one sv = true := by obtain ⟨_, a, rfl, _⟩ := r2; rfl
  obtain ⟨_, la, rfl, _⟩ := id r1
  obtain ⟨_, wa, rfl, _⟩ := id r3
  have hls0 : ls.length ≤ 1048576 := hsm.1.1
  refine KC.mk hf rfl ?_
  refine seq_reg ?_
  simp only [go_sem, binC, osv]
  refine wpc_gen fun H1 hH1 => ?_
  have hx1 : AgX [] H H1 := hH1 ▸ AgX.app [] _ _
  have hb2 : H1[H.length]? = some ⟨[.slice la ls.length ls.length, sv], 0, 0, false, true⟩ := hH1 ▸ get_new0 _ _
  have hb4 : H1[H.length + 1]? = some ⟨[nilS, nilS], 0, 0, false, true⟩ := hH1 ▸ get_new _ _ 1
  have hln1 : H1.length = H.length + 2 := by rw [hH1]; simp
  clear hH1
  have r1' := r1.mono (agx_sub hx1)
  have r2' := r2.mono (agx_sub hx1)
  have r3' := r3.mono (agx_sub hx1)
  have hb4l := (List.getElem?_eq_some_iff.1 hb4).1
  refine seq_assoc (seq_reg ?_)
  simp only [go_sem, binC, gc_of hb2, inBlk_some, osv]
  refine op_callB (by simp only [go_sem, binC]; exact gp H1 n _ (ls, l) (prog_rd r1' r2') hsm) (fun hP => ?_) (fun hP => ?_)
  rotate_left
  · simp only [go_sem, binC]
    refine seq_cond (t := true) rfl ?_
    simp only [go_sem, binC]
    refine seq_assoc (seq_reg ?_)
    simp only [go_sem, binC, hb4]
    have hB : turnB n (fun _ => 3) ls l row = false := by simp [turnB, hP]
    have hr : turnO n (fun _ => 3) turnLH turnH ls l row = ([], []) := if_neg (by rw [hB]; simp)
    refine seq_ret ⟨Or.inr rfl, .tuple #[.agg #[nilS, nilS], .bool false], ?_, nilS, nilS, by rw [hB], hx1.setN (by omega) _, ?_, ?_⟩
    · simp [resV, resL, res1, putE_get, notT, ptr, gc_set hb4l, inBlk_some, valOf]
    all_goals (rw [hr]; exact ⟨by simp, none, rfl, .inl rfl⟩)
  have hls : ls.length ≤ 4 := by
    have := hP
    simp only [progB, Bool.and_eq_true, decide_eq_true_eq] at this; have := this.1.1.1; omega
  simp only [go_sem, binC, gc_of hb2, inBlk_some]
  refine op_callB (by simp only [go_sem, binC]; exact gr H1 _ row 3 (by omega) r3') (fun hR => ?_) (fun hR => ?_)
  rotate_left
  · simp only [go_sem, binC]
    refine seq_cond (t := true) rfl ?_
    simp only [go_sem, binC]
    refine seq_assoc (seq_reg ?_)
    simp only [go_sem, binC, hb4]
    have hB : turnB n (fun _ => 3) ls l row = false := by simp [turnB, hR]
    have hr : turnO n (fun _ => 3) turnLH turnH ls l row = ([], []) := if_neg (by rw [hB]; simp)
    refine seq_ret ⟨Or.inr rfl, .tuple #[.agg #[nilS, nilS], .bool false], ?_, nilS, nilS, by rw [hB], hx1.setN (by omega) _, ?_, ?_⟩
    · simp [resV, resL, res1, putE_get, notT, ptr, gc_set hb4l, inBlk_some, valOf]
    all_goals (rw [hr]; exact ⟨by simp, none, rfl, .inl rfl⟩)
  have hB : turnB n (fun _ => 3) ls l row = true := by simp [turnB, hP, hR]
  have hO : turnO n (fun _ => 3) turnLH turnH ls l row = (turnLH row ls, l.map (mapT (turnH row) n)) := if_pos hB
  obtain ⟨hr1, hr2, hr3⟩ := rowB_iff.1 hR
  simp only [go_sem, binC]
  refine seq_cond (t := false) rfl ?_
  simp only [go_sem, binC]
  refine seq_skip (seq_reg ?_)
  simp only [go_sem, binC]
  generalize hHa : H1 ++ [(⟨[], 2, 59, true, true⟩ : Blk)] = Ha
  have hxa : AgX [] H1 Ha := hHa ▸ AgX.app [] _ _
  have hOa : OwnL Co.p2 2 59 H1.length [] Ha H1.length true [] := hHa ▸ OwnG.nil (Nat.le_refl _)
  clear hHa
  have hb2a := hxa.get hb2 (by simp)
  simp only [go_sem, binC, gc_of hb2a, inBlk_some, osv]
  obtain ⟨bv, sov, H2, k2, hx2, o2⟩ := sHosts_all gv hR (by omega) n Ha sv _ l (r2'.mono (agx_sub hxa)) hsm.2 (r3'.mono (agx_sub hxa)) (progB_okS hP)
  refine op_callK (by simp only [go_sem, binC]; exact k2) ?_
  simp only [go_sem, binC, get_new0]
  refine ⟨by have := hx1.1; have := hxa.1; have := hx2.1; omega, ?_⟩
  refine wpc_genH fun H3 hH3 => ?_
  have hx3 : AgX [] H2 H3 := hH3 ▸ AgX.app [] _ _
  have hb6 : H3[H2.length]? = some ⟨[sli H1.length 0 0, sli bv 0 l.length], 0, 0, false, true⟩ := hH3 ▸ get_new0 _ _
  have hl23 : H3.length = H2.length + 1 := by rw [hH3, List.length_append]; rfl
  clear hH3 k2
  have hxa3 := hx2.tr hx3
  have hx13 := hxa.tr hxa3
  have hl2 := hx2.1
  have hl3 := hx3.1
  have hla := hxa.1
  have hal := (List.getElem?_eq_some_iff.1 hOa.2.2.choose_spec.1).1
  have hO3 : OwnL Co.p2 2 59 H1.length [H2.length] H3 H1.length true [] := hOa.sub hxa3 (by simp) fun b' h1 h2 h3 _ => ⟨by simp, by simp; omega⟩
  have s2 : SlR (Co.step n) (vwl Ha.length [] H2) (sli bv 0 l.length) (l.map (mapT (turnH row) n)) := by
    have := o2.slR (step_w n) (by simp)
    rwa [List.length_map] at this
  have hb43 := hx13.get hb4 (by simp)
  have hb23 := hx13.get hb2 (by simp)
  have hlab := List.all_eq_true.1 (progB_labs hP)
  have hlb0 : ∀ p ∈ ls, labB p = true := hlab
  refine seq_assoc (seq_reg ?_)
  simp only [go_sem, binC]
  refine seq_block (wpc_loop ?_)
  suffices h : ∀ (k i : Nat) (e : Env) (Hc : Heap) (b : Nat) (so : Bool), i + k = ls.length → (H2.length ≠ b ∧ (b = H1.length ∨ H2.length < b)) → AgX [b, H1.length, H2.length] H3 Hc → (b = H1.length ∨ H3.length ≤ b) → Hc[H2.length]? = some ⟨[sli b 0 i, sli bv 0 l.length], 0, 0, false, true⟩ → OwnL Co.p2 2 59 H1.length [H2.length] Hc b so (turnLH row (ls.take i)) → e 1 = .slice wa row.length row.length → e 2 = ptr H.length 0 → e 4 = ptr (H.length + 1) 0 → e 6 = ptr H2.length 0 → e 7 = .int .i64 i → W F H.length _ e Hc _ from
    h ls.length 0 _ H3 H1.length true (by omega) ⟨by omega, .inl rfl⟩ (AgX.refl _ _) (.inl rfl) hb6 hO3 (by simp only [go_sem, binC]) (by simp only [go_sem, binC]) (by simp only [go_sem, binC]) (by simp only [go_sem, binC]) (by (simp only [go_sem, binC]) <;> rfl)
  intro k
  induction k with
  | zero =>
    intro i e Hc b so hi hbb hxc hb0 hb6c hOc e1 e2 e4 e6 e7
    have hb4c := hxc.get hb43 (by simp; omega)
    have hb4cl := (List.getElem?_eq_some_iff.1 hb4c).1
    refine lp_step ?_
    refine seq_assoc (seq_reg ?_)
    have hb2c := hxc.get hb23 (by simp; omega)
    simp only [go_sem, binC, e2, e7, gc_of hb2c, inBlk_some]
    refine seq_cond (t := false) (by simp only [go_sem, binC]; rw [decide_eq_false (by omega)]) ?_
    simp only [go_sem, binC]
    refine seq_exit ?_
    simp only [go_sem, binC, thenX_e, out_e, thenX_n]
    obtain rfl : i = ls.length := by omega
    rw [List.take_of_length_le (Nat.le_refl _)] at hOc
    refine seq_reg ?_
    simp only [go_sem, binC, e6, e4, gc_of hb6c, inBlk_some, hb4c]
    have hxf : AgX [H.length + 1] Hc (Hc.set (H.length + 1) ⟨[sli b 0 ls.length, sli bv 0 l.length], 0, 0, false, true⟩) := AgX.set _ _ _
    have hxH : AgX [H1.length, H2.length] H2 Hc := hx3.trans hxc (fun _ h _ => by cases h) (fun b' h1 h2 => by
      simp only [List.mem_cons, List.not_mem_nil, or_false] at h1 ⊢
      rcases h1 with rfl | h | h
      · rcases hb0 with h | h
        · exact .inl h
        · omega
      · exact .inl h
      · exact .inr h)
    have hx1c : AgX [] H1 Hc := (hxa.tr hx2).trans hxH (fun _ h _ => h) (fun b' h1 h2 => by simp only [List.mem_cons, List.not_mem_nil, or_false] at h1; omega)
    refine wpc_ret ⟨Or.inr rfl, .tuple #[.agg #[sli b 0 ls.length, sli bv 0 l.length], .bool true], ?_, _, _, by rw [hB], (hx1.tr hx1c).setN (by omega) _, ?_, ?_⟩
    · simp [resV, resL, res1, putE_get, notT, ptr, gc_set hb4cl, inBlk_some, valOf, e4, sli]
    · rw [hO]
      show SlR Co.p2 _ _ (turnLH row ls)
      have hq := hOc.sub (xs' := [H2.length]) hxf (by simp; rcases hb0 with h | h <;> omega) fun b' h1 h2 h3 h4 => ⟨by simp; omega, h4⟩
      have := hq.slR rfl (by simpa using fun h => hbb.1 h.symm)
      rw [turnLH_len] at this
      exact this.mono (vwl0 _ _ _)
    · rw [hO]
      refine s2.mono ?_
      exact ((vwl_sub (hxH.trans hxf (fun b' h _ => List.mem_cons_of_mem _ h) (fun b' h _ => by simp only [List.mem_singleton] at h; rw [h]; exact List.mem_cons_self) : AgX [H.length + 1, H1.length, H2.length] H2 _) (Nat.le_refl _) (xs' := []) (fun b' h0 h1 h2 => ⟨by simp; omega, by simp⟩))).trans (vwl0 _ _ _)
  | succ k ih =>
    intro i e Hc b so hi hbb hxc hb0 hb6c hOc e1 e2 e4 e6 e7
    have hil : i < ls.length := by omega
    have hw1 : IntKind.i64.wrap ((i : Int) + 1) = ((i + 1 : Nat) : Int) := by rw [wrap_id (by omega) (by omega)]; omega
    have hb2c := hxc.get hb23 (by simp; omega)
    have hxH : AgX [H1.length, H2.length] H2 Hc := hx3.trans hxc (fun _ h _ => by cases h) (fun b' h1 h2 => by
      simp only [List.mem_cons, List.not_mem_nil, or_false] at h1 ⊢
      rcases h1 with rfl | h | h
      · rcases hb0 with h | h
        · exact .inl h
        · omega
      · exact .inl h
      · exact .inr h)
    have hx1c : AgX [] H1 Hc := (hxa.tr hx2).trans hxH (fun _ h _ => h) (fun b' h1 h2 => by simp only [List.mem_cons, List.not_mem_nil, or_false] at h1; omega)
    obtain ⟨pb, po, hpv, hpg⟩ := gcP (r1'.mono (agx_sub hx1c)) hil
    simp only [Value.slice.injEq, and_true] at hpv
    subst hpv
    have hlb := labB_iff.1 (hlab ls[i] (List.getElem_mem hil))
    have r3c := r3'.mono (agx_sub hx1c)
    have gp0 : getCells Hc pb (po + i * 2) 1 = some [.int .i64 ls[i].1] := gc_part (off := 0) (k := 1) hpg (by omega)
    have gp1 : getCells Hc pb (po + i * 2 + 1) 1 = some [.int .i64 ls[i].2] := gc_part (off := 1) (k := 1) hpg (by omega)
    have htO : ∀ s : Int, 0 ≤ s ∧ s ≤ 7 → tsetO row s = tset row s := fun s hs => by
      unfold tsetO
      rw [inB_iff.2 hs, hR]
      rfl
    have hlc := hxc.1
    have hbcl := (List.getElem?_eq_some_iff.1 hb6c).1
    have hx1cl := hx1c.1
    refine lp_step ?_
    refine seq_assoc (seq_reg ?_)
    simp only [go_sem, binC, e2, e7, gc_of hb2c, inBlk_some]
    refine seq_cond (t := true) (by simp only [go_sem, binC]; rw [decide_eq_true (by omega)]) ?_
    simp only [go_sem, binC]
    refine seq_skip (seq_block (wpc_regD ?_))
    simp only [go_sem, binC, e1, e2, e6, e7, gc_of hb6c, gc_of hb2c, inBlk_some]
    refine ⟨⟨by omega, by omega⟩, ?_⟩
    simp only [go_sem, binC, Int.toNat_natCast, gp0, e1]
    refine op_callQ (by simp only [go_sem, binC, e1]; exact gt Hc _ _ row r3c) ?_
    simp only [go_sem, binC, e1, e2, e7, gc_of hb2c, inBlk_some]
    refine ⟨⟨by omega, by omega⟩, ?_⟩
    simp only [go_sem, binC, Int.toNat_natCast, gp1, e1]
    refine op_callQ (by simp only [go_sem, binC, e1]; exact gt Hc _ _ row r3c) ?_
    rw [htO _ hlb.1, htO _ hlb.2]
    have a1 := tset_bd hR hlb.1
    have a2 := tset_bd hR hlb.2
    simp only [go_sem, binC, e6]
    have hlt : (turnLH row (ls.take i)).length = i := by rw [turnLH_len, List.length_take]; omega
    refine op_app_own (A := Co.p2) (lo := H1.length) (a := (tset row ls[i].1, tset row ls[i].2)) hOc (by simp only [go_sem, binC, hlt]) (by (simp only [go_sem, binC]) <;> rfl) (by omega) rfl ⟨[.int .i64 (tset row ls[i].1)], [.int .i64 (tset row ls[i].2)], rfl, ⟨rfl, by omega, by omega⟩, ⟨rfl, by omega, by omega⟩⟩ (by omega) (by omega) (by simp; omega) fun H4 hx4 hO4 => ?_
    have hb64 := hx4.get hb6c (by simpa using hbb.1)
    have hx4l := hx4.1
    simp only [go_sem, binC, e6, hb64]
    refine ⟨by omega, ?_⟩
    simp only [go_sem, binC, out_n, thenX_n]
    have hb64l := (List.getElem?_eq_some_iff.1 hb64).1
    have htk : turnLH row (ls.take i) ++ [(tset row ls[i].1, tset row ls[i].2)] = turnLH row (ls.take (i + 1)) := by
      unfold turnLH
      rw [List.take_add_one, List.getElem?_eq_getElem hil, List.map_append]
      rfl
    rw [htk] at hO4
    rw [hlt]
    have hxs : AgX [H2.length] H4 (H4.set H2.length ⟨[sli (Hc.length + 1) 0 (i + 1), sli bv 0 l.length], 0, 0, false, true⟩) := AgX.set _ _ _
    have hO5 := hO4.sub (xs' := [H2.length]) hxs (by simp; omega) fun b' h1 h2 h3 h4 => ⟨by simpa using h4, h4⟩
    refine wpc_reg ?_
    simp only [go_sem, binC, e7, hw1]
    simp only [go_sem, binC, thenX_n]
    refine ih (i + 1) _ _ (Hc.length + 1) _ (by omega) ⟨by omega, .inr (by omega)⟩ ?_ (.inr (by omega)) (List.getElem?_set_self hb64l) hO5 (by simp only [go_sem, binC, e1]) (by simp only [go_sem, binC, e2]) (by simp only [go_sem, binC, e4]) (by simp only [go_sem, binC, e6]) (by simp only [go_sem, binC])
    refine (hxc.trans hx4 (zs := [Hc.length + 1, H1.length, H2.length]) (fun b' h1 h2 => ?_) (fun b' h1 h2 => ?_)).trans hxs (fun _ h _ => h) (fun b' h _ => by simp only [List.mem_singleton] at h; rw [h]; simp)
    · simp only [List.mem_cons, List.not_mem_nil, or_false] at h1 ⊢
      rcases h1 with rfl | h | h
      · rcases hb0 with h | h
        · exact .inr (.inl h)
        · omega
      · exact .inr (.inl h)
      · exact .inr (.inr h)
    · simp only [List.mem_cons, List.not_mem_nil, or_false] at h1 ⊢
      subst h1
      rcases hb0 with h | h
      · exact .inr (.inl h)
      · omega
end Go.Proofs.YtmakdcbpohlacaaI
end
section
/- The law FnExactTurnProg on the ideal machine. -/
set_option linter.unusedVariables false
set_option linter.unusedSimpArgs false
namespace Go.Proofs.YtmakdcbpohlacaaI
open Go Go.RowKit
def c_lawETP : IFn := ⟨2, 117, [.t 4],
 .seq (.reg none [
    ⟨(some 2), none, .box (.t 0)⟩,
    ⟨(some 4), none, .mov (.c (.bool false))⟩])
 (.seq (.seq (.reg none [
     ⟨(some 17), none, .mov (.t 1)⟩,
     ⟨(some 18), none, .len (.t 17)⟩,
     ⟨(some 19), none, .bin .gtr (.t 18) (.c (.int .i64 1048576))⟩])
  (.cond (.t 19) (.seq (.reg none [
      ⟨(some 4), none, .mov (.c (.bool true))⟩])
   (.ret)) (.skip)))
 (.seq (.reg none [
    ⟨(some 5), none, .mov (.c (.int .i64 1048576))⟩])
 (.seq (.reg none [
    ⟨(some 20), none, .load true 2 (.t 2)⟩,
    ⟨(some 21), none, .mov (.t 5)⟩,
    ⟨(some 22), none, .call .q (.f 7) [(.t 20), (.t 21)]⟩,
    ⟨(some 5), none, .mov (.t 22)⟩])
 (.seq (.seq (.reg none [
     ⟨(some 23), none, .mov (.t 5)⟩,
     ⟨(some 24), none, .bin .lss (.t 23) (.c (.int .i64 0))⟩])
  (.cond (.t 24) (.seq (.reg none [
      ⟨(some 4), none, .mov (.c (.bool true))⟩])
   (.ret)) (.skip)))
 (.seq (.reg none [
    ⟨(some 26), none, .load true 2 (.t 2)⟩,
    ⟨(some 27), none, .call .k (.f 9) [(.t 26)]⟩,
    ⟨(some 28), none, .mov (.t 1)⟩,
    ⟨(some 29), none, .call .k (.f 10) [(.t 28)]⟩,
    ⟨(some 30), none, .call .k (.f 17) [(.t 27), (.t 29)]⟩,
    ⟨(some 25), none, .mov (.t 30)⟩,
    ⟨(some 31), none, .ext (.t 25) 0⟩,
    ⟨(some 32), none, .ext (.t 25) 1⟩,
    ⟨(some 6), none, .new [(.slice none 0 0), (.slice none 0 0)]⟩,
    ⟨none, none, .store 2 (.t 6) (.t 31)⟩,
    ⟨(some 7), none, .mov (.t 32)⟩])
 (.seq (.reg none [
    ⟨(some 33), none, .load true 2 (.t 2)⟩,
    ⟨(some 34), none, .call .k (.f 9) [(.t 33)]⟩,
    ⟨(some 8), none, .new [(.slice none 0 0), (.slice none 0 0)]⟩,
    ⟨none, none, .store 2 (.t 8) (.t 34)⟩])
 (.seq (.reg none [
    ⟨(some 35), none, .mov (.t 1)⟩,
    ⟨(some 36), none, .call .k (.f 10) [(.t 35)]⟩,
    ⟨(some 9), none, .mov (.t 36)⟩])
 (.seq (.reg none [
    ⟨(some 38), none, .load true 2 (.t 8)⟩,
    ⟨(some 39), none, .mov (.t 9)⟩,
    ⟨(some 40), none, .call .k (.f 18) [(.t 38), (.t 39)]⟩,
    ⟨(some 37), none, .mov (.t 40)⟩,
    ⟨(some 41), none, .ext (.t 37) 0⟩,
    ⟨(some 42), none, .ext (.t 37) 1⟩,
    ⟨(some 10), none, .new [(.slice none 0 0), (.slice none 0 0)]⟩,
    ⟨none, none, .store 2 (.t 10) (.t 41)⟩,
    ⟨(some 11), none, .mov (.t 42)⟩])
 (.seq (.seq (.reg none [
     ⟨(some 43), none, .load true 2 (.t 10)⟩,
     ⟨(some 44), none, .load true 2 (.t 6)⟩,
     ⟨(some 45), none, .call .q (.f 12) [(.t 43), (.t 44)]⟩,
     ⟨(some 46), none, .un .not (.t 45)⟩,
     ⟨(some 47), none, .mov (.t 46)⟩,
     ⟨(some 48), (some (47, false)), .mov (.t 11)⟩,
     ⟨(some 49), (some (47, false)), .mov (.t 7)⟩,
     ⟨(some 50), (some (47, false)), .beq true (.t 48) (.t 49)⟩,
     ⟨(some 51), none, .pick (.t 47) (.c (.bool true)) (.t 50)⟩])
  (.cond (.t 51) (.seq (.reg none [
      ⟨(some 4), none, .mov (.c (.bool false))⟩])
   (.ret)) (.skip)))
 (.seq (.seq (.reg (some 3) [
     ⟨(some 52), none, .load true 2 (.t 8)⟩,
     ⟨(some 53), none, .load true 2 (.t 2)⟩,
     ⟨(some 54), none, .call .k (.f 9) [(.t 53)]⟩,
     ⟨(some 55), none, .call .q (.f 12) [(.t 52), (.t 54)]⟩,
     ⟨(some 56), none, .un .not (.t 55)⟩])
  (.cond (.t 56) (.seq (.reg none [
      ⟨(some 4), none, .mov (.c (.bool false))⟩])
   (.ret)) (.skip)))
 (.seq (.seq (.reg none [
     ⟨(some 57), none, .mov (.t 9)⟩,
     ⟨(some 58), none, .mov (.t 1)⟩,
     ⟨(some 59), none, .call .k (.f 10) [(.t 58)]⟩,
     ⟨(some 60), none, .call .q (.f 13) [(.t 57), (.t 59)]⟩,
     ⟨(some 61), none, .un .not (.t 60)⟩])
  (.cond (.t 61) (.seq (.reg none [
      ⟨(some 4), none, .mov (.c (.bool false))⟩])
   (.ret)) (.skip)))
 (.seq (.reg none [
    ⟨(some 12), none, .mov (.c (.int .i64 1))⟩])
 (.seq (.reg none [
    ⟨(some 62), none, .load true 2 (.t 8)⟩,
    ⟨(some 63), none, .mov (.t 12)⟩,
    ⟨(some 64), none, .call .n (.f 14) [(.t 62), (.t 63)]⟩,
    ⟨(some 12), none, .mov (.t 64)⟩])
 (.seq (.reg none [
    ⟨(some 65), none, .mov (.t 9)⟩,
    ⟨(some 66), none, .mov (.t 12)⟩,
    ⟨(some 67), none, .call .n (.f 15) [(.t 65), (.t 66)]⟩,
    ⟨(some 12), none, .mov (.t 67)⟩])
 (.seq (.seq (.reg none [
     ⟨(some 68), none, .mov (.t 12)⟩,
     ⟨(some 69), none, .bin .lss (.t 68) (.c (.int .i64 0))⟩,
     ⟨(some 70), none, .mov (.t 69)⟩,
     ⟨(some 71), (some (70, false)), .load true 2 (.t 10)⟩,
     ⟨(some 72), (some (70, false)), .load true 2 (.t 6)⟩,
     ⟨(some 73), (some (70, false)), .call .q (.f 12) [(.t 71), (.t 72)]⟩,
     ⟨(some 74), (some (70, false)), .un .not (.t 73)⟩,
     ⟨(some 75), none, .pick (.t 70) (.c (.bool true)) (.t 74)⟩,
     ⟨(some 76), none, .mov (.t 75)⟩,
     ⟨(some 77), (some (76, false)), .mov (.t 11)⟩,
     ⟨(some 78), (some (76, false)), .mov (.t 7)⟩,
     ⟨(some 79), (some (76, false)), .beq true (.t 77) (.t 78)⟩,
     ⟨(some 80), none, .pick (.t 76) (.c (.bool true)) (.t 79)⟩])
  (.cond (.t 80) (.seq (.reg none [
      ⟨(some 4), none, .mov (.c (.bool false))⟩])
   (.ret)) (.skip)))
 (.seq (.reg none [
    ⟨(some 13), none, .mov (.c (.int .i64 1))⟩])
 (.seq (.reg none [
    ⟨(some 81), none, .load true 2 (.t 10)⟩,
    ⟨(some 82), none, .mov (.t 13)⟩,
    ⟨(some 83), none, .call .n (.f 14) [(.t 81), (.t 82)]⟩,
    ⟨(some 13), none, .mov (.t 83)⟩])
 (.seq (.reg none [
    ⟨(some 14), none, .mov (.c (.int .i64 1))⟩])
 (.seq (.reg none [
    ⟨(some 84), none, .load true 2 (.t 10)⟩,
    ⟨(some 85), none, .mov (.t 14)⟩,
    ⟨(some 86), none, .call .q (.f 16) [(.t 84), (.t 85)]⟩,
    ⟨(some 14), none, .mov (.t 86)⟩])
 (.seq (.seq (.reg none [
     ⟨(some 87), none, .mov (.t 14)⟩,
     ⟨(some 88), none, .bin .lss (.t 87) (.c (.int .i64 0))⟩])
  (.cond (.t 88) (.seq (.reg none [
      ⟨(some 4), none, .mov (.c (.bool false))⟩])
   (.ret)) (.skip)))
 (.seq (.seq (.reg none [
     ⟨(some 89), none, .mov (.t 14)⟩,
     ⟨(some 90), none, .mov (.t 13)⟩,
     ⟨(some 91), none, .bin .neq (.t 89) (.t 90)⟩])
  (.cond (.t 91) (.seq (.reg none [
      ⟨(some 4), none, .mov (.c (.bool false))⟩])
   (.ret)) (.skip)))
 (.seq (.reg none [
    ⟨(some 93), none, .load true 2 (.t 2)⟩,
    ⟨(some 94), none, .call .k (.f 9) [(.t 93)]⟩,
    ⟨(some 95), none, .mov (.t 1)⟩,
    ⟨(some 96), none, .call .k (.f 10) [(.t 95)]⟩,
    ⟨(some 97), none, .call .k (.f 18) [(.t 94), (.t 96)]⟩,
    ⟨(some 92), none, .mov (.t 97)⟩,
    ⟨(some 98), none, .ext (.t 92) 0⟩,
    ⟨(some 99), none, .ext (.t 92) 1⟩,
    ⟨(some 15), none, .new [(.slice none 0 0), (.slice none 0 0)]⟩,
    ⟨none, none, .store 2 (.t 15) (.t 98)⟩,
    ⟨(some 16), none, .mov (.t 99)⟩])
 (.seq (.seq (.reg none [
     ⟨(some 100), none, .load true 2 (.t 15)⟩,
     ⟨(some 101), none, .load true 2 (.t 6)⟩,
     ⟨(some 102), none, .call .q (.f 12) [(.t 100), (.t 101)]⟩,
     ⟨(some 103), none, .un .not (.t 102)⟩,
     ⟨(some 104), none, .mov (.t 103)⟩,
     ⟨(some 105), (some (104, false)), .mov (.t 16)⟩,
     ⟨(some 106), (some (104, false)), .mov (.t 7)⟩,
     ⟨(some 107), (some (104, false)), .beq true (.t 105) (.t 106)⟩,
     ⟨(some 108), none, .pick (.t 104) (.c (.bool true)) (.t 107)⟩])
  (.cond (.t 108) (.seq (.reg none [
      ⟨(some 4), none, .mov (.c (.bool false))⟩])
   (.ret)) (.skip)))
 (.seq (.reg none [
    ⟨(some 14), none, .mov (.c (.int .i64 1))⟩])
 (.seq (.reg none [
    ⟨(some 109), none, .load true 2 (.t 10)⟩,
    ⟨(some 110), none, .mov (.t 14)⟩,
    ⟨(some 111), none, .call .q (.f 16) [(.t 109), (.t 110)]⟩,
    ⟨(some 14), none, .mov (.t 111)⟩])
 (.seq (.seq (.reg none [
     ⟨(some 112), none, .mov (.t 14)⟩,
     ⟨(some 113), none, .bin .lss (.t 112) (.c (.int .i64 0))⟩])
  (.cond (.t 113) (.seq (.reg none [
      ⟨(some 4), none, .mov (.c (.bool false))⟩])
   (.ret)) (.skip)))
 (.seq (.seq (.reg none [
     ⟨(some 114), none, .mov (.t 14)⟩,
     ⟨(some 115), none, .mov (.t 13)⟩,
     ⟨(some 116), none, .bin .neq (.t 114) (.t 115)⟩])
  (.cond (.t 116) (.seq (.reg none [
      ⟨(some 4), none, .mov (.c (.bool false))⟩])
   (.ret)) (.skip)))
 (.seq (.reg none [
    ⟨(some 4), none, .mov (.c (.bool true))⟩])
 (.ret)))))))))))))))))))))))))))))⟩
theorem slA_un {V : Vw} {v : Value} {l : List Int} (h : Rd (Co.sl Co.int) false V v l) : SlR Co.int V v l := by
  obtain ⟨cs, hc, u, rfl, hr⟩ := h
  simp only [valOf_one, Option.some.injEq] at hc
  subst hc
  exact hr
theorem slA_mk {V : Vw} {v : Value} {l : List Int} (h : SlR Co.int V v l) : Rd (Co.sl Co.int) false V v l := ⟨_, rfl, v, rfl, h⟩
set_option maxHeartbeats 8000000 in
theorem lawETP_ok {F : Nat → Option IFn} {f : Nat} (hf : F f = some c_lawETP) (gsz : ∀ n, SzT F (Co.prog n) true 7 (tP n)) (gto : ∀ n, ToOkS F (Co.prog n) true .k 9) (gti : ToOkS F (Co.sl Co.int) false .k 10) (gs : TurnPOk F 17 (fun _ => 3) turnLH turnH) (gi : TurnPOwn F 18 (fun _ => 3) turnLH turnH) (geq : ∀ n, EqOk F (Co.prog n) true 12) (gei : EqOk F (Co.sl Co.int) false 13) (gmp : ∀ n, MkOk F (Co.prog n) true 14 (cP n))
    (gmo : ∀ {H : Heap} {v : Value} {l : List Int} {lo hi lo0 : Nat} {k : Int}, SlR Co.int (vwb lo hi H) v l → hi ≤ H.length → lo0 ≤ lo → 0 ≤ k → k + (l.length : Int) ≤ 9223372036854775807 → ∃ H', NC F lo0 15 [v, .int .i64 k] H (.int .i64 (k + (l.length : Int))) H' ∧ (H.length ≤ H'.length ∧ ∀ b', b' < H.length → b' < lo ∨ hi ≤ b' → H'[b']? = H[b']?))
    (hmp : F 14 = some c_markProg) (gml : MarkFlat F 2 40) (gms : ∀ n, MkOwn F 41 n) (hhp : F 16 = some c_heldProg) (ghl : HeldFlat F 2 42) (ghs : ∀ n, HeS F 43 n) :
    ∀ (H : Heap) (n : Nat) (v u : Value) (a : TProg n) (ts : List Int), Rd (Co.prog n) true (vw 0 H) v a → SlR Co.int (vw 0 H) u ts → QC F f [v, u] H (.bool true) := by
  rintro H n v u ⟨ls, l⟩ ts hv hu
  obtain ⟨lv, sv, rfl, r1, r2⟩ := prog_un hv
  obtain ⟨_, la, rfl, _⟩ := id r1
  obtain ⟨_, sa, rfl, _⟩ := id r2
  obtain ⟨_, ta, rfl, _⟩ := id hu
  refine QC.mk hf rfl ?_
  refine seq_reg ?_
  simp only [go_sem, binC]
  refine wpc_gen fun H1 hH1 => ?_
  have x1 : AgX [] H H1 := hH1 ▸ AgX.app [] _ _
  have hb2 : H1[H.length]? = some ⟨[.slice la ls.length ls.length, .slice sa l.length l.length], 0, 0, false, true⟩ := hH1 ▸ get_new0 _ _
  have hn1 : H1.length = H.length + 1 := by rw [hH1, List.length_append]; rfl
  clear hH1 hv
  replace r1 := r1.mono (agx_sub x1)
  replace r2 := r2.mono (agx_sub x1)
  replace hu := hu.mono (agx_sub x1)
  refine seq_assoc (seq_reg ?_)
  simp only [go_sem, binC]
  by_cases hbig : 1048576 < (ts.length : Int)
  · refine seq_cond (t := true) (by simp only [go_sem, binC]; rw [decide_eq_true hbig]) ?_
    simp only [go_sem, binC]
    refine seq_assoc (seq_reg ?_)
    simp only [go_sem, binC]
    exact seq_ret ⟨Or.inr rfl, .bool true, by simp only [go_sem, binC], rfl, rfl⟩
  refine seq_cond (t := false) (by simp only [go_sem, binC]; rw [decide_eq_false hbig]) ?_
  simp only [go_sem, binC]
  refine seq_skip (seq_reg ?_)
  simp only [go_sem, binC]
  refine seq_reg ?_
  simp only [go_sem, binC, gc_of hb2, inBlk_some]
  obtain ⟨r, q1, q2, q3⟩ := gsz n H1 _ (ls, l) 1048576 (prog_rd r1 r2) (by omega) (by omega)
  refine op_callQ (by simp only [go_sem, binC]; exact q1) ?_
  simp only [go_sem, binC]
  refine seq_assoc (seq_reg ?_)
  simp only [go_sem, binC]
  by_cases hneg : r < 0
  · refine seq_cond (t := true) (by simp only [go_sem, binC]; rw [decide_eq_true hneg]) ?_
    simp only [go_sem, binC]
    refine seq_assoc (seq_reg ?_)
    simp only [go_sem, binC]
    exact seq_ret ⟨Or.inr rfl, .bool true, by simp only [go_sem, binC], rfl, rfl⟩
  refine seq_cond (t := false) (by simp only [go_sem, binC]; rw [decide_eq_false hneg]) ?_
  simp only [go_sem, binC]
  obtain ⟨hsm, htot⟩ := q3 (by omega)
  have hcp := cP_le (n := n) (ls, l)
  have hsi : (Co.sl Co.int).sm ts := ⟨by omega, fun _ _ => trivial⟩
  obtain ⟨hO1, hO2⟩ := turnO_bd (n := n) (m := (fun _ => 3)) (lab := turnLH) (T := turnH) (turnLH_len) (ls := ls) (l := l) (row := ts)
  -- what is wanted
  refine seq_skip (seq_reg ?_)
  simp only [go_sem, binC, gc_of hb2, inBlk_some]
  refine (gto n).x (prog_rd r1 r2) hsm (by simp only [go_sem, binC]) fun w Ha xa ha => ?_
  obtain ⟨lw, sw, rfl, w1, w2⟩ := prog_un ha
  obtain ⟨_, aw1, rfl, _⟩ := id w1
  obtain ⟨_, aw2, rfl, _⟩ := id w2
  simp only [go_sem, binC]
  refine gti.x (slA_mk (hu.mono (agx_sub xa))) hsi (by simp only [go_sem, binC]) fun wt Hb xb hwt => ?_
  replace hwt := slA_un hwt
  obtain ⟨_, aw3, rfl, _⟩ := id hwt
  simp only [go_sem, binC]
  obtain ⟨lz, sz, Hc, kc, xc, z1, z2⟩ := gs Hb n _ _ _ ls l ts (w1.mono (vws_x xb)) (w2.mono (vws_x xb)) hsm (hwt.mono (vws_x (AgX.refl _ _)))
  obtain ⟨P, hPL⟩ : ∃ P, turnO n (fun _ => 3) turnLH turnH ls l ts = P := ⟨_, rfl⟩
  rw [hPL] at z1 z2 hO1 hO2
  have hO3 : cP n (P.1, P.2) ≤ cP n (ls, l) := hO2
  obtain ⟨fo, hfo⟩ : ∃ fo, turnB n (fun _ => 3) ls l ts = fo := ⟨_, rfl⟩
  rw [hfo] at kc
  refine op_callK (by simp only [go_sem, binC]; exact kc) ?_
  have hrgP := p2_rg z1
  obtain ⟨_, za, rfl, _⟩ := id z1
  obtain ⟨_, zb, rfl, _⟩ := id z2
  have la' := xa.1
  have lb' := xb.1
  have lc' := xc.1
  simp only [go_sem, binC]
  refine ⟨by omega, ?_⟩
  refine wpc_gen fun H2 hH2 => ?_
  have xc2 : AgX [] Hc H2 := hH2 ▸ AgX.app [] _ _
  have hb6 : H2[Hc.length]? = some ⟨[.slice za P.1.length P.1.length, .slice zb P.2.length P.2.length], 0, 0, false, true⟩ := hH2 ▸ get_new0 _ _
  have hn2 : H2.length = Hc.length + 1 := by rw [hH2, List.length_append]; rfl
  clear hH2 kc
  have x12 : AgX [] H1 H2 := ((xa.tr xb).tr xc).tr xc2
  replace z1 := z1.mono (agx_sub xc2)
  replace z2 := z2.mono (agx_sub xc2)
  -- the first argument
  have hb22 := x12.get hb2 (by simp)
  refine seq_reg ?_
  simp only [go_sem, binC, gc_of hb22, inBlk_some]
  refine (gto n).x (prog_rd (r1.mono (agx_sub x12)) (r2.mono (agx_sub x12))) hsm (by simp only [go_sem, binC]) fun w0 H3 x3 ha3 => ?_
  obtain ⟨lx, sx, rfl, y1, y2⟩ := prog_un ha3
  obtain ⟨_, ax1, rfl, _⟩ := id y1
  obtain ⟨_, ax2, rfl, _⟩ := id y2
  have l3' := x3.1
  simp only [go_sem, binC]
  refine ⟨by omega, ?_⟩
  refine wpc_gen fun H4 hH4 => ?_
  have x34 : AgX [] H3 H4 := hH4 ▸ AgX.app [] _ _
  have hb8 : H4[H3.length]? = some ⟨[.slice ax1 ls.length ls.length, .slice ax2 l.length l.length], 0, 0, false, true⟩ := hH4 ▸ get_new0 _ _
  have hn4 : H4.length = H3.length + 1 := by rw [hH4, List.length_append]; rfl
  clear hH4
  have x14 := (x12.tr x3).tr x34
  -- the second argument
  refine seq_reg ?_
  simp only [go_sem, binC]
  refine gti.x (slA_mk (hu.mono (agx_sub x14))) hsi (by simp only [go_sem, binC]) fun vx H5 x5 hvx => ?_
  replace hvx := slA_un hvx
  obtain ⟨_, ax3, rfl, _⟩ := id hvx
  have l5' := x5.1
  simp only [go_sem, binC]
  -- what is got
  have hb85 := x5.get hb8 (by simp)
  have x35 := x34.tr x5
  refine seq_reg ?_
  simp only [go_sem, binC, gc_of hb85, inBlk_some]
  obtain ⟨iv, ih, H6, k6, x6, hL, B, hOw⟩ := gi H5 n _ _ _ ls l ts (y1.mono (vws_x x35)) (y2.mono (vws_x x35)) hsm (hvx.mono (vws_x (AgX.refl _ _)))
  rw [hPL] at hL hOw
  rw [hfo] at k6
  obtain ⟨bL, fl, hkL⟩ := hL.flat (by omega)
  have i1 : SlR Co.p2 (vw 0 H6) iv P.1 := hL.sl hrgP hO1
  have i2 : SlR (Co.step n) (vw 0 H6) ih P.2 := hOw.sl.mono ((vws_vw _ _).trans (vw_grow (Nat.zero_le _) fun _ _ _ => rfl))
  refine op_callK (by simp only [go_sem, binC]; exact k6) ?_
  obtain ⟨_, ia, rfl, _⟩ := id i1
  obtain ⟨_, ib, rfl, _⟩ := id i2
  have l6' := x6.1
  simp only [go_sem, binC]
  refine ⟨by omega, ?_⟩
  refine wpc_gen fun H7 hH7 => ?_
  have x67 : AgX [] H6 H7 := hH7 ▸ AgX.app [] _ _
  have hb10 : H7[H6.length]? = some ⟨[.slice ia P.1.length P.1.length, .slice ib P.2.length P.2.length], 0, 0, false, true⟩ := hH7 ▸ get_new0 _ _
  have hn7 : H7.length = H6.length + 1 := by rw [hH7, List.length_append]; rfl
  clear hH7 k6
  have x57 := x6.tr x67
  have x27 := ((x3.tr x34).tr x5).tr x57
  have hb67 := x27.get hb6 (by simp)
  have hb87 := x57.get hb85 (by simp)
  have hb27 := x27.get hb22 (by simp)
  have x17 := x12.tr x27
  have hk7 := geq n H7 _ _ P (prog_rd (i1.mono (agx_sub x67)) (i2.mono (agx_sub x67))) (prog_rd (z1.mono (agx_sub x27)) (z2.mono (agx_sub x27)))
  refine seq_assoc (seq_reg ?_)
  simp only [go_sem, binC, gc_of hb10, gc_of hb67, inBlk_some]
  refine op_callQ (by simp only [go_sem, binC]; exact hk7) ?_
  simp only [go_sem, binC, bne_self_eq_false, beq_self_eq_true, Bool.not_true]
  refine seq_cond (t := false) rfl ?_
  simp only [go_sem, binC]
  -- what was handed in reads as it did
  refine seq_skip (seq_assoc (seq_regD ?_))
  simp only [go_sem, binC, gc_of hb87, gc_of hb27, inBlk_some]
  refine (gto n).x (prog_rd (r1.mono (agx_sub x17)) (r2.mono (agx_sub x17))) hsm (by simp only [go_sem, binC]) fun w8 H8 x8 ha8 => ?_
  simp only [go_sem, binC]
  refine op_callQ (by simp only [go_sem, binC]; exact geq n H8 _ _ (ls, l) (prog_rd (y1.mono (vws_x ((x35.tr x57).tr x8))) (y2.mono (vws_x ((x35.tr x57).tr x8)))) (ha8.mono (vws_x (AgX.refl _ _)))) ?_
  simp only [go_sem, binC]
  refine seq_cond (t := false) rfl ?_
  simp only [go_sem, binC]
  refine seq_skip (seq_assoc (seq_reg ?_))
  simp only [go_sem, binC]
  refine gti.x (slA_mk (hu.mono (agx_sub (x17.tr x8)))) hsi (by simp only [go_sem, binC]) fun w9 H9 x9 ha9 => ?_
  simp only [go_sem, binC]
  refine op_callQ (by simp only [go_sem, binC]; exact gei H9 _ _ ts (slA_mk (hvx.mono (vws_x ((x57.tr x8).tr x9)))) (ha9.mono (vws_x (AgX.refl _ _)))) ?_
  simp only [go_sem, binC]
  refine seq_cond (t := false) rfl ?_
  simp only [go_sem, binC]
  have x79 := x8.tr x9
  have l9' := x79.1
  -- marks
  refine seq_skip (seq_reg ?_)
  simp only [go_sem, binC]
  have x39 := (x35.tr x57).tr x79
  have x59 := x57.tr x79
  have hb89 := x79.get hb87 (by simp)
  obtain ⟨H10, k10, fr10⟩ := gmp n H9 _ (ls, l) H2.length H3.length H.length 1 (prog_rd (y1.mono (vws_b x39)) (y2.mono (vws_b x39))) x39.1 (by omega) (by omega) (by omega)
  refine seq_reg ?_
  simp only [go_sem, binC, gc_of hb89, inBlk_some]
  refine op_callN (by simp only [go_sem, binC]; exact k10) ?_
  simp only [go_sem, binC]
  have l35' := x35.1
  have l57' := x57.1
  have Vx : Sub (vwb H4.length H5.length H9) (vwb H4.length H5.length H10) := vwb_same fun b h1 h2 => fr10.out (by have := x59.1; omega) (.inr (by omega))
  have l10' := fr10.1
  obtain ⟨H11, k11, l11', fr11⟩ := gmo (lo0 := H.length) (k := 1 + ((cP n (ls, l) : Nat) : Int)) ((hvx.mono (vws_b x59)).mono Vx) (by have := x59.1; omega) (by omega) (by omega) (by omega)
  refine seq_reg ?_
  simp only [go_sem, binC]
  refine op_callN (by simp only [go_sem, binC]; exact k11) ?_
  simp only [go_sem, binC]
  -- marked memory leaves what was got
  have hout : ∀ b, b < H9.length → (b < H2.length ∨ (H3.length ≤ b ∧ b < H4.length) ∨ H5.length ≤ b) → H11[b]? = H9[b]? := fun b h1 h2 => (fr11 b (by omega) (by omega)).trans (fr10.out (by omega) (by omega))
  have hg : ∀ {b : Nat} {k : Blk}, H9[b]? = some k → (b < H2.length ∨ (H3.length ≤ b ∧ b < H4.length) ∨ H5.length ≤ b) → H11[b]? = some k := fun h h2 => (hout _ (List.getElem?_eq_some_iff.1 h).1 h2).trans h
  have hb69 := x79.get hb67 (by simp)
  have hb109 := x79.get hb10 (by simp)
  have hb611 := hg hb69 (by omega)
  have hb1011 := hg hb109 (by omega)
  have hb29 := x79.get hb27 (by simp)
  have hb211 := hg hb29 (by omega)
  have l27' := x27.1
  have x211 : AgX [] H2 H11 := ⟨by omega, fun b hb _ => (hout b (by omega) (.inl hb)).trans ((x27.tr x79).2 b hb (by simp))⟩
  have x111 : AgX [] H1 H11 := x12.tr x211
  have x69 := x67.tr x79
  have l69' := x69.1
  have hown : ∀ b, H5.length ≤ b → b < H6.length → H11[b]? = H6[b]? := fun b h1 h2 => (hout b (by omega) (.inr (.inr h1))).trans (x69.2 b h2 (by simp))
  have hOw11 : OwnT H5.length H11 n (.slice ib P.2.length P.2.length) P.2 B := hOw.keep (Nat.le_refl _) fun b hb => hown b (hOw.ge b hb).1 (hOw.ge b hb).2.1
  have tL : P.1.length = 0 ∨ (H5.length ≤ bL ∧ bL < H6.length) := by
    obtain ⟨_, _, _, h3⟩ := fl
    exact h3.imp id fun h => ⟨h.2.1, h.2.2.1⟩
  have q1 := fl.mono (hi' := H11.length) (by omega) (tL.imp id fun h => hown _ h.1 h.2)
  have hkL11 : P.1 = [] ∨ ∃ cs, H11[bL]? = some ⟨cs, 2, 59, true, true⟩ := by
    rcases hkL with h | ⟨cs, h⟩
    · exact .inl h
    · by_cases h0 : P.1.length = 0
      · exact .inl (List.eq_nil_of_length_eq_zero h0)
      · have := tL.resolve_left h0
        exact .inr ⟨cs, (hown _ this.1 this.2).trans h⟩
  have hL11 : SlR Co.p2 (vw 0 H11) (.slice ia P.1.length P.1.length) P.1 := by
    have hL' : LabV H5.length H11 (.slice ia P.1.length P.1.length) P.1 := by
      rcases hL with h | ⟨b, h1, h2, h3, h4⟩
      · exact .inl h
      · exact .inr ⟨b, h1, h2, h3, (hown b h1 (List.getElem?_eq_some_iff.1 h4).1).trans h4⟩
    exact hL'.sl hrgP hO1
  have hS11 : SlR (Co.step n) (vw 0 H11) (.slice ib P.2.length P.2.length) P.2 := hOw11.sl.mono ((vws_vw _ _).trans (vw_grow (Nat.zero_le _) fun _ _ _ => rfl))
  have hk11 := geq n H11 _ _ P (prog_rd hL11 hS11) (prog_rd (z1.mono (agx_sub x211)) (z2.mono (agx_sub x211)))
  refine seq_assoc (seq_reg ?_)
  simp only [go_sem, binC]
  rw [decide_eq_false (show ¬ (1 + ((cP n (ls, l) : Nat) : Int) + (ts.length : Int) < 0) by omega)]
  simp only [go_sem, binC, gc_of hb1011, gc_of hb611, inBlk_some]
  refine op_callQ (by simp only [go_sem, binC]; exact hk11) ?_
  simp only [go_sem, binC, bne_self_eq_false, beq_self_eq_true, Bool.not_true]
  refine seq_cond (t := false) rfl ?_
  simp only [go_sem, binC]
  -- marks on what was got
  obtain ⟨H12, k12, ⟨l12, o12⟩, e1, e2⟩ := mkProgOwn_ok (lo0 := H.length) hmp gml (gms n) q1 hkL11 hOw11 (by omega) (by omega) (by omega)
  refine seq_skip (seq_reg ?_)
  simp only [go_sem, binC]
  refine seq_reg ?_
  simp only [go_sem, binC, gc_of hb1011, inBlk_some]
  refine op_callN (by simp only [go_sem, binC]; exact k12) ?_
  simp only [go_sem, binC]
  have hb1012 := (o12 _ (List.getElem?_eq_some_iff.1 hb1011).1 (.inr ⟨_, hb1011, rfl⟩)).trans hb1011
  have hb612 := (o12 _ (List.getElem?_eq_some_iff.1 hb611).1 (.inr ⟨_, hb611, rfl⟩)).trans hb611
  have hb212 := (o12 _ (List.getElem?_eq_some_iff.1 hb211).1 (.inr ⟨_, hb211, rfl⟩)).trans hb211
  have hq12 := heProg_ok hhp ghl (ghs n) (tL.imp id fun h => by omega) e1 e2 (by omega)
  have ng : ¬ (1 + ((cP n (P.1, P.2) : Nat) : Int) < 0) := by omega
  refine seq_reg ?_
  simp only [go_sem, binC]
  refine seq_reg ?_
  simp only [go_sem, binC, gc_of hb1012, inBlk_some]
  refine op_callQ (by simp only [go_sem, binC]; exact hq12) ?_
  simp only [go_sem, binC]
  refine seq_assoc (seq_reg ?_)
  simp only [go_sem, binC]
  refine seq_cond (t := false) (by simp only [go_sem, binC]; rw [decide_eq_false ng]) ?_
  simp only [go_sem, binC]
  refine seq_skip (seq_assoc (seq_reg ?_))
  simp only [go_sem, binC, bne_self_eq_false]
  refine seq_cond (t := false) rfl ?_
  simp only [go_sem, binC]
  -- done again
  have x112 : AgX [] H1 H12 := ⟨Nat.le_trans x111.1 l12, fun b hb _ => (o12 b (by omega) (.inl (by omega))).trans (x111.2 b hb (by simp))⟩
  have x212 : AgX [] H2 H12 := ⟨Nat.le_trans x211.1 l12, fun b hb _ => (o12 b (by omega) (.inl (by omega))).trans (x211.2 b hb (by simp))⟩
  refine seq_skip (seq_reg ?_)
  simp only [go_sem, binC, gc_of hb212, inBlk_some]
  refine (gto n).x (prog_rd (r1.mono (agx_sub x112)) (r2.mono (agx_sub x112))) hsm (by simp only [go_sem, binC]) fun w13 H13 x13 ha13 => ?_
  obtain ⟨lg, sg, rfl, p1, p2⟩ := prog_un ha13
  obtain ⟨_, ag1, rfl, _⟩ := id p1
  obtain ⟨_, ag2, rfl, _⟩ := id p2
  simp only [go_sem, binC]
  refine gti.x (slA_mk (hu.mono (agx_sub (x112.tr x13)))) hsi (by simp only [go_sem, binC]) fun w14 H14 x14' ha14 => ?_
  replace ha14 := slA_un ha14
  obtain ⟨_, ag3, rfl, _⟩ := id ha14
  simp only [go_sem, binC]
  obtain ⟨gv, gh, H15, k15, x15, hL15, B15, hO15⟩ := gi H14 n _ _ _ ls l ts (p1.mono (vws_x x14')) (p2.mono (vws_x x14')) hsm (ha14.mono (vws_x (AgX.refl _ _)))
  rw [hPL] at hL15 hO15
  rw [hfo] at k15
  have s1 : SlR Co.p2 (vw 0 H15) gv P.1 := hL15.sl hrgP hO1
  have s2 : SlR (Co.step n) (vw 0 H15) gh P.2 := hO15.sl.mono ((vws_vw _ _).trans (vw_grow (Nat.zero_le _) fun _ _ _ => rfl))
  refine op_callK (by simp only [go_sem, binC]; exact k15) ?_
  obtain ⟨_, ga, rfl, _⟩ := id s1
  obtain ⟨_, gb, rfl, _⟩ := id s2
  have l13' := x13.1
  have l14' := x14'.1
  have l15' := x15.1
  simp only [go_sem, binC]
  refine ⟨by omega, ?_⟩
  refine wpc_gen fun H16 hH16 => ?_
  have x1516 : AgX [] H15 H16 := hH16 ▸ AgX.app [] _ _
  have hb15 : H16[H15.length]? = some ⟨[.slice ga P.1.length P.1.length, .slice gb P.2.length P.2.length], 0, 0, false, true⟩ := hH16 ▸ get_new0 _ _
  clear hH16 k15
  have x1216 := ((x13.tr x14').tr x15).tr x1516
  have hb616 := x1216.get hb612 (by simp)
  have hb1016 := x1216.get hb1012 (by simp)
  have x216 := x212.tr x1216
  have hk16 := geq n H16 _ _ P (prog_rd (s1.mono (agx_sub x1516)) (s2.mono (agx_sub x1516))) (prog_rd (z1.mono (agx_sub x216)) (z2.mono (agx_sub x216)))
  refine seq_assoc (seq_reg ?_)
  simp only [go_sem, binC, gc_of hb15, gc_of hb616, inBlk_some]
  refine op_callQ (by simp only [go_sem, binC]; exact hk16) ?_
  simp only [go_sem, binC, bne_self_eq_false, beq_self_eq_true, Bool.not_true]
  refine seq_cond (t := false) rfl ?_
  simp only [go_sem, binC]
  have l16 := x1216.1
  have hq16 := heProg_ok (H := H16) hhp ghl (ghs n) (tL.imp id fun h => by omega) (e1.mono (tL.imp id fun h => x1216.2 _ (by omega) (by simp))) (e2.mono (agx_sub x1216)) (by omega)
  refine seq_skip (seq_reg ?_)
  simp only [go_sem, binC]
  refine seq_reg ?_
  simp only [go_sem, binC, gc_of hb1016, inBlk_some]
  refine op_callQ (by simp only [go_sem, binC]; exact hq16) ?_
  simp only [go_sem, binC]
  refine seq_assoc (seq_reg ?_)
  simp only [go_sem, binC]
  refine seq_cond (t := false) (by simp only [go_sem, binC]; rw [decide_eq_false ng]) ?_
  simp only [go_sem, binC]
  refine seq_skip (seq_assoc (seq_reg ?_))
  simp only [go_sem, binC, bne_self_eq_false]
  refine seq_cond (t := false) rfl ?_
  simp only [go_sem, binC]
  refine seq_skip (seq_reg ?_)
  simp only [go_sem, binC]
  exact wpc_ret ⟨Or.inr rfl, .bool true, by simp only [go_sem, binC], rfl, rfl⟩
end Go.Proofs.YtmakdcbpohlacaaI
end
section
/- The functions that the law FnExactTurnProg reaches, as ideal functions. -/
set_option linter.unusedVariables false
set_option linter.unusedSimpArgs false
namespace Go.Proofs.YtmakdcbpohlacaaI
open Go Go.RowKit
def fnOf : Nat → Option IFn
  | 4 => some (c_lawETP)
  | 7 => some (c_szProg)
  | 9 => some (c_toProg)
  | 10 => some (toFlat 3)
  | 12 => some (c_eqProg)
  | 13 => some (eqFlat)
  | 14 => some (c_markProg)
  | 15 => some (c_mark1)
  | 16 => some (c_heldProg)
  | 17 => some (c_sTurnProg)
  | 18 => some (c_iTurnProg)
  | 26 => some (szFlat)
  | 27 => some (szNest 64 8 true)
  | 28 => some (c_sProg)
  | 29 => some (c_sRow)
  | 31 => some (toCall .q 68 2 59 16 [(.int .i64 0), (.int .i64 0)] true)
  | 32 => some (toCall .k 69 8 68 96 [(.int .i64 0), (.int .i64 0), (.int .i64 0), (.int .i64 0), (.int .i64 0), (.int .i64 0), (.slice none 0 0), (.slice none 0 0)] true)
  | 33 => some (c_iProg)
  | 34 => some (c_iRow)
  | 35 => some (c_pclone)
  | 36 => some (c_change)
  | 38 => some (eqCall 78 2 true)
  | 39 => some (eqCall 79 8 true)
  | 40 => some (c_mark2)
  | 41 => some (c_markStepS)
  | 42 => some (c_held2)
  | 43 => some (c_heldStepS)
  | 44 => some (c_sHosts)
  | 45 => some (c_sTSet)
  | 46 => some (c_turned)
  | 47 => some (c_tp1)
  | 64 => some (c_szStep)
  | 65 => some (c_sLabelOk)
  | 66 => some (c_sSteps)
  | 67 => some (c_sCount)
  | 68 => some (c_toLabel)
  | 69 => some (c_toStep)
  | 70 => some (c_con)
  | 71 => some (c_p1)
  | 72 => some (c_iLabelOk)
  | 73 => some (c_iSteps)
  | 74 => some (c_iSize)
  | 75 => some (c_iIn)
  | 76 => some (c_conInt)
  | 77 => some (c_cloneSteps)
  | 78 => some (c_eqLabel)
  | 79 => some (c_eqStep)
  | 80 => some (c_sSet)
  | 81 => some (c_sHas)
  | 82 => some (c_iHas)
  | 86 => some (c_sIn)
  | 88 => some (c_iNum)
  | 94 => some (c_sStep)
  | 95 => some (c_toVal)
  | 96 => some (c_idx)
  | 97 => some (c_iSet)
  | 98 => some (c_iVar)
  | 99 => some (c_iVal)
  | 100 => some (c_iHost)
  | 101 => some (c_ixInt)
  | 102 => some (c_eqVal)
  | 103 => some (c_sAll)
  | 108 => some (c_sVar)
  | 109 => some (c_sVal)
  | _ => none
def cmOf (f : Nat) : CM := ⟨fun g => if [4, 7, 12, 13, 16, 26, 27, 28, 29, 33, 34, 38, 39, 42, 43, 45, 46, 64, 65, 66, 67, 68, 70, 71, 72, 73, 74, 75, 76, 78, 79, 80, 81, 82, 86, 88, 94, 95, 96, 97, 98, 99, 100, 101, 102, 103, 108, 109].contains g then .q else if [14, 15, 36, 40, 41, 47].contains g then .n else .k, if [14, 15, 36, 40, 41, 47].contains f then .n else .q, [77].contains f⟩
theorem hF4 : cFn Try.prog cmOf 4 = some (c_lawETP) := by kernel_rfl
theorem hF7 : cFn Try.prog cmOf 7 = some (c_szProg) := by kernel_rfl
theorem hF9 : cFn Try.prog cmOf 9 = some (c_toProg) := by kernel_rfl
theorem hF10 : cFn Try.prog cmOf 10 = some (toFlat 3) := by kernel_rfl
theorem hF12 : cFn Try.prog cmOf 12 = some (c_eqProg) := by kernel_rfl
theorem hF13 : cFn Try.prog cmOf 13 = some (eqFlat) := by kernel_rfl
theorem hF14 : cFn Try.prog cmOf 14 = some (c_markProg) := by kernel_rfl
theorem hF15 : cFn Try.prog cmOf 15 = some (c_mark1) := by kernel_rfl
theorem hF16 : cFn Try.prog cmOf 16 = some (c_heldProg) := by kernel_rfl
theorem hF17 : cFn Try.prog cmOf 17 = some (c_sTurnProg) := by kernel_rfl
theorem hF18 : cFn Try.prog cmOf 18 = some (c_iTurnProg) := by kernel_rfl
theorem hF26 : cFn Try.prog cmOf 26 = some (szFlat) := by kernel_rfl
theorem hF27 : cFn Try.prog cmOf 27 = some (szNest 64 8 true) := by kernel_rfl
theorem hF28 : cFn Try.prog cmOf 28 = some (c_sProg) := by kernel_rfl
theorem hF29 : cFn Try.prog cmOf 29 = some (c_sRow) := by kernel_rfl
theorem hF31 : cFn Try.prog cmOf 31 = some (toCall .q 68 2 59 16 [(.int .i64 0), (.int .i64 0)] true) := by kernel_rfl
theorem hF32 : cFn Try.prog cmOf 32 = some (toCall .k 69 8 68 96 [(.int .i64 0), (.int .i64 0), (.int .i64 0), (.int .i64 0), (.int .i64 0), (.int .i64 0), (.slice none 0 0), (.slice none 0 0)] true) := by kernel_rfl
theorem hF33 : cFn Try.prog cmOf 33 = some (c_iProg) := by kernel_rfl
theorem hF34 : cFn Try.prog cmOf 34 = some (c_iRow) := by kernel_rfl
theorem hF35 : cFn Try.prog cmOf 35 = some (c_pclone) := by kernel_rfl
theorem hF36 : cFn Try.prog cmOf 36 = some (c_change) := by kernel_rfl
theorem hF38 : cFn Try.prog cmOf 38 = some (eqCall 78 2 true) := by kernel_rfl
theorem hF39 : cFn Try.prog cmOf 39 = some (eqCall 79 8 true) := by kernel_rfl
theorem hF40 : cFn Try.prog cmOf 40 = some (c_mark2) := by kernel_rfl
theorem hF41 : cFn Try.prog cmOf 41 = some (c_markStepS) := by kernel_rfl
theorem hF42 : cFn Try.prog cmOf 42 = some (c_held2) := by kernel_rfl
theorem hF43 : cFn Try.prog cmOf 43 = some (c_heldStepS) := by kernel_rfl
theorem hF44 : cFn Try.prog cmOf 44 = some (c_sHosts) := by kernel_rfl
theorem hF45 : cFn Try.prog cmOf 45 = some (c_sTSet) := by kernel_rfl
theorem hF46 : cFn Try.prog cmOf 46 = some (c_turned) := by kernel_rfl
theorem hF47 : cFn Try.prog cmOf 47 = some (c_tp1) := by kernel_rfl
theorem hF64 : cFn Try.prog cmOf 64 = some (c_szStep) := by kernel_rfl
theorem hF65 : cFn Try.prog cmOf 65 = some (c_sLabelOk) := by kernel_rfl
theorem hF66 : cFn Try.prog cmOf 66 = some (c_sSteps) := by kernel_rfl
theorem hF67 : cFn Try.prog cmOf 67 = some (c_sCount) := by kernel_rfl
theorem hF68 : cFn Try.prog cmOf 68 = some (c_toLabel) := by kernel_rfl
theorem hF69 : cFn Try.prog cmOf 69 = some (c_toStep) := by kernel_rfl
theorem hF70 : cFn Try.prog cmOf 70 = some (c_con) := by kernel_rfl
theorem hF71 : cFn Try.prog cmOf 71 = some (c_p1) := by kernel_rfl
theorem hF72 : cFn Try.prog cmOf 72 = some (c_iLabelOk) := by kernel_rfl
theorem hF73 : cFn Try.prog cmOf 73 = some (c_iSteps) := by kernel_rfl
theorem hF74 : cFn Try.prog cmOf 74 = some (c_iSize) := by kernel_rfl
theorem hF75 : cFn Try.prog cmOf 75 = some (c_iIn) := by kernel_rfl
theorem hF76 : cFn Try.prog cmOf 76 = some (c_conInt) := by kernel_rfl
theorem hF77 : cFn Try.prog cmOf 77 = some (c_cloneSteps) := by kernel_rfl
theorem hF78 : cFn Try.prog cmOf 78 = some (c_eqLabel) := by kernel_rfl
theorem hF79 : cFn Try.prog cmOf 79 = some (c_eqStep) := by kernel_rfl
theorem hF80 : cFn Try.prog cmOf 80 = some (c_sSet) := by kernel_rfl
theorem hF81 : cFn Try.prog cmOf 81 = some (c_sHas) := by kernel_rfl
theorem hF82 : cFn Try.prog cmOf 82 = some (c_iHas) := by kernel_rfl
theorem hF86 : cFn Try.prog cmOf 86 = some (c_sIn) := by kernel_rfl
theorem hF88 : cFn Try.prog cmOf 88 = some (c_iNum) := by kernel_rfl
theorem hF94 : cFn Try.prog cmOf 94 = some (c_sStep) := by kernel_rfl
theorem hF95 : cFn Try.prog cmOf 95 = some (c_toVal) := by kernel_rfl
theorem hF96 : cFn Try.prog cmOf 96 = some (c_idx) := by kernel_rfl
theorem hF97 : cFn Try.prog cmOf 97 = some (c_iSet) := by kernel_rfl
theorem hF98 : cFn Try.prog cmOf 98 = some (c_iVar) := by kernel_rfl
theorem hF99 : cFn Try.prog cmOf 99 = some (c_iVal) := by kernel_rfl
theorem hF100 : cFn Try.prog cmOf 100 = some (c_iHost) := by kernel_rfl
theorem hF101 : cFn Try.prog cmOf 101 = some (c_ixInt) := by kernel_rfl
theorem hF102 : cFn Try.prog cmOf 102 = some (c_eqVal) := by kernel_rfl
theorem hF103 : cFn Try.prog cmOf 103 = some (c_sAll) := by kernel_rfl
theorem hF108 : cFn Try.prog cmOf 108 = some (c_sVar) := by kernel_rfl
theorem hF109 : cFn Try.prog cmOf 109 = some (c_sVal) := by kernel_rfl
theorem hF (g : Nat) (fn : IFn) (h : fnOf g = some fn) : cFn Try.prog cmOf g = some fn := by
  unfold fnOf at h
  split at h
  · rw [← h]; exact hF4
  · rw [← h]; exact hF7
  · rw [← h]; exact hF9
  · rw [← h]; exact hF10
  · rw [← h]; exact hF12
  · rw [← h]; exact hF13
  · rw [← h]; exact hF14
  · rw [← h]; exact hF15
  · rw [← h]; exact hF16
  · rw [← h]; exact hF17
  · rw [← h]; exact hF18
  · rw [← h]; exact hF26
  · rw [← h]; exact hF27
  · rw [← h]; exact hF28
  · rw [← h]; exact hF29
  · rw [← h]; exact hF31
  · rw [← h]; exact hF32
  · rw [← h]; exact hF33
  · rw [← h]; exact hF34
  · rw [← h]; exact hF35
  · rw [← h]; exact hF36
  · rw [← h]; exact hF38
  · rw [← h]; exact hF39
  · rw [← h]; exact hF40
  · rw [← h]; exact hF41
  · rw [← h]; exact hF42
  · rw [← h]; exact hF43
  · rw [← h]; exact hF44
  · rw [← h]; exact hF45
  · rw [← h]; exact hF46
  · rw [← h]; exact hF47
  · rw [← h]; exact hF64
  · rw [← h]; exact hF65
  · rw [← h]; exact hF66
  · rw [← h]; exact hF67
  · rw [← h]; exact hF68
  · rw [← h]; exact hF69
  · rw [← h]; exact hF70
  · rw [← h]; exact hF71
  · rw [← h]; exact hF72
  · rw [← h]; exact hF73
  · rw [← h]; exact hF74
  · rw [← h]; exact hF75
  · rw [← h]; exact hF76
  · rw [← h]; exact hF77
  · rw [← h]; exact hF78
  · rw [← h]; exact hF79
  · rw [← h]; exact hF80
  · rw [← h]; exact hF81
  · rw [← h]; exact hF82
  · rw [← h]; exact hF86
  · rw [← h]; exact hF88
  · rw [← h]; exact hF94
  · rw [← h]; exact hF95
  · rw [← h]; exact hF96
  · rw [← h]; exact hF97
  · rw [← h]; exact hF98
  · rw [← h]; exact hF99
  · rw [← h]; exact hF100
  · rw [← h]; exact hF101
  · rw [← h]; exact hF102
  · rw [← h]; exact hF103
  · rw [← h]; exact hF108
  · rw [← h]; exact hF109
  · cases h
theorem hMixed : Try.prog.follows .mixedOrders = true := by kernel_rfl
theorem ok_iIn : ∀ (H : Heap) (a b c : Int), QC fnOf 75 [.int .i64 a, .int .i64 b, .int .i64 c] H (.bool (inB a b c)) := iIn_ok rfl
theorem ok_sIn : ∀ (H : Heap) (a b c : Int), QC fnOf 86 [.int .i64 a, .int .i64 b, .int .i64 c] H (.bool (inB a b c)) := sIn_ok rfl
theorem ok_iSet : ∀ (H : Heap) (a : Int), QC fnOf 97 [.int .i64 a] H (.bool (inB a 0 7)) := iSet_ok rfl ok_iIn
theorem ok_iHost : ∀ (H : Heap) (a : Int), QC fnOf 100 [.int .i64 a] H (.bool (inB a 0 2)) := iHost_ok rfl ok_iIn
theorem ok_iNum : ∀ (H : Heap) (a : Int), QC fnOf 88 [.int .i64 a] H (.bool (inB a 0 9)) := iNum_ok rfl ok_iIn
theorem ok_sAll : ∀ H, QC fnOf 103 [] H (.int .i64 7) := sAll_ok rfl
theorem ok_sSet : ∀ (H : Heap) (a : Int), QC fnOf 80 [.int .i64 a] H (.bool (inB a 0 7)) := sSet_ok rfl ok_sIn ok_sAll
theorem ok_iLabelOk : LabOk fnOf 72 := iLabelOk_ok rfl ok_iSet
theorem ok_sLabelOk : LabOk fnOf 65 := sLabelOk_ok rfl ok_sSet
theorem ok_iVar : VarOk fnOf 98 := iVar_ok rfl ok_iIn
theorem ok_sVar : VarOk fnOf 108 := sVar_ok rfl ok_sIn
theorem ok_iVal : ValOk fnOf 99 := iVal_ok rfl ok_iNum ok_iVar
theorem ok_sVal : ValOk fnOf 109 := sVal_ok rfl ok_sIn ok_sVar
theorem ok_sSteps : ∀ n, StepsOk fnOf 66 n := fun n => (sSteps_all rfl rfl ok_sIn ok_sVar ok_sVal n).1
theorem ok_iSteps : ∀ n, StepsOk fnOf 73 n := iSteps_all rfl ok_iVar ok_iVal ok_iHost
theorem ok_sCount : ∀ n, CntOk fnOf 67 n := cnt_all (fun _ h => sCount_ok rfl h) (sCount_z rfl)
theorem ok_iSize : ∀ n, CntOk fnOf 74 n := cnt_all (fun _ h => iSize_ok rfl h) (iSize_z rfl)
theorem ok_sProg : ProgOk fnOf 28 := sProg_ok rfl ok_sLabelOk ok_sSteps ok_sCount
theorem ok_iProg : ProgOk fnOf 33 := iProg_ok rfl (con_ok rfl (idx_ok rfl (p1_ok rfl ok_iLabelOk))) ok_iSteps ok_iSize
theorem ok_sHas : HasOk fnOf 81 := sHas_ok rfl
theorem ok_ixInt : ∀ (H : Heap) (v : Value) (l : List Int) (x : Int), SlR Co.int (vw 0 H) v l → QC fnOf 76 [v, .int .i64 x] H (.bool (decide (x ∈ l))) := conInt_ok rfl rfl
theorem ok_iRow : RowOk fnOf 34 := iRow_ok rfl ok_iIn ok_ixInt
theorem ok_sRow : RowOk fnOf 29 := sRow_ok rfl
theorem ok_pclone : PCloneOk fnOf 35 := pclone_ok rfl (cloneSteps_all rfl)
theorem ok_iHas : HasOk fnOf 82 := iHas_ok rfl ok_iHost
theorem ok_sTSet : TSetOk fnOf 45 := sTSet_ok rfl ok_sHas ok_sSet ok_sRow
theorem ok_sTurnProg : TurnPOk fnOf 17 (fun _ => 3) turnLH turnH := sTurnProg_ok rfl ok_sProg ok_sRow rfl ok_sTSet
theorem ok_iTurnProgO : TurnPOwn fnOf 18 (fun _ => 3) turnLH turnH := iTurnProgO_ok rfl ok_iProg ok_iRow ok_pclone rfl rfl (turned_ok rfl ok_iHas)
theorem ok_eqLabel : EqOk fnOf Co.p2 true 78 := eqLabel_ok rfl
theorem ok_eqVal : EqOk fnOf Co.val true 102 := eqVal_ok rfl
theorem ok_eqLabelS : EqOk fnOf (Co.sl Co.p2) false 38 := eqCall_ok rfl ok_eqLabel rfl (va_t Co.p2)
theorem ok_eqSteps : ∀ n, EqOk fnOf (Co.step n) true 79 ∧ EqOk fnOf (Co.sl (Co.step n)) false 39 := by
  intro n
  induction n with
  | zero =>
    have z : EqOk fnOf (Co.step 0) true 79 := by
      rintro H v u a ⟨cs, _, h⟩
      exact h.elim
    exact ⟨z, eqCall_ok rfl z (step_w 0) (va_t (Co.step 0))⟩
  | succ n ih =>
    have z : EqOk fnOf (Co.step (n + 1)) true 79 := eqStep_ok rfl ok_eqVal ih.2 ih.2
    exact ⟨z, eqCall_ok rfl z (step_w (n + 1)) (va_t (Co.step (n + 1)))⟩
theorem ok_eqProg (n : Nat) : EqOk fnOf (Co.prog n) true 12 := eqProg_ok rfl ok_eqLabelS (ok_eqSteps n).2
theorem ok_szProgT (n : Nat) : SzT fnOf (Co.prog n) true 7 (tP n) := szProgT_ok rfl (szFlatT_ok rfl (fun _ => ⟨trivial, trivial⟩)) (szStepsT_all rfl rfl n).2
theorem ok_toProgS (n : Nat) : ToOkS fnOf (Co.prog n) true .k 9 := toProg_okS rfl (toCallS_ok rfl rfl (by omega) (toLabel_okS rfl) rfl (va_t Co.p2)) (toStepsS_all rfl rfl (toVal_okS rfl) n).2
theorem ok_markProg (n : Nat) : MkOk fnOf (Co.prog n) true 14 (cP n) := markProg_ok rfl (mkLabs_ok rfl) sLab (mkSteps_all rfl n) (sS n)
theorem ok_eqIntS : EqOk fnOf (Co.sl Co.int) false 13 := eqFlat_ok rfl
theorem ok_law : ∀ (H : Heap) (n : Nat) (v u : Value) (a : TProg n) (ts : List Int), Rd (Co.prog n) true (vw 0 H) v a → SlR Co.int (vw 0 H) u ts → QC fnOf 4 [v, u] H (.bool true) := lawETP_ok rfl ok_szProgT ok_toProgS (toFlatS_ok rfl) ok_sTurnProg ok_iTurnProgO ok_eqProg ok_eqIntS ok_markProg (fun hr hh hlo hk hkn => ints_mk rfl hr hh hlo hk hkn) rfl (mark2_ok rfl) (mkOwn_all rfl) rfl (held2_ok rfl) (heldS_all rfl)
end Go.Proofs.YtmakdcbpohlacaaI
end
section
/- The types of a program, opened. -/
set_option linter.unusedVariables false
set_option linter.unusedSimpArgs false
namespace Go.Proofs.YtmakdcbpohlacaaI
open Go Go.RowKit
theorem good_3 {T : Type} {enc : TypeId × Value → T} {w : World} {spare : Nat → Bool} {held : Bool} {n : Nat} {cs : List Value} {x : DataW T × List MemPlace} (h : DataW.trod enc Try.prog w 0 spare held n 3 cs = some x) : Good Co.int w cs := by
  obtain ⟨m, rfl, _, hw⟩ := DataW.trod_int Try.underlying3 h
  exact Good.int hw
theorem good_93 {T : Type} {enc : TypeId × Value → T} {w : World} {spare : Nat → Bool} {held : Bool} {n : Nat} {cs : List Value} {x : DataW T × List MemPlace} (h : DataW.trod enc Try.prog w 0 spare held n 93 cs = some x) : Good Co.p2 w cs := by
  obtain ⟨xs, n, rfl, rfl, hl, hlen, hf⟩ := DataW.trod_struct Try.underlying93 h
  have hn : Try.prog.cellsOf 93 = 2 := by kernel_rfl
  rw [hn] at hl
  have f0 : DataW.trod enc Try.prog w 0 spare held n 3 ((cs.drop 0).take (Try.prog.cellsOf 3)) = xs[0]? := hf 0 _ rfl
  rw [List.getElem?_eq_getElem (show 0 < xs.length by rw [hlen]; decide), show Try.prog.cellsOf 3 = 1 by kernel_rfl] at f0
  have f1 : DataW.trod enc Try.prog w 0 spare held n 3 ((cs.drop 1).take (Try.prog.cellsOf 3)) = xs[1]? := hf 1 _ rfl
  rw [List.getElem?_eq_getElem (show 1 < xs.length by rw [hlen]; decide), show Try.prog.cellsOf 3 = 1 by kernel_rfl] at f1
  have e : cs = ((cs.drop 0).take 1 ++ ((cs.drop 1).take 1)) := (cut (cs := cs) (o := 0) (s := 1)).trans (congrArg _ (cut_end (by rw [hl])))
  rw [e]
  exact ((good_3 f0).pair (good_3 f1))
theorem good_86 {T : Type} {enc : TypeId × Value → T} {w : World} {spare : Nat → Bool} {held : Bool} {n : Nat} {cs : List Value} {x : DataW T × List MemPlace} (h : DataW.trod enc Try.prog w 0 spare held n 86 cs = some x) : Good Co.val w cs := by
  obtain ⟨xs, n, rfl, rfl, hl, hlen, hf⟩ := DataW.trod_struct Try.underlying86 h
  have hn : Try.prog.cellsOf 86 = 3 := by kernel_rfl
  rw [hn] at hl
  have f0 : DataW.trod enc Try.prog w 0 spare held n 3 ((cs.drop 0).take (Try.prog.cellsOf 3)) = xs[0]? := hf 0 _ rfl
  rw [List.getElem?_eq_getElem (show 0 < xs.length by rw [hlen]; decide), show Try.prog.cellsOf 3 = 1 by kernel_rfl] at f0
  have f1 : DataW.trod enc Try.prog w 0 spare held n 3 ((cs.drop 1).take (Try.prog.cellsOf 3)) = xs[1]? := hf 1 _ rfl
  rw [List.getElem?_eq_getElem (show 1 < xs.length by rw [hlen]; decide), show Try.prog.cellsOf 3 = 1 by kernel_rfl] at f1
  have f2 : DataW.trod enc Try.prog w 0 spare held n 3 ((cs.drop 2).take (Try.prog.cellsOf 3)) = xs[2]? := hf 2 _ rfl
  rw [List.getElem?_eq_getElem (show 2 < xs.length by rw [hlen]; decide), show Try.prog.cellsOf 3 = 1 by kernel_rfl] at f2
  have e : cs = ((cs.drop 0).take 1 ++ (((cs.drop 1).take 1 ++ ((cs.drop 2).take 1)))) := (cut (cs := cs) (o := 0) (s := 1)).trans (congrArg _ ((cut (cs := cs) (o := 1) (s := 1)).trans (congrArg _ (cut_end (by rw [hl])))))
  rw [e]
  exact ((good_3 f0).pair ((good_3 f1).pair (good_3 f2)))
theorem good_26 {T : Type} {enc : TypeId × Value → T} {w : World} {spare : Nat → Bool} {held : Bool} {n : Nat} {cs : List Value} {x : DataW T × List MemPlace} (h : DataW.trod enc Try.prog w 0 spare held n 26 cs = some x) : Good (Co.sl Co.int) w cs :=
  Good.sl Try.underlying26 (by kernel_rfl) (by decide) h fun _ _ _ _ h => good_3 h
theorem good_22 {T : Type} {enc : TypeId × Value → T} {w : World} {spare : Nat → Bool} {held : Bool} {n : Nat} {cs : List Value} {x : DataW T × List MemPlace} (h : DataW.trod enc Try.prog w 0 spare held n 22 cs = some x) : Good (Co.sl Co.p2) w cs :=
  Good.sl Try.underlying22 (by kernel_rfl) (by decide) h fun _ _ _ _ h => good_93 h
theorem stepF0 {T : Type} {enc : TypeId × Value → T} {w : World} {spare : Nat → Bool} {held : Bool} : (∀ (cs : List Value) (x : DataW T × List MemPlace), DataW.trod enc Try.prog w 0 spare held (0) 88 cs = some x → Good (Co.step (dF (0))) w cs) := by
  intro cs x h
  rw [DataW.trod] at h
  cases h
theorem stepF1 {T : Type} {enc : TypeId × Value → T} {w : World} {spare : Nat → Bool} {held : Bool} : (∀ (cs : List Value) (x : DataW T × List MemPlace), DataW.trod enc Try.prog w 0 spare held (1) 88 cs = some x → Good (Co.step (dF (1))) w cs) := by
  intro cs x h
  obtain ⟨xs, n1, hn1, rfl, hl, hlen, hf⟩ := DataW.trod_struct Try.underlying88 h
  have hz : n1 = 0 := by omega
  subst hz
  have f0 : DataW.trod enc Try.prog w 0 spare held 0 3 ((cs.drop 0).take (Try.prog.cellsOf 3)) = xs[0]? := hf 0 _ rfl
  rw [List.getElem?_eq_getElem (show 0 < xs.length by rw [hlen]; decide), DataW.trod] at f0
  cases f0
theorem stepF2 {T : Type} {enc : TypeId × Value → T} {w : World} {spare : Nat → Bool} {held : Bool} {n : Nat} (ih : (∀ (cs : List Value) (x : DataW T × List MemPlace), DataW.trod enc Try.prog w 0 spare held (n) 88 cs = some x → Good (Co.step (dF (n))) w cs)) : (∀ (cs : List Value) (x : DataW T × List MemPlace), DataW.trod enc Try.prog w 0 spare held (n + 2) 88 cs = some x → Good (Co.step (dF (n + 2))) w cs) := by
  intro cs x h
  obtain ⟨xs, n1, hn1, rfl, hl, hlen, hf⟩ := DataW.trod_struct Try.underlying88 h
  have hn1' : n1 = n + 1 := by omega
  have sl23 : ∀ cs y, DataW.trod enc Try.prog w 0 spare held n1 23 cs = some y → Good (Co.sl (Co.step (dF n))) w cs := fun cs y hy =>
    Good.slF Try.underlying23 (by rw [step_w]; kernel_rfl) (by rw [step_w]; omega) hy fun n' cs' x' hn' hx' => by
      have : n' = n := by omega
      subst this
      exact ih cs' x' hx'
  have hn : Try.prog.cellsOf 88 = 8 := by kernel_rfl
  rw [hn] at hl
  have f0 : DataW.trod enc Try.prog w 0 spare held n1 3 ((cs.drop 0).take (Try.prog.cellsOf 3)) = xs[0]? := hf 0 _ rfl
  rw [List.getElem?_eq_getElem (show 0 < xs.length by rw [hlen]; decide), show Try.prog.cellsOf 3 = 1 by kernel_rfl] at f0
  have f1 : DataW.trod enc Try.prog w 0 spare held n1 3 ((cs.drop 1).take (Try.prog.cellsOf 3)) = xs[1]? := hf 1 _ rfl
  rw [List.getElem?_eq_getElem (show 1 < xs.length by rw [hlen]; decide), show Try.prog.cellsOf 3 = 1 by kernel_rfl] at f1
  have f2 : DataW.trod enc Try.prog w 0 spare held n1 86 ((cs.drop 2).take (Try.prog.cellsOf 86)) = xs[2]? := hf 2 _ rfl
  rw [List.getElem?_eq_getElem (show 2 < xs.length by rw [hlen]; decide), show Try.prog.cellsOf 86 = 3 by kernel_rfl] at f2
  have f3 : DataW.trod enc Try.prog w 0 spare held n1 3 ((cs.drop 5).take (Try.prog.cellsOf 3)) = xs[3]? := hf 3 _ rfl
  rw [List.getElem?_eq_getElem (show 3 < xs.length by rw [hlen]; decide), show Try.prog.cellsOf 3 = 1 by kernel_rfl] at f3
  have f4 : DataW.trod enc Try.prog w 0 spare held n1 23 ((cs.drop 6).take (Try.prog.cellsOf 23)) = xs[4]? := hf 4 _ rfl
  rw [List.getElem?_eq_getElem (show 4 < xs.length by rw [hlen]; decide), show Try.prog.cellsOf 23 = 1 by kernel_rfl] at f4
  have f5 : DataW.trod enc Try.prog w 0 spare held n1 23 ((cs.drop 7).take (Try.prog.cellsOf 23)) = xs[5]? := hf 5 _ rfl
  rw [List.getElem?_eq_getElem (show 5 < xs.length by rw [hlen]; decide), show Try.prog.cellsOf 23 = 1 by kernel_rfl] at f5
  have e : cs = ((cs.drop 0).take 1 ++ (((cs.drop 1).take 1 ++ (((cs.drop 2).take 3 ++ (((cs.drop 5).take 1 ++ (((cs.drop 6).take 1 ++ ((cs.drop 7).take 1)))))))))) := (cut (cs := cs) (o := 0) (s := 1)).trans (congrArg _ ((cut (cs := cs) (o := 1) (s := 1)).trans (congrArg _ ((cut (cs := cs) (o := 2) (s := 3)).trans (congrArg _ ((cut (cs := cs) (o := 5) (s := 1)).trans (congrArg _ ((cut (cs := cs) (o := 6) (s := 1)).trans (congrArg _ (cut_end (by rw [hl])))))))))))
  rw [e]
  have e8 : Good (Co.pair Co.int (Co.pair Co.int (Co.pair Co.val (Co.pair Co.int (Co.pair (Co.sl (Co.step (dF n))) (Co.sl (Co.step (dF n)))))))) w _ := ((good_3 f0).pair ((good_3 f1).pair ((good_86 f2).pair ((good_3 f3).pair ((sl23 _ _ f4).pair (sl23 _ _ f5))))))
  exact e8
theorem stepFF {T : Type} {enc : TypeId × Value → T} {w : World} {spare : Nat → Bool} {held : Bool} (n : Nat) : (∀ (cs : List Value) (x : DataW T × List MemPlace), DataW.trod enc Try.prog w 0 spare held (n) 88 cs = some x → Good (Co.step (dF (n))) w cs) ∧ (∀ (cs : List Value) (x : DataW T × List MemPlace), DataW.trod enc Try.prog w 0 spare held (n + 1) 88 cs = some x → Good (Co.step (dF (n + 1))) w cs) := by
  induction n with
  | zero => exact ⟨stepF0, stepF1⟩
  | succ n ih => exact ⟨ih.2, stepF2 ih.1⟩
theorem good_88 {T : Type} {enc : TypeId × Value → T} {w : World} {spare : Nat → Bool} {held : Bool} (n : Nat) {cs : List Value} {x : DataW T × List MemPlace} (h : DataW.trod enc Try.prog w 0 spare held n 88 cs = some x) : Good (Co.step (dF n)) w cs := (stepFF n).1 cs x h
theorem good_25 {T : Type} {enc : TypeId × Value → T} {w : World} {spare : Nat → Bool} {held : Bool} {n : Nat} {cs : List Value} {x : DataW T × List MemPlace} (h : DataW.trod enc Try.prog w 0 spare held n 25 cs = some x) : ∃ d, Good (Co.prog d) w cs := by
  obtain ⟨xs, n1, hn1, rfl, hl, hlen, hf⟩ := DataW.trod_struct Try.underlying25 h
  have hn : Try.prog.cellsOf 25 = 2 := by kernel_rfl
  rw [hn] at hl
  have f0 : DataW.trod enc Try.prog w 0 spare held n1 22 ((cs.drop 0).take (Try.prog.cellsOf 22)) = xs[0]? := hf 0 _ rfl
  rw [List.getElem?_eq_getElem (show 0 < xs.length by rw [hlen]; decide), show Try.prog.cellsOf 22 = 1 by kernel_rfl] at f0
  have f1 : DataW.trod enc Try.prog w 0 spare held n1 23 ((cs.drop 1).take (Try.prog.cellsOf 23)) = xs[1]? := hf 1 _ rfl
  rw [List.getElem?_eq_getElem (show 1 < xs.length by rw [hlen]; decide), show Try.prog.cellsOf 23 = 1 by kernel_rfl] at f1
  have e : cs = ((cs.drop 0).take 1 ++ ((cs.drop 1).take 1)) := (cut (cs := cs) (o := 0) (s := 1)).trans (congrArg _ (cut_end (by rw [hl])))
  refine ⟨dF (n1 - 1), ?_⟩
  rw [e]
  refine (good_22 f0).pair (Good.slF Try.underlying23 (by rw [step_w]; kernel_rfl) (by rw [step_w]; omega) f1 fun n' cs' x' hn' hx' => ?_)
  have : n1 - 1 = n' := by omega
  rw [this]
  exact good_88 n' hx'
theorem len_25 {T : Type} {enc : TypeId × Value → T} {w : World} {spare : Nat → Bool} {held : Bool} {n : Nat} {cs : List Value} {x : DataW T × List MemPlace} (h : DataW.trod enc Try.prog w 0 spare held n 25 cs = some x) : cs.length = 2 := by
  obtain ⟨xs, n, rfl, rfl, hl, hlen, hf⟩ := DataW.trod_struct Try.underlying25 h
  rw [hl]
  kernel_rfl
end Go.Proofs.YtmakdcbpohlacaaI
end
section
/- The law FnExactTurnProg, called in the model. -/
set_option linter.unusedVariables false
set_option linter.unusedSimpArgs false
namespace Go.Proofs.YtmakdcbpohlacaaI
open Go Go.RowKit
theorem lawEM_calls {W : World} {c0 : Array Value} {a : Option Addr} {l c : Nat} (g0 : ∃ d, Good (Co.prog d) W c0.toList) (g1 : Good (Co.sl Co.int) W [.slice a l c]) :
    Calls Try.prog 4 #[.agg c0, .slice a l c] W fun e w' => e = .returned (.bool true) ∧ Below W.heap.size W w' := by
  obtain ⟨d, g0⟩ := g0
  obtain ⟨p, L, m, cs0, s, q, r, e⟩ := g0 [] (fun _ => none) (SL.none _)
  rw [List.nil_append] at s r
  obtain ⟨ts, L2, m2, cs1, s2, q2, r2, e2⟩ := g1 L m s
  obtain ⟨u, rfl, hu⟩ := r2
  exact law_core hF hMixed s2 (vals := [.agg cs0.toArray, u]) (All2.cons (VR.agg_mk (e.mono fun _ _ _ h => VR1.mono q2 h)) (All2.cons (VR.one_mk e2) All2.nil))
    (ok_law _ d _ _ p ts ⟨cs0, rfl, (Co.prog d).mono (vw_app 0 L L2) r⟩ hu)
end Go.Proofs.YtmakdcbpohlacaaI
end
