/- Texts of this proof, merged: V7, V8, V9, V10, V11, U5, U6. -/
import Derived.Test.YtkmghcglmjehcaaPe8
import Derived.Test.YtkmghcglmjehcaaPe9
section
/- Tests of marked steps; marks and tests of programs of one's own. -/
set_option linter.unusedVariables false
set_option linter.unusedSimpArgs false
namespace Go.Proofs.YtkmghcglmjehcaaI
open Go Go.RowKit
def c_heldStepS : IFn := ⟨2, 88, [.t 4],
 .seq (.reg none [
    ⟨(some 4), none, .mov (.c (.int .i64 0))⟩])
 (.seq (.seq (.reg none [
     ⟨(some 5), none, .mov (.c (.int .i64 0))⟩])
  (.block 0 (.loop (.seq (.seq (.reg none [
        ⟨(some 6), none, .mov (.t 5)⟩,
        ⟨(some 7), none, .mov (.t 0)⟩,
        ⟨(some 8), none, .len (.t 7)⟩,
        ⟨(some 9), none, .bin .lss (.t 6) (.t 8)⟩])
     (.cond (.t 9) (.skip) (.exit 0)))
    (.seq (.block 1 (.seq (.seq (.reg none [
          ⟨(some 12), none, .mov (.t 0)⟩,
          ⟨(some 13), none, .mov (.t 5)⟩,
          ⟨(some 14), none, .iad 8 (.t 12) (.t 13)⟩,
          ⟨(some 15), none, .fad 0 (.t 14)⟩,
          ⟨(some 16), none, .load false 1 (.t 15)⟩,
          ⟨(some 17), none, .mov (.t 1)⟩,
          ⟨(some 18), none, .bin .neq (.t 16) (.t 17)⟩])
       (.cond (.t 18) (.seq (.reg none [
           ⟨(some 4), none, .mov (.c (.int .i64 (-1)))⟩])
        (.ret)) (.skip)))
      (.seq (.reg none [
         ⟨(some 19), none, .mov (.t 1)⟩,
         ⟨(some 20), none, .bin .add (.t 19) (.c (.int .i64 1))⟩,
         ⟨(some 1), none, .mov (.t 20)⟩])
      (.seq (.seq (.reg none [
          ⟨(some 21), none, .mov (.t 0)⟩,
          ⟨(some 22), none, .mov (.t 5)⟩,
          ⟨(some 23), none, .iad 8 (.t 21) (.t 22)⟩,
          ⟨(some 24), none, .fad 1 (.t 23)⟩,
          ⟨(some 25), none, .load false 1 (.t 24)⟩,
          ⟨(some 26), none, .mov (.t 1)⟩,
          ⟨(some 27), none, .bin .neq (.t 25) (.t 26)⟩])
       (.cond (.t 27) (.seq (.reg none [
           ⟨(some 4), none, .mov (.c (.int .i64 (-1)))⟩])
        (.ret)) (.skip)))
      (.seq (.reg none [
         ⟨(some 28), none, .mov (.t 1)⟩,
         ⟨(some 29), none, .bin .add (.t 28) (.c (.int .i64 1))⟩,
         ⟨(some 1), none, .mov (.t 29)⟩])
      (.seq (.seq (.reg none [
          ⟨(some 30), none, .mov (.t 0)⟩,
          ⟨(some 31), none, .mov (.t 5)⟩,
          ⟨(some 32), none, .iad 8 (.t 30) (.t 31)⟩,
          ⟨(some 33), none, .fad 2 (.t 32)⟩,
          ⟨(some 34), none, .fad 0 (.t 33)⟩,
          ⟨(some 35), none, .load false 1 (.t 34)⟩,
          ⟨(some 36), none, .mov (.t 1)⟩,
          ⟨(some 37), none, .bin .neq (.t 35) (.t 36)⟩])
       (.cond (.t 37) (.seq (.reg none [
           ⟨(some 4), none, .mov (.c (.int .i64 (-1)))⟩])
        (.ret)) (.skip)))
      (.seq (.reg none [
         ⟨(some 38), none, .mov (.t 1)⟩,
         ⟨(some 39), none, .bin .add (.t 38) (.c (.int .i64 1))⟩,
         ⟨(some 1), none, .mov (.t 39)⟩])
      (.seq (.seq (.reg none [
          ⟨(some 40), none, .mov (.t 0)⟩,
          ⟨(some 41), none, .mov (.t 5)⟩,
          ⟨(some 42), none, .iad 8 (.t 40) (.t 41)⟩,
          ⟨(some 43), none, .fad 2 (.t 42)⟩,
          ⟨(some 44), none, .fad 1 (.t 43)⟩,
          ⟨(some 45), none, .load false 1 (.t 44)⟩,
          ⟨(some 46), none, .mov (.t 1)⟩,
          ⟨(some 47), none, .bin .neq (.t 45) (.t 46)⟩])
       (.cond (.t 47) (.seq (.reg none [
           ⟨(some 4), none, .mov (.c (.int .i64 (-1)))⟩])
        (.ret)) (.skip)))
      (.seq (.reg none [
         ⟨(some 48), none, .mov (.t 1)⟩,
         ⟨(some 49), none, .bin .add (.t 48) (.c (.int .i64 1))⟩,
         ⟨(some 1), none, .mov (.t 49)⟩])
      (.seq (.seq (.reg none [
          ⟨(some 50), none, .mov (.t 0)⟩,
          ⟨(some 51), none, .mov (.t 5)⟩,
          ⟨(some 52), none, .iad 8 (.t 50) (.t 51)⟩,
          ⟨(some 53), none, .fad 2 (.t 52)⟩,
          ⟨(some 54), none, .fad 2 (.t 53)⟩,
          ⟨(some 55), none, .load false 1 (.t 54)⟩,
          ⟨(some 56), none, .mov (.t 1)⟩,
          ⟨(some 57), none, .bin .neq (.t 55) (.t 56)⟩])
       (.cond (.t 57) (.seq (.reg none [
           ⟨(some 4), none, .mov (.c (.int .i64 (-1)))⟩])
        (.ret)) (.skip)))
      (.seq (.reg none [
         ⟨(some 58), none, .mov (.t 1)⟩,
         ⟨(some 59), none, .bin .add (.t 58) (.c (.int .i64 1))⟩,
         ⟨(some 1), none, .mov (.t 59)⟩])
      (.seq (.seq (.reg none [
          ⟨(some 60), none, .mov (.t 0)⟩,
          ⟨(some 61), none, .mov (.t 5)⟩,
          ⟨(some 62), none, .iad 8 (.t 60) (.t 61)⟩,
          ⟨(some 63), none, .fad 5 (.t 62)⟩,
          ⟨(some 64), none, .load false 1 (.t 63)⟩,
          ⟨(some 65), none, .mov (.t 1)⟩,
          ⟨(some 66), none, .bin .neq (.t 64) (.t 65)⟩])
       (.cond (.t 66) (.seq (.reg none [
           ⟨(some 4), none, .mov (.c (.int .i64 (-1)))⟩])
        (.ret)) (.skip)))
      (.seq (.reg none [
         ⟨(some 67), none, .mov (.t 1)⟩,
         ⟨(some 68), none, .bin .add (.t 67) (.c (.int .i64 1))⟩,
         ⟨(some 1), none, .mov (.t 68)⟩])
      (.seq (.reg none [
         ⟨(some 69), none, .mov (.t 0)⟩,
         ⟨(some 70), none, .mov (.t 5)⟩,
         ⟨(some 71), none, .iad 8 (.t 69) (.t 70)⟩,
         ⟨(some 72), none, .fad 6 (.t 71)⟩,
         ⟨(some 73), none, .load false 1 (.t 72)⟩,
         ⟨(some 74), none, .mov (.t 1)⟩,
         ⟨(some 75), none, .call .q (.f 84) [(.t 73), (.t 74)]⟩,
         ⟨(some 1), none, .mov (.t 75)⟩])
      (.seq (.seq (.reg none [
          ⟨(some 76), none, .mov (.t 1)⟩,
          ⟨(some 77), none, .bin .lss (.t 76) (.c (.int .i64 0))⟩])
       (.cond (.t 77) (.seq (.reg none [
           ⟨(some 4), none, .mov (.c (.int .i64 (-1)))⟩])
        (.ret)) (.skip)))
      (.seq (.reg none [
         ⟨(some 78), none, .mov (.t 0)⟩,
         ⟨(some 79), none, .mov (.t 5)⟩,
         ⟨(some 80), none, .iad 8 (.t 78) (.t 79)⟩,
         ⟨(some 81), none, .fad 7 (.t 80)⟩,
         ⟨(some 82), none, .load false 1 (.t 81)⟩,
         ⟨(some 83), none, .mov (.t 1)⟩,
         ⟨(some 84), none, .call .q (.f 84) [(.t 82), (.t 83)]⟩,
         ⟨(some 1), none, .mov (.t 84)⟩])
      (.seq (.reg none [
         ⟨(some 85), none, .mov (.t 1)⟩,
         ⟨(some 86), none, .bin .lss (.t 85) (.c (.int .i64 0))⟩])
      (.cond (.t 86) (.seq (.reg none [
          ⟨(some 4), none, .mov (.c (.int .i64 (-1)))⟩])
       (.ret)) (.skip)))))))))))))))))))
    (.reg none [
      ⟨(some 10), none, .mov (.t 5)⟩,
      ⟨(some 11), none, .bin .add (.t 10) (.c (.int .i64 1))⟩,
      ⟨(some 5), none, .mov (.t 11)⟩]))))))
 (.seq (.reg none [
    ⟨(some 87), none, .mov (.t 1)⟩,
    ⟨(some 4), none, .mov (.t 87)⟩])
 (.ret)))⟩
def c_heldProg : IFn := ⟨2, 18, [.t 4],
 .seq (.reg none [
    ⟨(some 2), none, .box (.t 0)⟩,
    ⟨(some 4), none, .mov (.c (.int .i64 0))⟩])
 (.seq (.reg none [
    ⟨(some 5), none, .fad 0 (.t 2)⟩,
    ⟨(some 6), none, .load false 1 (.t 5)⟩,
    ⟨(some 7), none, .mov (.t 1)⟩,
    ⟨(some 8), none, .call .q (.f 83) [(.t 6), (.t 7)]⟩,
    ⟨(some 1), none, .mov (.t 8)⟩])
 (.seq (.seq (.reg none [
     ⟨(some 9), none, .mov (.t 1)⟩,
     ⟨(some 10), none, .bin .lss (.t 9) (.c (.int .i64 0))⟩])
  (.cond (.t 10) (.seq (.reg none [
      ⟨(some 4), none, .mov (.c (.int .i64 (-1)))⟩])
   (.ret)) (.skip)))
 (.seq (.reg none [
    ⟨(some 11), none, .fad 1 (.t 2)⟩,
    ⟨(some 12), none, .load false 1 (.t 11)⟩,
    ⟨(some 13), none, .mov (.t 1)⟩,
    ⟨(some 14), none, .call .q (.f 84) [(.t 12), (.t 13)]⟩,
    ⟨(some 1), none, .mov (.t 14)⟩])
 (.seq (.seq (.reg none [
     ⟨(some 15), none, .mov (.t 1)⟩,
     ⟨(some 16), none, .bin .lss (.t 15) (.c (.int .i64 0))⟩])
  (.cond (.t 16) (.seq (.reg none [
      ⟨(some 4), none, .mov (.c (.int .i64 (-1)))⟩])
   (.ret)) (.skip)))
 (.seq (.reg none [
    ⟨(some 17), none, .mov (.t 1)⟩,
    ⟨(some 4), none, .mov (.t 17)⟩])
 (.ret))))))⟩
def HeS (F : Nat → Option IFn) (f n : Nat) : Prop := ∀ (H : Heap) (v : Value) (l : List (TStep n)) (k : Int), SlR (Co.step n) (vw 0 H) v (mkL n k l) → 0 ≤ k → k + (cS n l : Nat) ≤ 9223372036854775807 → QC F f [v, .int .i64 k] H (.int .i64 (k + (cS n l : Nat)))
set_option maxHeartbeats 8000000 in
theorem heldS_ok {F : Nat → Option IFn} {n : Nat} (hf : F 84 = some c_heldStepS) (ih : ∀ m, n = m + 1 → HeS F 84 m) : HeS F 84 n := by
  intro H v l k hv hk hkn
  obtain ⟨h0, av, hav0, _⟩ := id hv
  rw [mkL_len] at hav0 h0
  subst hav0
  suffices h : ∃ w, QC F 84 [.slice av l.length l.length, .int .i64 k] H w ∧ w = .int .i64 (k + (cS n l : Nat)) by
    obtain ⟨w, h1, rfl⟩ := h
    exact h1
  refine QC.mkE hf rfl ?_
  refine seq_reg ?_
  simp only [go_sem, binC]
  refine seq_assoc (seq_reg ?_)
  simp only [go_sem, binC]
  refine seq_block (wpc_loop ?_)
  suffices h : ∀ (kk i : Nat) (e : Env), i + kk = l.length → e 0 = .slice av l.length l.length → e 5 = .int .i64 i → e 1 = .int .i64 (k + (((l.map (cT n)).take i).sum : Nat)) → W F H.length _ e H _ from
    h l.length 0 _ (by omega) (by simp only [go_sem, binC]) (by (simp only [go_sem, binC]) <;> rfl) (by simp only [go_sem, binC]; simp)
  unfold cS at hkn
  cases n with
  | zero =>
    have hl : l = [] := by
      cases l with
      | nil => rfl
      | cons s l => exact s.elim
    subst hl
    intro kk i e hi e0 e5 e1
    obtain rfl : i = 0 := by simp at hi; omega
    refine lp_step ?_
    refine seq_assoc (seq_reg ?_)
    simp only [go_sem, binC, e0, e5]
    refine seq_cond (t := false) (by (simp only [go_sem, binC]) <;> rfl) ?_
    simp only [go_sem, binC]
    refine seq_exit ?_
    simp only [go_sem, binC, thenX_e, out_e, thenX_n]
    refine seq_reg ?_
    simp only [go_sem, binC, e1]
    exact wpc_ret ⟨Or.inr rfl, _, (by (simp only [go_sem, binC]) <;> rfl), by simp [cS], rfl⟩
  | succ n =>
  intro kk
  induction kk with
  | zero =>
    intro i e hi e0 e5 e1
    refine lp_step ?_
    refine seq_assoc (seq_reg ?_)
    simp only [go_sem, binC, e0, e5]
    refine seq_cond (t := false) (by simp only [go_sem, binC]; rw [decide_eq_false (by omega)]) ?_
    simp only [go_sem, binC]
    refine seq_exit ?_
    simp only [go_sem, binC, thenX_e, out_e, thenX_n]
    refine seq_reg ?_
    simp only [go_sem, binC, e1]
    refine wpc_ret ⟨Or.inr rfl, _, (by (simp only [go_sem, binC]) <;> rfl), ?_, rfl⟩
    unfold cS
    rw [List.take_of_length_le (by rw [List.length_map]; omega)]
  | succ kk ihk =>
    intro i e hi e0 e5 e1
    have hil : i < l.length := by omega
    have hsum := sum_take (fun x => x) (l.map (cT (n + 1))) i (by rw [List.length_map]; exact hil)
    rw [List.getElem_map, cT_sh] at hsum
    have hle := sum_take_le (l.map (cT (n + 1))) (i + 1)
    have hq0 : 0 ≤ k + (((l.map (cT (n + 1))).take i).sum : Nat) := by omega
    have hqn : (k + (((l.map (cT (n + 1))).take i).sum : Nat)) + (6 + (cS n (thOf l[i]) + cS n (elOf l[i])) : Nat) ≤ 9223372036854775807 := by omega
    have hq2 : k + (((l.map (cT (n + 1))).take (i + 1)).sum : Nat) = (k + (((l.map (cT (n + 1))).take i).sum : Nat)) + (6 + (cS n (thOf l[i]) + cS n (elOf l[i])) : Nat) := by omega
    obtain ⟨vb, vo, a0, a1, a2, a3, a4, a5, tv, ev, tl, el, hav, hs, rg, otv, oev, hgc, htl, hel⟩ := step_at hv (i := i) (by rw [mkL_len]; exact hil)
    rw [mkL_len] at hav
    simp only [Value.slice.injEq, and_true] at hav
    subst hav
    rw [mkL_at _ hil] at hs
    generalize k + (((l.map (cT (n + 1))).take i).sum : Nat) = q at e1 hq0 hqn hq2 hs
    generalize l[i] = s at hqn hq2 hs
    obtain ⟨s0, s1, s2, s3, th, el'⟩ := s
    have hs' : ((q, q + 1, (q + 2, q + 3, q + 4), q + 5, mkL n (q + 6) th, mkL n (q + 6 + (cS n th : Nat)) el') : Int × Int × (Int × Int × Int) × Int × List (TStep n) × List (TStep n)) = (a0, a1, (a2, a3, a4), a5, tl, el) := hs
    clear hs
    simp only [Prod.mk.injEq] at hs'
    obtain ⟨e0', e1', ⟨e2', e3', e4'⟩, e5', e6', e7'⟩ := hs'
    subst e0' e1' e2' e3' e4' e5' e6' e7'
    have hg8 := hgc H (fun _ _ h => h)
    have g6 := gc_part (off := 6) (k := 1) hg8 (by omega)
    have g7 := gc_part (off := 7) (k := 1) hg8 (by omega)
    simp only [List.drop_succ_cons, List.drop_zero, List.take_succ_cons, List.take_zero] at g6 g7
    have hqn' : q + (6 + (cS n th + cS n el') : Nat) ≤ 9223372036854775807 := hqn
    have hq2' : k + (((l.map (cT (n + 1))).take (i + 1)).sum : Nat) = q + (6 + (cS n th + cS n el') : Nat) := hq2
    clear hqn hq2
    refine lp_step ?_
    refine seq_assoc (seq_reg ?_)
    simp only [go_sem, binC, e0, e5]
    refine seq_cond (t := true) (by simp only [go_sem, binC]; rw [decide_eq_true (by omega)]) ?_
    simp only [go_sem, binC]
    refine seq_skip (seq_block ?_)
    have g0 : getCells H vb (vo + i * 8) 1 = some [.int .i64 (q)] := by
      have h := gc_part (off := 0) (k := 1) hg8 (by omega)
      rw [Nat.add_zero] at h
      rw [h]
      show some [Value.int .i64 q] = _
      congr 3
      try omega
    refine seq_assoc (seq_reg ?_)
    simp only [go_sem, binC, e0, e5, e1, g0, bne_self_eq_false]
    refine ⟨⟨by omega, by omega⟩, ?_⟩
    refine seq_cond (t := false) (by simp only [go_sem, binC]) ?_
    simp only [go_sem, binC]
    refine seq_skip ?_
    refine seq_reg ?_
    simp only [go_sem, binC, e1]
    rw [wrap_id (x := q + 1) (by omega) (by omega)]
    have g1 : getCells H vb (vo + i * 8 + 1) 1 = some [.int .i64 (q + 1)] := by
      have h := gc_part (off := 1) (k := 1) hg8 (by omega)
      skip
      rw [h]
      show some [Value.int .i64 (q + 1)] = _
      congr 3
      try omega
    refine seq_assoc (seq_reg ?_)
    simp only [go_sem, binC, e0, e5, e1, g1, bne_self_eq_false]
    refine ⟨⟨by omega, by omega⟩, ?_⟩
    refine seq_cond (t := false) (by simp only [go_sem, binC]) ?_
    simp only [go_sem, binC]
    refine seq_skip ?_
    refine seq_reg ?_
    simp only [go_sem, binC, e1]
    rw [wrap_id (x := (q + 1) + 1) (by omega) (by omega)]
    have g2 : getCells H vb (vo + i * 8 + 2) 1 = some [.int .i64 ((q + 1) + 1)] := by
      have h := gc_part (off := 2) (k := 1) hg8 (by omega)
      skip
      rw [h]
      show some [Value.int .i64 (q + 2)] = _
      congr 3
      try omega
    refine seq_assoc (seq_reg ?_)
    simp only [go_sem, binC, e0, e5, e1, g2, bne_self_eq_false]
    refine ⟨⟨by omega, by omega⟩, ?_⟩
    refine seq_cond (t := false) (by simp only [go_sem, binC]) ?_
    simp only [go_sem, binC]
    refine seq_skip ?_
    refine seq_reg ?_
    simp only [go_sem, binC, e1]
    rw [wrap_id (x := ((q + 1) + 1) + 1) (by omega) (by omega)]
    have g3 : getCells H vb (vo + i * 8 + 3) 1 = some [.int .i64 (((q + 1) + 1) + 1)] := by
      have h := gc_part (off := 3) (k := 1) hg8 (by omega)
      skip
      rw [h]
      show some [Value.int .i64 (q + 3)] = _
      congr 3
      try omega
    refine seq_assoc (seq_reg ?_)
    simp only [go_sem, binC, e0, e5, e1, g3, bne_self_eq_false]
    refine ⟨⟨by omega, by omega⟩, ?_⟩
    refine seq_cond (t := false) (by simp only [go_sem, binC]) ?_
    simp only [go_sem, binC]
    refine seq_skip ?_
    refine seq_reg ?_
    simp only [go_sem, binC, e1]
    rw [wrap_id (x := (((q + 1) + 1) + 1) + 1) (by omega) (by omega)]
    have g4 : getCells H vb (vo + i * 8 + 4) 1 = some [.int .i64 ((((q + 1) + 1) + 1) + 1)] := by
      have h := gc_part (off := 4) (k := 1) hg8 (by omega)
      skip
      rw [h]
      show some [Value.int .i64 (q + 4)] = _
      congr 3
      try omega
    refine seq_assoc (seq_reg ?_)
    simp only [go_sem, binC, e0, e5, e1, g4, bne_self_eq_false]
    refine ⟨⟨by omega, by omega⟩, ?_⟩
    refine seq_cond (t := false) (by simp only [go_sem, binC]) ?_
    simp only [go_sem, binC]
    refine seq_skip ?_
    refine seq_reg ?_
    simp only [go_sem, binC, e1]
    rw [wrap_id (x := ((((q + 1) + 1) + 1) + 1) + 1) (by omega) (by omega)]
    have g5 : getCells H vb (vo + i * 8 + 5) 1 = some [.int .i64 (((((q + 1) + 1) + 1) + 1) + 1)] := by
      have h := gc_part (off := 5) (k := 1) hg8 (by omega)
      skip
      rw [h]
      show some [Value.int .i64 (q + 5)] = _
      congr 3
      try omega
    refine seq_assoc (seq_reg ?_)
    simp only [go_sem, binC, e0, e5, e1, g5, bne_self_eq_false]
    refine ⟨⟨by omega, by omega⟩, ?_⟩
    refine seq_cond (t := false) (by simp only [go_sem, binC]) ?_
    simp only [go_sem, binC]
    refine seq_skip ?_
    refine seq_reg ?_
    simp only [go_sem, binC, e1]
    rw [wrap_id (x := (((((q + 1) + 1) + 1) + 1) + 1) + 1) (by omega) (by omega)]
    refine seq_reg ?_
    simp only [go_sem, binC, e0, e5, g6, otv]
    refine ⟨⟨by omega, by omega⟩, ?_⟩
    refine op_callQ (by simp only [go_sem, binC]; rw [show (((((q + 1) + 1) + 1) + 1) + 1) + 1 = q + 6 by omega]; exact ih n rfl H tv th (q + 6) htl (by omega) (by omega)) ?_
    simp only [go_sem, binC]
    refine seq_assoc (seq_reg ?_)
    simp only [go_sem, binC]
    refine seq_cond (t := false) (by simp only [go_sem, binC]; rw [decide_eq_false (by omega)]) ?_
    simp only [go_sem, binC]
    refine seq_skip (seq_reg ?_)
    simp only [go_sem, binC, e0, e5, g7, oev]
    refine ⟨⟨by omega, by omega⟩, ?_⟩
    refine op_callQ (by simp only [go_sem, binC]; exact ih n rfl H ev el' (q + 6 + (cS n th : Nat)) hel (by omega) (by omega)) ?_
    simp only [go_sem, binC]
    refine seq_reg ?_
    simp only [go_sem, binC]
    refine wpc_cond (t := false) (by simp only [go_sem, binC]; rw [decide_eq_false (by omega)]) ?_
    simp only [go_sem, binC]
    refine wpc_skip ?_
    simp only [go_sem, binC, out_n, thenX_n]
    have hw1 : IntKind.i64.wrap ((i : Int) + 1) = ((i + 1 : Nat) : Int) := by rw [wrap_id (by omega) (by omega)]; omega
    refine wpc_reg ?_
    simp only [go_sem, binC, e5, hw1]
    simp only [go_sem, binC, thenX_n]
    exact ihk (i + 1) _ (by omega) (by simp only [go_sem, binC, e0]) (by simp only [go_sem, binC]) (by simp only [go_sem, binC]; rw [hq2']; congr 1; omega)
theorem heldS_all {F : Nat → Option IFn} (hf : F 84 = some c_heldStepS) : ∀ n, HeS F 84 n
  | 0 => heldS_ok hf fun m h => by cases h
  | n + 1 => heldS_ok hf fun m h => by cases h; exact heldS_all hf n
end Go.Proofs.YtkmghcglmjehcaaI
end
section
/- Marks and tests of programs of one's own. -/
set_option linter.unusedVariables false
set_option linter.unusedSimpArgs false
namespace Go.Proofs.YtkmghcglmjehcaaI
open Go Go.RowKit
theorem LabV.flat {lo : Nat} {H : Heap} {v : Value} {ls : List (Int × Int)} (h : LabV lo H v ls) (hl : ls.length ≤ 1048576) : ∃ b, FlatB lo H.length H 2 v ls.length b 0 ∧ (ls = [] ∨ ∃ cs, H[b]? = some ⟨cs, 2, 35, true, true⟩) := by
  rcases h with ⟨rfl, rfl⟩ | ⟨b, h1, rfl, h3, h4⟩
  · exact ⟨0, ⟨by simp, none, rfl, .inl rfl⟩, .inl rfl⟩
  · exact ⟨b, ⟨by omega, _, rfl, .inr ⟨rfl, h1, (List.getElem?_eq_some_iff.1 h4).1, _, _, _, _, h4, by rw [flat_len (fl := fp) (w := 2) (fun _ => rfl)]; omega⟩⟩, .inr ⟨_, h4⟩⟩
/-- The marks of a program of one's own. -/
theorem mkProgOwn_ok {F : Nat → Option IFn} {f n : Nat} (hf : F f = some c_markProg) (gl : MarkFlat F 2 81) (gs : MkOwn F 82 n) {H : Heap} {lv sv : Value} {ls : List (Int × Int)} {l : List (TStep n)} {B : List Nat} {lo lo0 b : Nat} (hb : FlatB lo H.length H 2 lv ls.length b 0) (hk : ls = [] ∨ ∃ cs, H[b]? = some ⟨cs, 2, 35, true, true⟩) (ho : OwnT lo H n sv l B)
    (hlo : lo0 ≤ lo) (hlh : lo0 ≤ H.length) (hc : 1 + ((cP n (ls, l) : Nat) : Int) ≤ 9223372036854775807) :
    ∃ H', NC F lo0 f [.agg #[lv, sv], .int .i64 1] H (.int .i64 (1 + ((cP n (ls, l) : Nat) : Int))) H' ∧ (H.length ≤ H'.length ∧ ∀ b', b' < H.length → (b' < lo ∨ ∃ k, H[b']? = some k ∧ k.es = 0) → H'[b']? = H[b']?) ∧ HeldR H' lv 2 ls.length b 0 1 ∧ SlR (Co.step n) (vw 0 H') sv (mkL n (1 + ((nLab ls : Nat) : Int)) l) := by
  have o1 := hb.one
  have o2 := ho.one
  have hcl : ((cP n (ls, l) : Nat) : Int) = ((nLab ls : Nat) : Int) + ((cS n l : Nat) : Int) := by unfold cP; simp
  have hnl : nLab ls = ls.length * 2 := rfl
  suffices h : ∃ w H', NC F lo0 f [.agg #[lv, sv], .int .i64 1] H w H' ∧ w = .int .i64 (1 + ((cP n (ls, l) : Nat) : Int)) ∧ (H.length ≤ H'.length ∧ ∀ b', b' < H.length → (b' < lo ∨ ∃ k, H[b']? = some k ∧ k.es = 0) → H'[b']? = H[b']?) ∧ HeldR H' lv 2 ls.length b 0 1 ∧ SlR (Co.step n) (vw 0 H') sv (mkL n (1 + ((nLab ls : Nat) : Int)) l) by
    obtain ⟨w, H', g1, rfl, g2⟩ := h
    exact ⟨H', g1, g2⟩
  refine NC.mk hf rfl ?_
  refine seq_reg ?_
  simp only [go_sem, binC, o1, o2]
  refine wpc_gen fun Hb hHb => ?_
  have hx : AgX [] H Hb := hHb ▸ AgX.app [] _ _
  have hbx : Hb[H.length]? = some ⟨[lv, sv], 0, 0, false, true⟩ := hHb ▸ get_new0 _ _
  clear hHb
  have hbo : ∀ b, b < H.length → Hb[b]? = H[b]? := fun b hb => hx.2 b hb (by simp)
  have hlt : ls.length = 0 ∨ (lo ≤ b ∧ b < H.length) := by
    obtain ⟨_, a, _, h3⟩ := hb
    exact h3.imp id fun h => ⟨h.2.1, h.2.2.1⟩
  have k1 : FlatB lo H.length Hb 2 lv ls.length b 0 := hb.mono (Nat.le_refl _) (hlt.imp id fun h => hbo _ h.2)
  have ob : OwnT lo Hb n sv l B := ho.keep (Nat.le_refl _) fun b' hb' => hbo _ (ho.ge b' hb').2.1
  have m1 := gl Hb lv ls.length b 0 lo H.length lo0 1 k1 hlo (by omega) (by omega)
  have e1 := held_mark k1 1
  have hne : ∀ b' k, H[b']? = some k → k.es ≠ 2 → ls.length = 0 ∨ b' ≠ b := fun b' k h1 h2 => by
    rcases hk with hk | ⟨cs, hk⟩
    · exact .inl (by rw [hk]; rfl)
    · refine .inr fun he => ?_
      rw [he, hk] at h1
      cases h1
      exact h2 rfl
  generalize hH1 : (if ls.length = 0 then Hb else markB Hb b 0 1 (ls.length * 2)) = H1 at m1 e1
  have c1 : ∀ b', ls.length = 0 ∨ b' ≠ b → H1[b']? = Hb[b']? := fun b' h => hH1 ▸ mark_out h
  have le1 : H1.length = Hb.length := hH1 ▸ mark_len _ _ _ _ _ _
  have o1' : OwnT lo H1 n sv l B := ob.keep (Nat.le_refl _) fun b' hb' => c1 b' (by
    obtain ⟨_, _, cs, h4⟩ := ho.ge b' hb'
    exact hne b' _ h4 (by simp))
  obtain ⟨H2, k2, o2', x2⟩ := gs H1 sv l B lo lo0 (1 + ((nLab ls : Nat) : Int)) o1' hlo (by omega) (by omega)
  have hb1 : H1[H.length]? = some ⟨[lv, sv], 0, 0, false, true⟩ := (c1 _ (hlt.imp id fun h => by omega)).trans hbx
  refine seq_reg ?_
  simp only [go_sem, binC, gc_of hbx, inBlk_some, o1]
  refine op_callN (by simp only [go_sem, binC]; exact m1) ?_
  simp only [go_sem, binC]
  refine seq_reg ?_
  simp only [go_sem, binC, gc_of hb1, inBlk_some, o2]
  refine op_callN (by simp only [go_sem, binC]; exact k2) ?_
  simp only [go_sem, binC]
  refine seq_reg ?_
  simp only [go_sem, binC]
  have hlb := hx.1
  have l2 := x2.1
  have hlt0 : ls.length = 0 ∨ (ls.length ≠ 0 ∧ lo ≤ b ∧ b < H.length) := by omega
  refine wpc_ret ⟨Or.inr rfl, _, (by (simp only [go_sem, binC]) <;> rfl), by congr 1; omega, ⟨by omega, fun b' h1 h2 => ?_⟩, e1.mono (hlt0.imp id fun h => x2.2 b (by omega) fun hB => ?_), o2'.sl.mono ((vws_vw _ _).trans (vw_grow (Nat.zero_le _) fun _ _ _ => rfl))⟩
  · have hB : b' ∉ B := fun hB => by
      obtain ⟨g1, _, cs, h4⟩ := ho.ge b' hB
      rcases h2 with h2 | ⟨k, h2, h3⟩
      · omega
      · rw [h4] at h2; cases h2; cases h3
    have hbb : ls.length = 0 ∨ b' ≠ b := by
      rcases h2 with h2 | ⟨k, h2, h3⟩
      · exact hlt.imp id fun h => by omega
      · exact hne b' k h2 (by rw [h3]; simp)
    rw [x2.2 b' (by omega) hB, c1 b' hbb, hbo b' h1]
  · obtain ⟨_, _, cs, h4⟩ := ho.ge b hB
    rcases hk with hk | ⟨cs', hk⟩
    · exact h.1 (by rw [hk]; rfl)
    · rw [hk] at h4; cases h4
theorem heProg_ok {F : Nat → Option IFn} {f n : Nat} (hf : F f = some c_heldProg) (gl : HeldFlat F 2 83) (gs : HeS F 84 n) {H : Heap} {lv sv : Value} {ls : List (Int × Int)} {l : List (TStep n)} {b : Nat} (hb : ls.length = 0 ∨ b < H.length) (hk : HeldR H lv 2 ls.length b 0 1) (hs : SlR (Co.step n) (vw 0 H) sv (mkL n (1 + ((nLab ls : Nat) : Int)) l))
    (hc : 1 + ((cP n (ls, l) : Nat) : Int) ≤ 9223372036854775807) : QC F f [.agg #[lv, sv], .int .i64 1] H (.int .i64 (1 + ((cP n (ls, l) : Nat) : Int))) := by
  have o1 : one lv = true := by obtain ⟨_, a, rfl, _⟩ := hk; rfl
  have o2 : one sv = true := by obtain ⟨_, a, rfl, _⟩ := hs; rfl
  have hcl : ((cP n (ls, l) : Nat) : Int) = ((nLab ls : Nat) : Int) + ((cS n l : Nat) : Int) := by unfold cP; simp
  have hnl : nLab ls = ls.length * 2 := rfl
  refine QC.mk hf rfl ?_
  refine seq_reg ?_
  simp only [go_sem, binC, o1, o2]
  refine wpc_gen fun Hb hHb => ?_
  have hx : AgX [] H Hb := hHb ▸ AgX.app [] _ _
  have hbx : Hb[H.length]? = some ⟨[lv, sv], 0, 0, false, true⟩ := hHb ▸ get_new0 _ _
  clear hHb
  have m1 := gl Hb lv ls.length b 0 1 (hk.mono (hb.imp id fun h => hx.2 _ h (by simp))) (by omega) (by omega)
  have m2 := gs Hb sv l (1 + ((nLab ls : Nat) : Int)) (hs.mono (agx_sub hx)) (by omega) (by omega)
  rw [← hnl] at m1
  refine seq_reg ?_
  simp only [go_sem, binC, gc_of hbx, inBlk_some, o1]
  refine op_callQ (by simp only [go_sem, binC]; exact m1) ?_
  simp only [go_sem, binC]
  refine seq_assoc (seq_reg ?_)
  simp only [go_sem, binC]
  refine seq_cond (t := false) (by simp only [go_sem, binC]; rw [decide_eq_false (by omega)]) ?_
  simp only [go_sem, binC]
  refine seq_skip (seq_reg ?_)
  simp only [go_sem, binC, gc_of hbx, inBlk_some, o2]
  refine op_callQ (by simp only [go_sem, binC]; exact m2) ?_
  simp only [go_sem, binC]
  refine seq_assoc (seq_reg ?_)
  simp only [go_sem, binC]
  refine seq_cond (t := false) (by simp only [go_sem, binC]; rw [decide_eq_false (by omega)]) ?_
  simp only [go_sem, binC]
  refine seq_skip (seq_reg ?_)
  simp only [go_sem, binC]
  exact wpc_ret ⟨Or.inr rfl, _, (by (simp only [go_sem, binC]) <;> rfl), by congr 1; omega, rfl⟩
end Go.Proofs.YtkmghcglmjehcaaI
end
section
/- The program that impl.InferOf returns lies in memory of its own. -/
set_option linter.unusedVariables false
set_option linter.unusedSimpArgs false
namespace Go.Proofs.YtkmghcglmjehcaaI
open Go Go.RowKit
def InferOwn (F : Nat → Option IFn) (f : Nat) : Prop := ∀ (H : Heap) (n : Nat) (lv sv w : Value) (ls : List (Int × Int)) (l : List (TStep n)) (free : List Bool), SlR Co.p2 (vw 0 H) lv ls → SlR (Co.step n) (vw 0 H) sv l → (Co.prog n).sm (ls, l) → SlR Co.bool (vw 0 H) w free →
  ∃ lv' sv' H', KC F f [.agg #[lv, sv], w] H (.tuple #[.agg #[lv', sv'], .bool (inferV n (ls, l) free).isSome]) H' ∧ AgX [] H H' ∧ LabV H.length H' lv' (inferO n (ls, l) free).1 ∧ ∃ B, OwnT H.length H' n sv' (inferO n (ls, l) free).2 B
theorem iInferOwn_ok {F : Nat → Option IFn} {f : Nat} (hf : F f = some c_iInferOf) (gp : ProgOk F 54) (gpc : PCloneOk F 55) (ge : ∀ H, QC F 56 [] H (.agg #[.int .i64 7, .int .i64 7])) (ga : AtP F 57) (gl : ∀ n, AllP F 58 n) (gs : ISource F 60) (gb : ILBoth F 59) (gty : TypeP F 20) : InferOwn F f := by
  intro H n lv sv w ls l free r1 r2 hsm r3
  suffices h : ∃ v H', KC F f [.agg #[lv, sv], w] H v H' ∧ (∃ lv' sv', v = .tuple #[.agg #[lv', sv'], .bool (inferV n (ls, l) free).isSome] ∧ AgX [] H H' ∧ LabV H.length H' lv' (inferO n (ls, l) free).1 ∧ ∃ B, OwnT H.length H' n sv' (inferO n (ls, l) free).2 B) by
    obtain ⟨_, H', h1, lv', sv', rfl, h2⟩ := h
    exact ⟨lv', sv', H', h1, h2⟩
  have osv : one sv = true := by obtain ⟨_, a, rfl, _⟩ := r2; rfl
  obtain ⟨_, la, rfl, _⟩ := id r1
  obtain ⟨hwl, wa, rfl, _⟩ := id r3
  refine KC.mk hf rfl ?_
  refine seq_reg ?_
  simp only [go_sem, binC, osv]
  refine wpc_gen fun H1 hH1 => ?_
  have hx1 : AgX [] H H1 := hH1 ▸ AgX.app [] _ _
  have hb2 : H1[H.length]? = some ⟨[.slice la ls.length ls.length, sv], 0, 0, false, true⟩ := hH1 ▸ get_new0 _ _
  have hb4 : H1[H.length + 1]? = some ⟨[nilS, nilS], 0, 0, false, true⟩ := hH1 ▸ get_new _ _ 1
  have hln1 : H1.length = H.length + 2 := by rw [hH1]; simp
  clear hH1
  have r1' := r1.mono (agx_sub hx1)
  have r2' := r2.mono (agx_sub hx1)
  have r3' := r3.mono (agx_sub hx1)
  have hb4l := (List.getElem?_eq_some_iff.1 hb4).1
  refine seq_assoc (seq_reg ?_)
  simp only [go_sem, binC, gc_of hb2, inBlk_some, osv]
  refine op_callB (by simp only [go_sem, binC]; exact gp H1 n _ (ls, l) (prog_rd r1' r2') hsm) (fun hP => ?_) (fun hP => ?_)
  rotate_left
  · have hN : inferV n (ls, l) free = none := by unfold inferV; rw [if_neg (fun h => by rw [hP] at h; cases h.1)]
    simp only [go_sem, binC]
    refine seq_cond (t := true) rfl ?_
    simp only [go_sem, binC]
    refine seq_assoc (seq_reg ?_)
    simp only [go_sem, binC, hb4]
    refine seq_ret ⟨Or.inr rfl, .tuple #[.agg #[nilS, nilS], .bool false], ?_, nilS, nilS, by rw [hN]; rfl, hx1.setN (by omega) _, ?_, ?_⟩
    · simp [resV, resL, res1, putE_get, notT, ptr, gc_set hb4l, inBlk_some, valOf]
    · unfold inferO; rw [hN]; exact .inl ⟨rfl, rfl⟩
    · unfold inferO; rw [hN]; exact ⟨[], OwnT.nil⟩
  simp only [go_sem, binC, gc_of hb2, inBlk_some]
  by_cases hfl : free.length = ls.length
  case neg =>
    have hN : inferV n (ls, l) free = none := by unfold inferV; rw [if_neg (fun h => hfl h.2.1)]
    simp only [go_sem, binC, bne_t (show ¬ ((free.length : Int) = ls.length) by omega)]
    refine seq_cond (t := true) rfl ?_
    simp only [go_sem, binC]
    refine seq_assoc (seq_reg ?_)
    simp only [go_sem, binC, hb4]
    refine seq_ret ⟨Or.inr rfl, .tuple #[.agg #[nilS, nilS], .bool false], ?_, nilS, nilS, by rw [hN]; rfl, hx1.setN (by omega) _, ?_, ?_⟩
    · simp [resV, resL, res1, putE_get, notT, ptr, gc_set hb4l, inBlk_some, valOf]
    · unfold inferO; rw [hN]; exact .inl ⟨rfl, rfl⟩
    · unfold inferO; rw [hN]; exact ⟨[], OwnT.nil⟩
  have hls4 : ls.length ≤ 4 := progB_le4 hP
  have hlab : ls.all labB = true := progB_lab hP
  have hcnt : (allL n l).length ≤ 8 := progB_cnt hP hsm
  have hvar := progB_var hP
  have hsl := allSL_len l
  simp only [go_sem, binC, bne_f (show ((free.length : Int) = ls.length) by omega)]
  refine seq_cond (t := false) rfl ?_
  simp only [go_sem, binC]
  refine seq_skip (seq_reg ?_)
  simp only [go_sem, binC, gc_of hb2, inBlk_some, osv]
  obtain ⟨lv', sv', B, H2, k2, hx2, hL2, hO2⟩ := gpc H1 n _ sv ls l r1' r2' hsm
  have olv' := hL2.one
  have osv' := hO2.one
  obtain ⟨al, hal⟩ := hL2.shape
  subst hal
  refine op_callK (by simp only [go_sem, binC]; exact k2) ?_
  have hx2l := hx2.1
  simp only [go_sem, binC, olv', osv']
  refine ⟨by omega, ?_⟩
  refine wpc_gen fun H3 hH3 => ?_
  have hx3 : AgX [] H2 H3 := hH3 ▸ AgX.app [] _ _
  have hb6 : H3[H2.length]? = some ⟨[.slice al ls.length ls.length, sv'], 0, 0, false, true⟩ := hH3 ▸ get_new0 _ _
  clear hH3 k2
  have hx3l := hx3.1
  have hL3 := hL2.keep (Nat.le_refl _) hx3 (fun _ _ _ => by simp)
  have hO3 : OwnT H1.length H3 n sv' l B := hO2.keep (Nat.le_refl _) fun b hb => hx3.2 b (hO2.ge b hb).2.1 (by simp)
  have hb23 := (hx2.tr hx3).get hb2 (by simp)
  have hb43 := (hx2.tr hx3).get hb4 (by simp)
  have r33 := r3'.mono (agx_sub (hx2.tr hx3))
  obtain ⟨xs, hxs⟩ : ∃ xs, xs = blkOf (.slice al ls.length ls.length) := ⟨_, rfl⟩
  have hxin : ∀ b, b ∈ xs → H1.length ≤ b ∧ b < H2.length ∧ H3[b]? = some ⟨ls.flatMap fp, 2, 35, true, true⟩ := fun b hb => by
    subst hxs
    obtain ⟨q1, _, q3⟩ := hL3.blk hb
    obtain ⟨_, _, q4⟩ := hL2.blk hb
    exact ⟨q1, (List.getElem?_eq_some_iff.1 q4).1, q3⟩
  have hxB : ∀ b, b ∈ xs → b ∉ B := fun b hb hB => by
    obtain ⟨_, _, q3⟩ := hxin b hb
    obtain ⟨_, _, cs, q4⟩ := hO3.ge b hB
    rw [q3] at q4
    cases q4
  have hsv : SlR (Co.step n) (vwl H1.length xs H3) sv' l := hO3.slX hxB
  have hV : ∀ Hc, AgX xs H3 Hc → Sub (vwl H1.length xs H3) (vw 0 Hc) := fun Hc hx => (vwl_sub hx (lo' := H1.length) (xs' := []) (Nat.le_refl _) fun b' h1 h2 h3 => ⟨h3, by simp⟩).trans (vwl0 _ _ _)
  have hx0 : ∀ Hc, AgX xs H3 Hc → AgX [] H Hc := fun Hc hx => (hx1.tr (hx2.tr hx3)).trans hx (fun _ h _ => h) (fun b hb hlt => by have := (hxin b hb).1; omega)
  have hr3 : ∀ Hc, AgX xs H3 Hc → SlR Co.bool (vw 0 Hc) (.slice wa free.length free.length) free := fun Hc hx => r3.mono (agx_sub (hx0 Hc hx))
  have hget : ∀ Hc, AgX xs H3 Hc → ∀ (b : Nat) (k : Blk), H3[b]? = some k → k.app = false → Hc[b]? = some k := fun Hc hx b k hb hk => hx.get hb fun hm => by
    obtain ⟨_, _, q3⟩ := hxin b hm
    rw [hb] at q3
    cases q3
    cases hk
  refine seq_assoc (seq_reg ?_)
  simp only [go_sem, binC]
  refine seq_block (wpc_loop ?_)
  suffices h1 : ∀ (k i : Nat) (e : Env) (Hc : Heap) (cur : List (Int × Int)), i + k = free.length → cur = startL ls (free.take i) → AgX xs H3 Hc → LabV H1.length Hc (.slice al ls.length ls.length) cur → e 1 = .slice wa free.length free.length → e 4 = ptr (H.length + 1) 0 → e 6 = ptr H2.length 0 → e 28 = .slice wa free.length free.length → e 29 = .int .i64 free.length → e 30 = .int .i64 i → Go.Proofs.YtkmghcglmjehcaaI.W F H.length _ e Hc _ from
    h1 free.length 0 _ H3 ls (by omega) (by rw [List.take_zero, startL_none]) (AgX.refl _ _) hL3 (by simp only [go_sem, binC]) (by simp only [go_sem, binC]) (by simp only [go_sem, binC]) (by simp only [go_sem, binC]) (by simp only [go_sem, binC]) (by (simp only [go_sem, binC]) <;> rfl)
  intro k
  induction k with
  | zero =>
    intro i e Hc cur hi hcur hxc hLc e1 e4 e6 e28 e29 e30
    rw [List.take_of_length_le (by omega)] at hcur
    refine lp_step ?_
    refine seq_reg ?_
    simp only [go_sem, binC, e29, e30]
    refine seq_cond (t := false) (by simp only [go_sem, binC]; rw [decide_eq_false (by omega)]) ?_
    simp only [go_sem, binC]
    refine seq_exit ?_
    simp only [go_sem, binC, thenX_e, out_e, thenX_n]
    clear e28 e29 e30
    have hstl := startL_lab (free := free) hlab
    have hstv : ∀ t ∈ allL n l, varB (startL ls free).length t.2.1 = true := fun t ht => by rw [startL_len]; exact hvar t ht
    refine seq_assoc (seq_reg ?_)
    simp only [go_sem, binC]
    refine seq_block (wpc_loop ?_)
    suffices h2 : ∀ (m k : Nat) (fl : Bool) (e : Env) (Hd : Heap) (cur : List (Int × Int)), meas cur + (if fl = true then 1 else 0) = m → cur = Nat.repeat (pass n l (freeF free)) k (startL ls free) → (fl = false → pass n l (freeF free) cur = cur) → AgX xs H3 Hd → LabV H1.length Hd (.slice al ls.length ls.length) cur → e 1 = .slice wa free.length free.length → e 4 = ptr (H.length + 1) 0 → e 6 = ptr H2.length 0 → e 9 = .bool fl → Go.Proofs.YtkmghcglmjehcaaI.W F H.length _ e Hd _ from
      h2 _ 0 true _ Hc cur rfl (by rw [hcur]; rfl) (fun h => by cases h) hxc hLc (by simp only [go_sem, binC, e1]) (by simp only [go_sem, binC, e4]) (by simp only [go_sem, binC, e6]) (by (simp only [go_sem, binC]) <;> rfl)
    clear hcur hxc hLc e1 e4 e6
    intro m
    induction m using Nat.strongRecOn with
    | _ m ih =>
    intro k fl e Hd cur hm hck hfx hxd hLd e1 e4 e6 e9
    have hle : LeL cur (startL ls free) := hck ▸ passes_le hstl hstv k
    have hcl : cur.length = ls.length := by rw [hle.1, startL_len]
    have hclab := hle.lab
    have hPc : progB n (cur, l) = true := progB_ls hP hcl hclab
    have hsmc : (Co.prog n).sm (cur, l) := sm_ls hsm hcl
    have hb6d := hget Hd hxd _ _ hb6 rfl
    have hb4d := hget Hd hxd _ _ hb43 rfl
    have hb4dl := (List.getElem?_eq_some_iff.1 hb4d).1
    have hlcd : SlR Co.p2 (vw 0 Hd) (.slice al ls.length ls.length) cur := hLd.sl (lab_rg hclab) (by omega)
    have hsvd := hsv.mono (hV Hd hxd)
    have hxdl := hxd.1
    have hx0d : AgX [] H Hd := (hx1.tr (hx2.tr hx3)).trans hxd (fun _ h _ => h) (fun b hb hlt => by have := (hxin b hb).1; omega)
    refine lp_step ?_
    refine seq_assoc (seq_reg ?_)
    simp only [go_sem, binC, e9]
    cases fl with
    | false =>
      have hfix := hfx rfl
      have hinf : cur = infL n l free (startL ls free) := by
        have q := passes_inf (free := freeF free) hstl hstv (k := k) (by rw [← hck]; exact hfix)
        rw [← hck] at q
        exact q.unique (infL_inf free hP)
      refine seq_cond (t := false) (by simp only [go_sem, binC]) ?_
      simp only [go_sem, binC]
      refine seq_exit ?_
      simp only [go_sem, binC, thenX_e, out_e, thenX_n]
      refine seq_assoc (seq_reg ?_)
      simp only [go_sem, binC, e6, gc_of hb6d, inBlk_some, osv']
      refine op_callB (by simp only [go_sem, binC]; exact gty Hd n _ _ cur l hlcd hsvd hsmc) (fun hT => ?_) (fun hT => ?_)
      · have hN : inferV n (ls, l) free = some cur := by
          unfold inferV
          simp only
          rw [← hinf, if_pos ⟨hP, hfl, hT⟩]
        simp only [go_sem, binC]
        refine seq_cond (t := false) rfl ?_
        simp only [go_sem, binC]
        refine seq_skip (seq_reg ?_)
        simp only [go_sem, binC, e4, e6, gc_of hb6d, inBlk_some, osv', hb4d]
        have hxs2 : AgX [H.length + 1] Hd (Hd.set (H.length + 1) ⟨[.slice al ls.length ls.length, sv'], 0, 0, false, true⟩) := AgX.set _ _ _
        refine wpc_ret ⟨Or.inr rfl, .tuple #[.agg #[.slice al ls.length ls.length, sv'], .bool true], ?_, _, _, by rw [hN]; rfl, hx0d.setN (by omega) _, ?_, ?_⟩
        · simp [resV, resL, res1, putE_get, notT, ptr, gc_set hb4dl, inBlk_some, valOf, e4]
        · unfold inferO
          rw [hN]
          refine hLd.keep (by omega) hxs2 fun b hb _ hm => ?_
          simp only [List.mem_singleton] at hm
          omega
        · unfold inferO
          rw [hN]
          refine ⟨B, hO3.keep (by omega) fun b hb => ?_⟩
          have hbl := (hO3.ge b hb)
          rw [hxs2.2 b (by omega) (by simp only [List.mem_singleton]; omega), hxd.2 b hbl.2.1 (fun hm => hxB b hm hb)]
      · have hN : inferV n (ls, l) free = none := by
          unfold inferV
          simp only
          rw [← hinf, if_neg (fun h => by rw [hT] at h; cases h.2.2)]
        simp only [go_sem, binC]
        refine seq_cond (t := true) rfl ?_
        simp only [go_sem, binC]
        refine seq_assoc (seq_reg ?_)
        simp only [go_sem, binC, e4, hb4d]
        refine seq_ret ⟨Or.inr rfl, .tuple #[.agg #[nilS, nilS], .bool false], ?_, nilS, nilS, by rw [hN]; rfl, hx0d.setN (by omega) _, ?_, ?_⟩
        · simp [resV, resL, res1, putE_get, notT, ptr, gc_set hb4dl, inBlk_some, valOf, e4]
        · unfold inferO; rw [hN]; exact .inl ⟨rfl, rfl⟩
        · unfold inferO; rw [hN]; exact ⟨[], OwnT.nil⟩
    | true =>
      refine seq_cond (t := true) (by simp only [go_sem, binC]) ?_
      simp only [go_sem, binC]
      refine seq_skip (wpc_block (seq_reg ?_))
      simp only [go_sem, binC]
      refine seq_reg ?_
      simp only [go_sem, binC, e6, gc_of hb6d, inBlk_some, osv']
      obtain ⟨wt, H5, k5, hx5, oa⟩ := ga Hd n _ sv' cur l hlcd hsvd hsmc hPc
      refine op_callK (by simp only [go_sem, binC]; exact k5) ?_
      have hatl := atL_len cur (7, 7) l
      obtain ⟨at_, hat⟩ := oa.shape
      rw [hatl] at hat
      subst hat
      simp only [go_sem, binC]
      have hx35 : AgX xs H3 H5 := hxd.trans hx5 (fun _ h _ => h) (fun _ h _ => by cases h)
      have hx5l := hx5.1
      have hb65 := hx5.get hb6d (by simp)
      refine seq_reg ?_
      simp only [go_sem, binC, e6, gc_of hb65, inBlk_some]
      obtain ⟨wl, H6, k6, hx6, ol⟩ := gl n (vwl H1.length xs H3) H5 sv' l (hV H5 hx35) hsv (by omega)
      refine op_callK (by simp only [go_sem, binC]; exact k6) ?_
      obtain ⟨al6, hal6⟩ := ol.shape
      rw [hsl] at hal6
      subst hal6
      simp only [go_sem, binC]
      have hx6l := hx6.1
      have hx56 := hx5.tr hx6
      have hx36 : AgX xs H3 H6 := hx35.trans hx6 (fun _ h _ => h) (fun _ h _ => by cases h)
      have hL6 := hLd.keep (Nat.le_refl _) hx56 (fun _ _ _ => by simp)
      have oa6 := oa.keep (Nat.le_refl _) hx6 (fun _ _ => by simp)
      have hallat : (atL n cur (7, 7) l).all labB = true := atL_lab hclab rfl l
      have hxold : ∀ b, b ∈ xs → b < Hd.length := fun b hb => by have := (hxin b hb).2.1; omega
      refine wpc_block (wpc_loop ?_)
      suffices h3 : ∀ (q j : Nat) (e : Env) (Hf : Heap) (now : List (Int × Int)), j + q = (allL n l).length → now = (((allL n l).zip (atL n cur (7, 7) l)).take j).foldl (passS (freeF free)) cur → AgX xs H6 Hf → LabV H1.length Hf (.slice al ls.length ls.length) now → e 1 = .slice wa free.length free.length → e 4 = ptr (H.length + 1) 0 → e 6 = ptr H2.length 0 → e 9 = .bool (decide (now ≠ cur)) → e 10 = .slice at_ (allL n l).length (allL n l).length → e 47 = .slice al6 (allL n l).length (allL n l).length → e 48 = .int .i64 (allL n l).length → e 49 = .int .i64 j → Go.Proofs.YtkmghcglmjehcaaI.W F H.length _ e Hf _ from
        h3 (allL n l).length 0 _ H6 cur (by omega) rfl (AgX.refl _ _) hL6 (by simp only [go_sem, binC, e1]) (by simp only [go_sem, binC, e4]) (by simp only [go_sem, binC, e6]) (by (simp only [go_sem, binC]) <;> simp) (by simp only [go_sem, binC]) (by simp only [go_sem, binC]) (by simp only [go_sem, binC]) (by (simp only [go_sem, binC]) <;> rfl)
      clear e1 e4 e6 e9
      intro q
      induction q with
      | zero =>
        intro j e Hf now hj hnow hxf hLf e1 e4 e6 e9 e10 e47 e48 e49
        have hzl : ((allL n l).zip (atL n cur (7, 7) l)).length ≤ j := by rw [List.length_zip]; omega
        rw [List.take_of_length_le hzl] at hnow
        have hpa := pass_all (n := n) (l := l) (free := freeF free) hclab (by rw [hcl]; exact hvar)
        have hnp : now = pass n l (freeF free) cur := hnow
        have hml := meas_le now cur (hnp ▸ hpa.1)
        refine lp_step ?_
        refine seq_reg ?_
        simp only [go_sem, binC, e48, e49]
        refine seq_cond (t := false) (by simp only [go_sem, binC]; rw [decide_eq_false (by omega)]) ?_
        simp only [go_sem, binC]
        refine seq_exit ?_
        simp only [go_sem, binC, thenX_e, out_e, out_n, thenX_n]
        refine ih _ ?_ (k + 1) (decide (now ≠ cur)) _ Hf now rfl (by rw [hnp, hck]; rfl) (fun h => ?_) (hx36.trans hxf (fun _ h _ => h) (fun _ h _ => h)) hLf (by simp only [go_sem, binC, e1]) (by simp only [go_sem, binC, e4]) (by simp only [go_sem, binC, e6]) (by simp only [go_sem, binC, e9])
        · by_cases hnc : now = cur
          · simp only [hnc, ne_eq, not_true_eq_false, decide_false, Bool.false_eq_true, if_false]
            simp only [if_true] at hm
            omega
          · have : meas now ≠ meas cur := fun h => hnc (hml.2 h)
            simp only [hnc, ne_eq, not_false_eq_true, decide_true, if_true]
            simp only [if_true] at hm
            have := hml.1
            omega
        · have hnc : now = cur := by simpa using h
          rw [hnc, ← hnp, hnc]
      | succ q ihj =>
        intro j e Hf now hj hnow hxf hLf e1 e4 e6 e9 e10 e47 e48 e49
        have hjl : j < (allL n l).length := by omega
        have hja : j < (atL n cur (7, 7) l).length := by omega
        have hjs : j < (allSL n l).length := by omega
        have hjz : j < ((allL n l).zip (atL n cur (7, 7) l)).length := by rw [List.length_zip]; omega
        have hw1 : IntKind.i64.wrap ((j : Int) + 1) = ((j + 1 : Nat) : Int) := by rw [wrap_id (by omega) (by omega)]; omega
        have hpi := pass_ind (free := freeF free) (((allL n l).zip (atL n cur (7, 7) l)).take j) cur hclab (fun x hx => by
          obtain ⟨i, hi, rfl⟩ := List.getElem_of_mem (List.mem_of_mem_take hx)
          rw [List.getElem_zip]
          have := varB_i.1 (hvar _ (List.getElem_mem (show i < (allL n l).length by rw [List.length_zip] at hi; omega)))
          simp only
          omega)
        rw [← hnow] at hpi
        have hnlab := hpi.1.lab
        have hnl : now.length = ls.length := by rw [hpi.1.1, hcl]
        have hnext : (((allL n l).zip (atL n cur (7, 7) l)).take (j + 1)).foldl (passS (freeF free)) cur = passS (freeF free) now ((allL n l)[j], (atL n cur (7, 7) l)[j]) := by
          rw [List.take_add_one, List.getElem?_eq_getElem hjz, List.foldl_append, ← hnow, List.getElem_zip]
          rfl
        have hx3f : AgX xs H3 Hf := hx36.trans hxf (fun _ h _ => h) (fun _ h _ => h)
        have hxfl := hxf.1
        obtain ⟨ba, ca, hwa, gca, rda⟩ := (oa6.keep (Nat.le_refl _) hxf (fun b hb hm => by have := (oa6.blk hb).1; have := hxold b hm; omega)).at hja
        rw [hatl] at hwa
        simp only [Value.slice.injEq, and_true] at hwa
        subst hwa
        obtain ⟨bs, cs, hws, gcs, rds⟩ := (ol.keep (Nat.le_refl _) hxf (fun b hb hm => by have := (ol.blk hb).1; have := hxold b hm; omega)).at hjs
        rw [hsl] at hws
        simp only [Value.slice.injEq, and_true] at hws
        subst hws
        have hsame := allSL_at l hjs hjl
        obtain ⟨sk, sx, sa, sbb, sc, sg, tv, ev, tl, el, hs2, hcs, rg, otv, oev, _, _⟩ := anyS_rd rds
        have hsh' : shA (allSL n l)[j] = (sk, sx, (sa, sbb, sc), sg) := by unfold shA; rw [hs2]
        rw [hsh'] at hsame
        subst hcs
        have hokj := progB_okS hP _ (List.getElem_mem hjl)
        rw [← hsame] at hokj hnext
        have hoj : labB (atL n cur (7, 7) l)[j] = true := List.all_eq_true.1 hallat _ (List.getElem_mem hja)
        generalize (atL n cur (7, 7) l)[j] = hr at rda hoj hnext
        obtain ⟨ra, rb⟩ := hr
        obtain ⟨_, _, rfl, ⟨hq1, _⟩, ⟨hq2, _⟩⟩ := rda
        simp only at hq1 hq2
        subst hq1 hq2
        have hvx := varB_i.1 hokj.1
        simp only at hvx
        refine lp_step ?_
        refine seq_reg ?_
        simp only [go_sem, binC, e48, e49]
        refine seq_cond (t := true) (by simp only [go_sem, binC]; rw [decide_eq_true (by omega)]) ?_
        simp only [go_sem, binC]
        refine seq_skip (seq_block (seq_reg ?_))
        simp only [go_sem, binC, e47, e49]
        refine ⟨⟨by omega, by omega⟩, ?_⟩
        simp only [go_sem, binC, Int.toNat_natCast, Nat.zero_add, gcs, otv, oev]
        refine ⟨by omega, ?_⟩
        refine wpc_gen fun H7 hH7 => ?_
        have hx7 : AgX [] Hf H7 := hH7 ▸ AgX.app [] _ _
        have hs7 : H7[Hf.length]? = some ⟨[.int .i64 sk, .int .i64 sx, .int .i64 sa, .int .i64 sbb, .int .i64 sc, .int .i64 sg, tv, ev], 0, 0, false, true⟩ := hH7 ▸ get_new0 _ _
        have hl7 : H7.length = Hf.length + 1 := by rw [hH7, List.length_append]; rfl
        clear hH7
        have hx67 : AgX xs H6 H7 := hxf.trans hx7 (fun _ h _ => h) (fun _ h _ => by cases h)
        have hx37 : AgX xs H3 H7 := hx3f.trans hx7 (fun _ h _ => h) (fun _ h _ => by cases h)
        have hL7 := hLf.keep (Nat.le_refl _) hx7 (fun _ _ _ => by simp)
        have hb67 := hget H7 hx37 _ _ hb6 rfl
        have gca7 := gcK gca hx7
        refine seq_assoc (seq_reg ?_)
        simp only [go_sem, binC, gc_of hs7, inBlk_some]
        by_cases k1 : sk = 1
        case neg =>
          rw [show passS (freeF free) now ((sk, sx, (sa, sbb, sc), sg), (ra, rb)) = now from if_neg (fun h => k1 h.1)] at hnext
          simp only [go_sem, binC, bne_t k1]
          refine seq_cond (t := true) rfl ?_
          simp only [go_sem, binC]
          refine seq_exit ?_
          simp only [go_sem, binC, thenX_e, out_e, thenX_n]
          refine wpc_reg ?_
          simp only [go_sem, binC, e49, hw1]
          simp only [go_sem, binC, thenX_n]
          exact ihj (j + 1) _ H7 now (by omega) hnext.symm hx67 hL7 (by simp only [go_sem, binC, e1]) (by simp only [go_sem, binC, e4]) (by simp only [go_sem, binC, e6]) (by simp only [go_sem, binC, e9]) (by simp only [go_sem, binC, e10]) (by simp only [go_sem, binC, e47]) (by simp only [go_sem, binC, e48]) (by simp only [go_sem, binC])
        have hfx2 : sx.toNat < free.length := by omega
        obtain ⟨fb, fo, hfw, hgf⟩ := gcB (hr3 H7 hx37) hfx2
        simp only [Value.slice.injEq, and_true] at hfw
        subst hfw
        simp only [go_sem, binC, bne_f k1, e1, gc_of hs7, inBlk_some]
        refine ⟨⟨by omega, by omega⟩, ?_⟩
        simp only [go_sem, binC, Nat.mul_one, hgf]
        by_cases hfr : free[sx.toNat] = true
        case neg =>
          have hfr' : free[sx.toNat] = false := by simpa using hfr
          rw [show passS (freeF free) now ((sk, sx, (sa, sbb, sc), sg), (ra, rb)) = now from if_neg (fun h => hfr (by have := h.2; unfold freeF at this; simpa [List.getD, hfx2] using this))] at hnext
          simp only [go_sem, binC, hfr', Bool.not_false]
          refine seq_cond (t := true) rfl ?_
          simp only [go_sem, binC]
          refine seq_exit ?_
          simp only [go_sem, binC, thenX_e, out_e, thenX_n]
          refine wpc_reg ?_
          simp only [go_sem, binC, e49, hw1]
          simp only [go_sem, binC, thenX_n]
          exact ihj (j + 1) _ H7 now (by omega) hnext.symm hx67 hL7 (by simp only [go_sem, binC, e1]) (by simp only [go_sem, binC, e4]) (by simp only [go_sem, binC, e6]) (by simp only [go_sem, binC, e9]) (by simp only [go_sem, binC, e10]) (by simp only [go_sem, binC, e47]) (by simp only [go_sem, binC, e48]) (by simp only [go_sem, binC])
        have hval : valB now.length (sa, sbb, sc) = true := by rw [hnl]; exact hokj.2.2.1 k1
        have hsrc := srcL_val hnlab hoj hval
        have hlx := lab_getD hnlab sx.toNat
        rw [show passS (freeF free) now ((sk, sx, (sa, sbb, sc), sg), (ra, rb)) = now.set sx.toNat (lboth (now.getD sx.toNat (0, 0)) (srcL now (sa, sbb, sc) (ra, rb))) from by
          unfold passS
          rw [if_pos ⟨k1, by unfold freeF; simpa [List.getD, hfx2] using hfr⟩, hsrc]] at hnext
        have hlbl : labB (lboth (now.getD sx.toNat (0, 0)) (srcL now (sa, sbb, sc) (ra, rb))) = true := lboth_bd _ _
        have hstle := set_le hnlab (show sx.toNat < now.length by omega) (srcL_lab (ls := now) (v := (sa, sbb, sc)) hoj)
        obtain ⟨bl, hbl, hgl⟩ := hL7.getP (show sx.toNat < now.length by omega)
        rw [hnl] at hbl
        simp only [sli, Value.slice.injEq, and_true] at hbl
        subst hbl
        simp only [go_sem, binC, hfr, Bool.not_true]
        refine seq_cond (t := false) rfl ?_
        simp only [go_sem, binC]
        refine seq_skip (seq_regD ?_)
        simp only [go_sem, binC, e6, e10, gc_of hb67, gc_of hs7, inBlk_some, osv', otv, oev]
        refine ⟨⟨by omega, by omega⟩, ?_⟩
        simp only [go_sem, binC, Nat.zero_add, hgl, gc_of hb67, gc_of hs7, inBlk_some, osv', otv, oev, e10]
        refine ⟨⟨by omega, by omega⟩, ?_⟩
        simp only [go_sem, binC, Int.toNat_natCast, Nat.zero_add, gca7]
        refine op_callQ (by simp only [go_sem, binC]; exact gs H7 _ sv' tv ev now sk sx sa sbb sc sg (ra, rb) osv' otv oev rg.2.2.2.1 rg.2.2.2.2.1 (hL7.sl (lab_rg hnlab) (by omega)) hnlab hval hoj) ?_
        simp only [go_sem, binC]
        refine op_callQ (by simp only [go_sem, binC]; exact gb H7 _ _ hlx (srcL_lab hoj)) ?_
        generalize hnx : lboth (now.getD sx.toNat (0, 0)) (srcL now (sa, sbb, sc) (ra, rb)) = nx at *
        obtain ⟨n1, n2⟩ := nx
        simp only [go_sem, binC]
        refine ⟨by omega, ?_⟩
        refine wpc_gen fun H8 hH8 => ?_
        have hx8 : AgX [] H7 H8 := hH8 ▸ AgX.app [] _ _
        have ht8 : H8[H7.length]? = some ⟨[.int .i64 n1, .int .i64 n2], 0, 0, false, true⟩ := hH8 ▸ get_new0 _ _
        have hl8 : H8.length = H7.length + 1 := by rw [hH8, List.length_append]; rfl
        clear hH8
        have hx68 : AgX xs H6 H8 := hx67.trans hx8 (fun _ h _ => h) (fun _ h _ => by cases h)
        have hx38 : AgX xs H3 H8 := hx37.trans hx8 (fun _ h _ => h) (fun _ h _ => by cases h)
        have hL8 := hL7.keep (Nat.le_refl _) hx8 (fun _ _ _ => by simp)
        have hb68 := hx8.get hb67 (by simp)
        have hs8 := hx8.get hs7 (by simp)
        have hgl8 := gcK hgl hx8
        refine seq_regD ?_
        simp only [go_sem, binC, e6, gc_of hb68, gc_of hs8, gc_of ht8, inBlk_some]
        refine ⟨⟨by omega, by omega⟩, ?_⟩
        simp only [go_sem, binC, Nat.zero_add, hgl8, eqsV2]
        by_cases hsm2 : ((n1, n2) : Int × Int) = now.getD sx.toNat (0, 0)
        · have hset : now.set sx.toNat (n1, n2) = now := by
            rw [hsm2]
            refine List.ext_getElem (by simp) fun i h1 h2 => ?_
            rw [List.getElem_set]
            split
            · rename_i hii; subst hii; simp [List.getD, h2]
            · rfl
          rw [hset] at hnext
          have hd : decide (((n1, n2) : Int × Int) = ((now.getD sx.toNat (0, 0)).1, (now.getD sx.toNat (0, 0)).2)) = true := decide_eq_true hsm2
          simp only [go_sem, binC, hd, Bool.not_true]
          refine wpc_cond (t := false) rfl ?_
          simp only [go_sem, binC]
          refine wpc_skip ?_
          simp only [go_sem, binC, out_n, thenX_n]
          refine wpc_reg ?_
          simp only [go_sem, binC, e49, hw1]
          simp only [go_sem, binC, thenX_n]
          exact ihj (j + 1) _ H8 now (by omega) hnext.symm hx68 hL8 (by simp only [go_sem, binC, e1]) (by simp only [go_sem, binC, e4]) (by simp only [go_sem, binC, e6]) (by simp only [go_sem, binC, e9]) (by simp only [go_sem, binC, e10]) (by simp only [go_sem, binC, e47]) (by simp only [go_sem, binC, e48]) (by simp only [go_sem, binC])
        · have hd : decide (((n1, n2) : Int × Int) = ((now.getD sx.toNat (0, 0)).1, (now.getD sx.toNat (0, 0)).2)) = false := decide_eq_false hsm2
          simp only [go_sem, binC, hd, Bool.not_false]
          refine wpc_cond (t := true) rfl ?_
          simp only [go_sem, binC]
          refine seq_reg ?_
          simp only [go_sem, binC, e6, gc_of hb68, gc_of hs8, gc_of ht8, inBlk_some]
          refine ⟨⟨by omega, by omega⟩, ?_⟩
          obtain ⟨bl2, hbl2, hbl3, hbl4, hbl5, hL9⟩ := hL8.set (show sx.toNat < now.length by omega) (n1, n2)
          simp only [sli, hnl, Value.slice.injEq, and_true, Option.some.injEq, Addr.mk.injEq] at hbl2
          subst hbl2
          have hfl8 := flat_len (fl := fp) (w := 2) (fun _ => rfl) now
          simp only [go_sem, binC, Nat.zero_add, hbl5]
          refine ⟨⟨by omega, by omega⟩, ?_⟩
          rw [show ((now.flatMap fp).set (sx.toNat * 2) (.int .i64 n1)).set (sx.toNat * 2 + 1) (.int .i64 n2) = (now.set sx.toNat (n1, n2)).flatMap fp from flat_set _ _ (n1, n2) (by omega)]
          refine wpc_reg ?_
          simp only [go_sem, binC, out_n, thenX_n]
          refine wpc_reg ?_
          simp only [go_sem, binC, e49, hw1]
          simp only [go_sem, binC, thenX_n]
          have hxs9 : AgX [bl] H8 (H8.set bl ⟨(now.set sx.toNat (n1, n2)).flatMap fp, 2, 35, true, true⟩) := AgX.set _ _ _
          have hblx : bl ∈ xs := by rw [hxs]; simp [blkOf]
          have hne : now.set sx.toNat (n1, n2) ≠ cur := fun h => by
            have h1 := hstle
            rw [h] at h1
            have h2 : now = cur := hpi.1.antisymm h1
            have h3 : (now.set sx.toNat (n1, n2)).getD sx.toNat (0, 0) = cur.getD sx.toNat (0, 0) := by rw [h]
            rw [getD_setP (by omega), if_pos rfl, ← h2] at h3
            exact hsm2 h3
          refine ihj (j + 1) _ _ (now.set sx.toNat (n1, n2)) (by omega) hnext.symm (hx68.trans hxs9 (fun _ h _ => h) (fun b hb _ => by simp only [List.mem_singleton] at hb; subst hb; exact hblx)) hL9 (by simp only [go_sem, binC, e1]) (by simp only [go_sem, binC, e4]) (by simp only [go_sem, binC, e6]) (by simp only [go_sem, binC]; rw [decide_eq_true hne]) (by simp only [go_sem, binC, e10]) (by simp only [go_sem, binC, e47]) (by simp only [go_sem, binC, e48]) (by simp only [go_sem, binC])
  | succ k ih =>
    intro i e Hc cur hi hcur hxc hLc e1 e4 e6 e28 e29 e30
    have hif : i < free.length := by omega
    have hw1 : IntKind.i64.wrap ((i : Int) + 1) = ((i + 1 : Nat) : Int) := by rw [wrap_id (by omega) (by omega)]; omega
    have hcl : cur.length = ls.length := by rw [hcur, startL_len]
    have hb6c := hget Hc hxc _ _ hb6 rfl
    obtain ⟨fb, fo, hfw, hgf⟩ := gcB (hr3 Hc hxc) hif
    simp only [Value.slice.injEq, and_true] at hfw
    subst hfw
    have hxcl := hxc.1
    have hstep := startL_step (ls := ls) hif hfl
    rw [← hcur] at hstep
    refine lp_step ?_
    refine seq_reg ?_
    simp only [go_sem, binC, e29, e30]
    refine seq_cond (t := true) (by simp only [go_sem, binC]; rw [decide_eq_true (by omega)]) ?_
    simp only [go_sem, binC]
    refine seq_skip (seq_block (seq_reg ?_))
    simp only [go_sem, binC, e28, e30]
    refine ⟨⟨by omega, by omega⟩, ?_⟩
    simp only [go_sem, binC, Int.toNat_natCast, Nat.mul_one, hgf]
    refine seq_reg ?_
    simp only [go_sem, binC]
    by_cases hfr : free[i] = true
    · rw [show free.getD i false = true by simpa [List.getD, hif] using hfr, if_pos rfl] at hstep
      obtain ⟨bl2, hbl2, hbl3, hbl4, hbl5, hL9⟩ := hLc.set (show i < cur.length by omega) (7, 7)
      simp only [sli, hcl, Value.slice.injEq, and_true] at hbl2
      subst hbl2
      refine wpc_cond (t := true) (by simp only [go_sem, binC, hfr]) ?_
      simp only [go_sem, binC]
      refine wpc_regD ?_
      simp only [go_sem, binC, e6, gc_of hb6c, inBlk_some]
      refine op_callQ (by simp only [go_sem, binC]; exact ge Hc) ?_
      simp only [go_sem, binC]
      refine ⟨⟨by omega, by omega⟩, ?_⟩
      have hfl8 := flat_len (fl := fp) (w := 2) (fun _ => rfl) cur
      simp only [go_sem, binC, Int.toNat_natCast, Nat.zero_add, hbl5]
      refine ⟨⟨by omega, by omega⟩, ?_⟩
      rw [show ((cur.flatMap fp).set (i * 2) (.int .i64 7)).set (i * 2 + 1) (.int .i64 7) = (cur.set i (7, 7)).flatMap fp from flat_set _ _ (7, 7) (by omega)]
      simp only [go_sem, binC, out_n, thenX_n]
      refine wpc_reg ?_
      simp only [go_sem, binC, e30, hw1]
      simp only [go_sem, binC, thenX_n]
      have hxs9 : AgX [bl2] Hc (Hc.set bl2 ⟨(cur.set i (7, 7)).flatMap fp, 2, 35, true, true⟩) := AgX.set _ _ _
      have hblx : bl2 ∈ xs := by rw [hxs]; simp [blkOf]
      exact ih (i + 1) _ _ (cur.set i (7, 7)) (by omega) hstep.symm (hxc.trans hxs9 (fun _ h _ => h) (fun b hb _ => by simp only [List.mem_singleton] at hb; subst hb; exact hblx)) hL9 (by simp only [go_sem, binC, e1]) (by simp only [go_sem, binC, e4]) (by simp only [go_sem, binC, e6]) (by simp only [go_sem, binC, e28]) (by simp only [go_sem, binC, e29]) (by simp only [go_sem, binC])
    · have hfr' : free[i] = false := by simpa using hfr
      rw [if_neg (show ¬ free.getD i false = true by simp [List.getD, hif, hfr'])] at hstep
      refine wpc_cond (t := false) (by simp only [go_sem, binC, hfr']) ?_
      simp only [go_sem, binC]
      refine wpc_skip ?_
      simp only [go_sem, binC, out_n, thenX_n]
      refine wpc_reg ?_
      simp only [go_sem, binC, e30, hw1]
      simp only [go_sem, binC, thenX_n]
      exact ih (i + 1) _ Hc cur (by omega) hstep.symm hxc hLc (by simp only [go_sem, binC, e1]) (by simp only [go_sem, binC, e4]) (by simp only [go_sem, binC, e6]) (by simp only [go_sem, binC, e28]) (by simp only [go_sem, binC, e29]) (by simp only [go_sem, binC])
end Go.Proofs.YtkmghcglmjehcaaI
end
section
/- Lists of bools: copies, comparison, marks. -/
set_option linter.unusedVariables false
set_option linter.unusedSimpArgs false
namespace Go.Proofs.YtkmghcglmjehcaaI
open Go Go.RowKit
theorem toBoolBS_ok {F : Nat → Option IFn} {et : Nat} : TurnOkS F Co.bool 1 et toFlatB := by
  rintro H v l i e H' hi ⟨h0, a, rfl, h2⟩ hs hsm ⟨dst, M, rfl, hd, hj⟩ e0 e3 e4
  rcases h2 with h2 | ⟨b, o, rfl, h2⟩
  · rw [h2] at hi; simp at hi
  obtain ⟨cs, h3, h4⟩ := h2 i hi
  have g3 := rng_gc (rng_sub (vw_app 0 H (⟨dst, 1, et, true, true⟩ :: M)) h3)
  have hcs : cs = _ := h4
  simp only [Co.bool] at g3
  rw [hcs] at g3
  unfold toFlatB
  simp only [go_sem, binC, e0, e3, e4, g3]
  refine ⟨⟨by omega, by omega⟩, ⟨by omega, by omega⟩, by omega, ?_⟩
  have := InvS.step (A := Co.bool) (w := 1) (et := et) (N := []) rfl hi hd hj h4
  rw [hcs, List.append_nil] at this
  simp only [go_sem, binC, Nat.mul_one] at this ⊢
  exact this
def toBool (et : Nat) : IFn := toSlH 22 21 1 et 1 [.bool false] toFlatB
theorem toBoolS_ok {F : Nat → Option IFn} {f et : Nat} (hf : F f = some (toBool et)) : ToOkS F (Co.sl Co.bool) false .k f := toSlS_ok hf (by omega) rfl rfl (by omega) toBoolBS_ok
def eqBoolB : ICode := (.seq (.reg (some 8) [
         ⟨(some 17), none, .mov (.t 0)⟩,
         ⟨(some 18), none, .mov (.t 5)⟩,
         ⟨(some 19), none, .iad 1 (.t 17) (.t 18)⟩,
         ⟨(some 20), none, .load false 1 (.t 19)⟩,
         ⟨(some 21), none, .mov (.t 1)⟩,
         ⟨(some 22), none, .mov (.t 5)⟩,
         ⟨(some 23), none, .iad 1 (.t 21) (.t 22)⟩,
         ⟨(some 24), none, .load false 1 (.t 23)⟩,
         ⟨(some 25), none, .beq true (.t 20) (.t 24)⟩])
      (.cond (.t 25) (.seq (.reg none [
          ⟨(some 4), none, .mov (.c (.bool false))⟩])
       (.ret)) (.skip)))
def eqBool : IFn := eqSlH 26 eqBoolB
theorem eqBoolB_ok {F : Nat → Option IFn} : PairOk F Co.bool eqBoolB := by
  rintro H v u l i e hi ⟨h0, a, rfl, h2⟩ ⟨_, a', rfl, h2'⟩ e0 e1 e5
  rcases h2 with h2 | ⟨b, o, rfl, h2⟩
  · rw [h2] at hi; simp at hi
  rcases h2' with h2' | ⟨b', o', rfl, h2'⟩
  · rw [h2'] at hi; simp at hi
  obtain ⟨cs, h3, rfl⟩ := h2 i hi
  obtain ⟨cs', h3', rfl⟩ := h2' i hi
  have g3 := rng_gc h3
  have g3' := rng_gc h3'
  simp only [Co.bool] at g3 g3'
  refine seq_regD ?_
  simp only [go_sem, binC, e0, e1, e5, g3]
  refine ⟨⟨by omega, by omega⟩, ⟨by omega, by omega⟩, ?_⟩
  simp only [go_sem, binC, g3', beq_self_eq_true, Bool.not_true]
  refine wpc_cond (t := false) (by simp only [go_sem, binC]) ?_
  simp only [go_sem, binC]
  refine wpc_skip ?_
  exact ⟨rfl, rfl, by simp only [go_sem, binC, e0], by simp only [go_sem, binC, e1], by simp only [go_sem, binC, e5]⟩
theorem eqBool_ok {F : Nat → Option IFn} {f : Nat} (hf : F f = some eqBool) : EqOk F (Co.sl Co.bool) false f := eqSl_ok hf eqBoolB_ok
def markBoolB : ICode := (.seq (.reg none [
         ⟨(some 12), none, .mov (.t 0)⟩,
         ⟨(some 13), none, .mov (.t 5)⟩,
         ⟨(some 14), none, .mov (.t 1)⟩,
         ⟨(some 15), none, .bin .rem (.t 14) (.c (.int .i64 3))⟩,
         ⟨(some 16), none, .bin .eql (.t 15) (.c (.int .i64 0))⟩,
         ⟨(some 17), none, .iad 1 (.t 12) (.t 13)⟩,
         ⟨none, none, .store 1 (.t 17) (.t 16)⟩])
      (.reg none [
        ⟨(some 18), none, .mov (.t 1)⟩,
        ⟨(some 19), none, .bin .add (.t 18) (.c (.int .i64 1))⟩,
        ⟨(some 1), none, .mov (.t 19)⟩]))
def c_markBoolS : IFn := markH 20 1 markBoolB 21
theorem rem3 {k : IntKind} {x : Int} : binI .rem k x 3 = some (.int k (x.tmod 3)) := by unfold binI; simp only; rw [if_neg (by omega)]
theorem mkBools_ok {F : Nat → Option IFn} {f : Nat} (hf : F f = some c_markBoolS) {H : Heap} {v : Value} {l : List Bool} {lo hi lo0 : Nat} {k : Int} (hr : SlR Co.bool (vwb lo hi H) v l) (hlo : lo0 ≤ lo) (hk : 0 ≤ k) (hkn : k + (l.length : Int) ≤ 9223372036854775807) :
    ∃ H', NC F lo0 f [v, .int .i64 k] H (.int .i64 (k + (l.length : Int))) H' ∧ (H'.length = H.length ∧ ∀ b', b' < lo ∨ hi ≤ b' → H'[b']? = H[b']?) := by
  obtain ⟨b, o, hf2, _⟩ := flat_of (w := 1) rfl hr
  obtain ⟨hn, a, rfl, h3⟩ := hf2
  suffices h : ∃ w H', NC F lo0 f [.slice a l.length l.length, .int .i64 k] H w H' ∧ w = .int .i64 (k + (l.length : Int)) ∧ (H'.length = H.length ∧ ∀ b', b' < lo ∨ hi ≤ b' → H'[b']? = H[b']?) by
    obtain ⟨w, H', h1, rfl, h2⟩ := h
    exact ⟨H', h1, h2⟩
  refine NC.mk hf rfl ?_
  refine seq_reg ?_
  simp only [go_sem, binC]
  refine seq_assoc (seq_reg ?_)
  simp only [go_sem, binC]
  refine seq_block (wpc_loop ?_)
  suffices h : ∀ (kk i : Nat) (e : Env) (Hc : Heap), i + kk = l.length → (Hc.length = H.length ∧ ∀ b', b' < lo ∨ hi ≤ b' → Hc[b']? = H[b']?) → (l.length = 0 ∨ ∃ cs es et ap, Hc[b]? = some ⟨cs, es, et, ap, true⟩ ∧ o + l.length ≤ cs.length) → e 0 = .slice a l.length l.length → e 5 = .int .i64 i → e 1 = .int .i64 (k + (i : Int)) → W F lo0 _ e Hc _ from
    h l.length 0 _ H (by omega) ⟨rfl, fun _ _ => rfl⟩ (h3.imp id fun ⟨_, _, _, cs, es, et, ap, g1, g2⟩ => ⟨cs, es, et, ap, g1, by omega⟩) (by simp only [go_sem, binC]) (by (simp only [go_sem, binC]) <;> rfl) (by simp only [go_sem, binC]; simp)
  intro kk
  induction kk with
  | zero =>
    intro i e Hc hi2 hH hB e0 e5 e1
    refine lp_step ?_
    refine seq_assoc (seq_reg ?_)
    simp only [go_sem, binC, e0, e5]
    refine seq_cond (t := false) (by simp only [go_sem, binC]; rw [decide_eq_false (by omega)]) ?_
    simp only [go_sem, binC]
    refine seq_exit ?_
    simp only [go_sem, binC, thenX_e, out_e, thenX_n]
    refine seq_reg ?_
    simp only [go_sem, binC, e1]
    obtain rfl : i = l.length := by omega
    exact wpc_ret ⟨Or.inr rfl, _, (by (simp only [go_sem, binC]) <;> rfl), rfl, hH⟩
  | succ kk ih =>
    intro i e Hc hi2 hH hB e0 e5 e1
    have hil : i < l.length := by omega
    obtain ⟨rfl, g1, g2, _⟩ := h3.resolve_left (by omega)
    obtain ⟨cs, es, et, ap, hb, hl⟩ := hB.resolve_left (by omega)
    have hbl := (List.getElem?_eq_some_iff.1 hb).1
    have hw1 : IntKind.i64.wrap ((i : Int) + 1) = ((i + 1 : Nat) : Int) := by rw [wrap_id (by omega) (by omega)]; omega
    refine lp_step ?_
    refine seq_assoc (seq_reg ?_)
    simp only [go_sem, binC, e0, e5]
    refine seq_cond (t := true) (by simp only [go_sem, binC]; rw [decide_eq_true (by omega)]) ?_
    simp only [go_sem, binC]
    refine seq_skip (seq_block ?_)
    unfold markBoolB
    refine seq_reg ?_
    simp only [go_sem, binC, e0, e5, e1, rem3, hb]
    refine ⟨⟨by omega, by omega⟩, ⟨by omega, by omega⟩, ?_⟩
    refine wpc_reg ?_
    simp only [go_sem, binC, e1]
    rw [wrap_id (x := k + (i : Int) + 1) (by omega) (by omega)]
    simp only [go_sem, binC, out_n, thenX_n]
    refine wpc_reg ?_
    simp only [go_sem, binC, e5, hw1]
    simp only [go_sem, binC, thenX_n]
    refine ih (i + 1) _ _ (by omega) ⟨by rw [List.length_set]; exact hH.1, fun b' h => ?_⟩ (.inr ⟨_, es, et, ap, List.getElem?_set_self hbl, by rw [List.length_set]; exact hl⟩) (by simp only [go_sem, binC, e0]) (by simp only [go_sem, binC]) (by simp only [go_sem, binC]; congr 1; omega)
    rw [List.getElem?_set_ne (by omega)]
    exact hH.2 b' h
end Go.Proofs.YtkmghcglmjehcaaI
end
section
/- The law FnExactInferOf on the ideal machine. -/
set_option linter.unusedVariables false
set_option linter.unusedSimpArgs false
namespace Go.Proofs.YtkmghcglmjehcaaI
open Go Go.RowKit
def c_lawEIO : IFn := ⟨2, 117, [.t 4],
 .seq (.reg none [
    ⟨(some 2), none, .box (.t 0)⟩,
    ⟨(some 4), none, .mov (.c (.bool false))⟩])
 (.seq (.seq (.reg none [
     ⟨(some 17), none, .mov (.t 1)⟩,
     ⟨(some 18), none, .len (.t 17)⟩,
     ⟨(some 19), none, .bin .gtr (.t 18) (.c (.int .i64 1048576))⟩])
  (.cond (.t 19) (.seq (.reg none [
      ⟨(some 4), none, .mov (.c (.bool true))⟩])
   (.ret)) (.skip)))
 (.seq (.reg none [
    ⟨(some 5), none, .mov (.c (.int .i64 1048576))⟩])
 (.seq (.reg none [
    ⟨(some 20), none, .load true 2 (.t 2)⟩,
    ⟨(some 21), none, .mov (.t 5)⟩,
    ⟨(some 22), none, .call .q (.f 29) [(.t 20), (.t 21)]⟩,
    ⟨(some 5), none, .mov (.t 22)⟩])
 (.seq (.seq (.reg none [
     ⟨(some 23), none, .mov (.t 5)⟩,
     ⟨(some 24), none, .bin .lss (.t 23) (.c (.int .i64 0))⟩])
  (.cond (.t 24) (.seq (.reg none [
      ⟨(some 4), none, .mov (.c (.bool true))⟩])
   (.ret)) (.skip)))
 (.seq (.reg none [
    ⟨(some 26), none, .load true 2 (.t 2)⟩,
    ⟨(some 27), none, .call .k (.f 30) [(.t 26)]⟩,
    ⟨(some 28), none, .mov (.t 1)⟩,
    ⟨(some 29), none, .call .k (.f 31) [(.t 28)]⟩,
    ⟨(some 30), none, .call .k (.f 16) [(.t 27), (.t 29)]⟩,
    ⟨(some 25), none, .mov (.t 30)⟩,
    ⟨(some 31), none, .ext (.t 25) 0⟩,
    ⟨(some 32), none, .ext (.t 25) 1⟩,
    ⟨(some 6), none, .new [(.slice none 0 0), (.slice none 0 0)]⟩,
    ⟨none, none, .store 2 (.t 6) (.t 31)⟩,
    ⟨(some 7), none, .mov (.t 32)⟩])
 (.seq (.reg none [
    ⟨(some 33), none, .load true 2 (.t 2)⟩,
    ⟨(some 34), none, .call .k (.f 30) [(.t 33)]⟩,
    ⟨(some 8), none, .new [(.slice none 0 0), (.slice none 0 0)]⟩,
    ⟨none, none, .store 2 (.t 8) (.t 34)⟩])
 (.seq (.reg none [
    ⟨(some 35), none, .mov (.t 1)⟩,
    ⟨(some 36), none, .call .k (.f 31) [(.t 35)]⟩,
    ⟨(some 9), none, .mov (.t 36)⟩])
 (.seq (.reg none [
    ⟨(some 38), none, .load true 2 (.t 8)⟩,
    ⟨(some 39), none, .mov (.t 9)⟩,
    ⟨(some 40), none, .call .k (.f 17) [(.t 38), (.t 39)]⟩,
    ⟨(some 37), none, .mov (.t 40)⟩,
    ⟨(some 41), none, .ext (.t 37) 0⟩,
    ⟨(some 42), none, .ext (.t 37) 1⟩,
    ⟨(some 10), none, .new [(.slice none 0 0), (.slice none 0 0)]⟩,
    ⟨none, none, .store 2 (.t 10) (.t 41)⟩,
    ⟨(some 11), none, .mov (.t 42)⟩])
 (.seq (.seq (.reg none [
     ⟨(some 43), none, .load true 2 (.t 10)⟩,
     ⟨(some 44), none, .load true 2 (.t 6)⟩,
     ⟨(some 45), none, .call .q (.f 32) [(.t 43), (.t 44)]⟩,
     ⟨(some 46), none, .un .not (.t 45)⟩,
     ⟨(some 47), none, .mov (.t 46)⟩,
     ⟨(some 48), (some (47, false)), .mov (.t 11)⟩,
     ⟨(some 49), (some (47, false)), .mov (.t 7)⟩,
     ⟨(some 50), (some (47, false)), .beq true (.t 48) (.t 49)⟩,
     ⟨(some 51), none, .pick (.t 47) (.c (.bool true)) (.t 50)⟩])
  (.cond (.t 51) (.seq (.reg none [
      ⟨(some 4), none, .mov (.c (.bool false))⟩])
   (.ret)) (.skip)))
 (.seq (.seq (.reg (some 3) [
     ⟨(some 52), none, .load true 2 (.t 8)⟩,
     ⟨(some 53), none, .load true 2 (.t 2)⟩,
     ⟨(some 54), none, .call .k (.f 30) [(.t 53)]⟩,
     ⟨(some 55), none, .call .q (.f 32) [(.t 52), (.t 54)]⟩,
     ⟨(some 56), none, .un .not (.t 55)⟩])
  (.cond (.t 56) (.seq (.reg none [
      ⟨(some 4), none, .mov (.c (.bool false))⟩])
   (.ret)) (.skip)))
 (.seq (.seq (.reg none [
     ⟨(some 57), none, .mov (.t 9)⟩,
     ⟨(some 58), none, .mov (.t 1)⟩,
     ⟨(some 59), none, .call .k (.f 31) [(.t 58)]⟩,
     ⟨(some 60), none, .call .q (.f 33) [(.t 57), (.t 59)]⟩,
     ⟨(some 61), none, .un .not (.t 60)⟩])
  (.cond (.t 61) (.seq (.reg none [
      ⟨(some 4), none, .mov (.c (.bool false))⟩])
   (.ret)) (.skip)))
 (.seq (.reg none [
    ⟨(some 12), none, .mov (.c (.int .i64 1))⟩])
 (.seq (.reg none [
    ⟨(some 62), none, .load true 2 (.t 8)⟩,
    ⟨(some 63), none, .mov (.t 12)⟩,
    ⟨(some 64), none, .call .n (.f 34) [(.t 62), (.t 63)]⟩,
    ⟨(some 12), none, .mov (.t 64)⟩])
 (.seq (.reg none [
    ⟨(some 65), none, .mov (.t 9)⟩,
    ⟨(some 66), none, .mov (.t 12)⟩,
    ⟨(some 67), none, .call .n (.f 35) [(.t 65), (.t 66)]⟩,
    ⟨(some 12), none, .mov (.t 67)⟩])
 (.seq (.seq (.reg none [
     ⟨(some 68), none, .mov (.t 12)⟩,
     ⟨(some 69), none, .bin .lss (.t 68) (.c (.int .i64 0))⟩,
     ⟨(some 70), none, .mov (.t 69)⟩,
     ⟨(some 71), (some (70, false)), .load true 2 (.t 10)⟩,
     ⟨(some 72), (some (70, false)), .load true 2 (.t 6)⟩,
     ⟨(some 73), (some (70, false)), .call .q (.f 32) [(.t 71), (.t 72)]⟩,
     ⟨(some 74), (some (70, false)), .un .not (.t 73)⟩,
     ⟨(some 75), none, .pick (.t 70) (.c (.bool true)) (.t 74)⟩,
     ⟨(some 76), none, .mov (.t 75)⟩,
     ⟨(some 77), (some (76, false)), .mov (.t 11)⟩,
     ⟨(some 78), (some (76, false)), .mov (.t 7)⟩,
     ⟨(some 79), (some (76, false)), .beq true (.t 77) (.t 78)⟩,
     ⟨(some 80), none, .pick (.t 76) (.c (.bool true)) (.t 79)⟩])
  (.cond (.t 80) (.seq (.reg none [
      ⟨(some 4), none, .mov (.c (.bool false))⟩])
   (.ret)) (.skip)))
 (.seq (.reg none [
    ⟨(some 13), none, .mov (.c (.int .i64 1))⟩])
 (.seq (.reg none [
    ⟨(some 81), none, .load true 2 (.t 10)⟩,
    ⟨(some 82), none, .mov (.t 13)⟩,
    ⟨(some 83), none, .call .n (.f 34) [(.t 81), (.t 82)]⟩,
    ⟨(some 13), none, .mov (.t 83)⟩])
 (.seq (.reg none [
    ⟨(some 14), none, .mov (.c (.int .i64 1))⟩])
 (.seq (.reg none [
    ⟨(some 84), none, .load true 2 (.t 10)⟩,
    ⟨(some 85), none, .mov (.t 14)⟩,
    ⟨(some 86), none, .call .q (.f 36) [(.t 84), (.t 85)]⟩,
    ⟨(some 14), none, .mov (.t 86)⟩])
 (.seq (.seq (.reg none [
     ⟨(some 87), none, .mov (.t 14)⟩,
     ⟨(some 88), none, .bin .lss (.t 87) (.c (.int .i64 0))⟩])
  (.cond (.t 88) (.seq (.reg none [
      ⟨(some 4), none, .mov (.c (.bool false))⟩])
   (.ret)) (.skip)))
 (.seq (.seq (.reg none [
     ⟨(some 89), none, .mov (.t 14)⟩,
     ⟨(some 90), none, .mov (.t 13)⟩,
     ⟨(some 91), none, .bin .neq (.t 89) (.t 90)⟩])
  (.cond (.t 91) (.seq (.reg none [
      ⟨(some 4), none, .mov (.c (.bool false))⟩])
   (.ret)) (.skip)))
 (.seq (.reg none [
    ⟨(some 93), none, .load true 2 (.t 2)⟩,
    ⟨(some 94), none, .call .k (.f 30) [(.t 93)]⟩,
    ⟨(some 95), none, .mov (.t 1)⟩,
    ⟨(some 96), none, .call .k (.f 31) [(.t 95)]⟩,
    ⟨(some 97), none, .call .k (.f 17) [(.t 94), (.t 96)]⟩,
    ⟨(some 92), none, .mov (.t 97)⟩,
    ⟨(some 98), none, .ext (.t 92) 0⟩,
    ⟨(some 99), none, .ext (.t 92) 1⟩,
    ⟨(some 15), none, .new [(.slice none 0 0), (.slice none 0 0)]⟩,
    ⟨none, none, .store 2 (.t 15) (.t 98)⟩,
    ⟨(some 16), none, .mov (.t 99)⟩])
 (.seq (.seq (.reg none [
     ⟨(some 100), none, .load true 2 (.t 15)⟩,
     ⟨(some 101), none, .load true 2 (.t 6)⟩,
     ⟨(some 102), none, .call .q (.f 32) [(.t 100), (.t 101)]⟩,
     ⟨(some 103), none, .un .not (.t 102)⟩,
     ⟨(some 104), none, .mov (.t 103)⟩,
     ⟨(some 105), (some (104, false)), .mov (.t 16)⟩,
     ⟨(some 106), (some (104, false)), .mov (.t 7)⟩,
     ⟨(some 107), (some (104, false)), .beq true (.t 105) (.t 106)⟩,
     ⟨(some 108), none, .pick (.t 104) (.c (.bool true)) (.t 107)⟩])
  (.cond (.t 108) (.seq (.reg none [
      ⟨(some 4), none, .mov (.c (.bool false))⟩])
   (.ret)) (.skip)))
 (.seq (.reg none [
    ⟨(some 14), none, .mov (.c (.int .i64 1))⟩])
 (.seq (.reg none [
    ⟨(some 109), none, .load true 2 (.t 10)⟩,
    ⟨(some 110), none, .mov (.t 14)⟩,
    ⟨(some 111), none, .call .q (.f 36) [(.t 109), (.t 110)]⟩,
    ⟨(some 14), none, .mov (.t 111)⟩])
 (.seq (.seq (.reg none [
     ⟨(some 112), none, .mov (.t 14)⟩,
     ⟨(some 113), none, .bin .lss (.t 112) (.c (.int .i64 0))⟩])
  (.cond (.t 113) (.seq (.reg none [
      ⟨(some 4), none, .mov (.c (.bool false))⟩])
   (.ret)) (.skip)))
 (.seq (.seq (.reg none [
     ⟨(some 114), none, .mov (.t 14)⟩,
     ⟨(some 115), none, .mov (.t 13)⟩,
     ⟨(some 116), none, .bin .neq (.t 114) (.t 115)⟩])
  (.cond (.t 116) (.seq (.reg none [
      ⟨(some 4), none, .mov (.c (.bool false))⟩])
   (.ret)) (.skip)))
 (.seq (.reg none [
    ⟨(some 4), none, .mov (.c (.bool true))⟩])
 (.ret)))))))))))))))))))))))))))))⟩
attribute [local irreducible] infL in
theorem inferO_bd {n : Nat} {ls : List (Int × Int)} {l : List (TStep n)} {free : List Bool} : (inferO n (ls, l) free).1.length ≤ 1000 ∧ cP n (inferO n (ls, l) free) ≤ cP n (ls, l) := by
  unfold inferO
  cases h : inferV n (ls, l) free with
  | none =>
    refine ⟨by simp, ?_⟩
    show nLab [] + cS n [] ≤ _
    simp [nLab, cS]
  | some r =>
    obtain ⟨hP, _, _, hr⟩ := inferV_some h
    simp only at hP hr
    have h1 := infL_len (free := free) hP
    have h2 := progB_le4 hP
    have h3 : r.length = ls.length := by rw [hr]; exact h1
    refine ⟨by simp only; omega, ?_⟩
    show nLab r + cS n l ≤ nLab ls + cS n l
    unfold nLab
    omega
theorem slA_un {V : Vw} {v : Value} {l : List Bool} (h : Rd (Co.sl Co.bool) false V v l) : SlR Co.bool V v l := by
  obtain ⟨cs, hc, u, rfl, hr⟩ := h
  simp only [valOf_one, Option.some.injEq] at hc
  subst hc
  exact hr
theorem slA_mk {V : Vw} {v : Value} {l : List Bool} (h : SlR Co.bool V v l) : Rd (Co.sl Co.bool) false V v l := ⟨_, rfl, v, rfl, h⟩
set_option maxHeartbeats 8000000 in
theorem lawEIO_ok {F : Nat → Option IFn} {f : Nat} (hf : F f = some c_lawEIO) (gsz : ∀ n, SzT F (Co.prog n) true 29 (tP n)) (gto : ∀ n, ToOkS F (Co.prog n) true .k 30) (gti : ToOkS F (Co.sl Co.bool) false .k 31) (gs : InferOk F 16) (gi : InferOwn F 17) (geq : ∀ n, EqOk F (Co.prog n) true 32) (gei : EqOk F (Co.sl Co.bool) false 33) (gmp : ∀ n, MkOk F (Co.prog n) true 34 (cP n))
    (gmo : ∀ {H : Heap} {v : Value} {l : List Bool} {lo hi lo0 : Nat} {k : Int}, SlR Co.bool (vwb lo hi H) v l → hi ≤ H.length → lo0 ≤ lo → 0 ≤ k → k + (l.length : Int) ≤ 9223372036854775807 → ∃ H', NC F lo0 35 [v, .int .i64 k] H (.int .i64 (k + (l.length : Int))) H' ∧ (H.length ≤ H'.length ∧ ∀ b', b' < H.length → b' < lo ∨ hi ≤ b' → H'[b']? = H[b']?))
    (hmp : F 34 = some c_markProg) (gml : MarkFlat F 2 81) (gms : ∀ n, MkOwn F 82 n) (hhp : F 36 = some c_heldProg) (ghl : HeldFlat F 2 83) (ghs : ∀ n, HeS F 84 n) :
    ∀ (H : Heap) (n : Nat) (v u : Value) (a : TProg n) (ts : List Bool), Rd (Co.prog n) true (vw 0 H) v a → SlR Co.bool (vw 0 H) u ts → QC F f [v, u] H (.bool true) := by
  rintro H n v u ⟨ls, l⟩ ts hv hu
  obtain ⟨lv, sv, rfl, r1, r2⟩ := prog_un hv
  obtain ⟨_, la, rfl, _⟩ := id r1
  obtain ⟨_, sa, rfl, _⟩ := id r2
  obtain ⟨_, ta, rfl, _⟩ := id hu
  refine QC.mk hf rfl ?_
  refine seq_reg ?_
  simp only [go_sem, binC]
  refine wpc_gen fun H1 hH1 => ?_
  have x1 : AgX [] H H1 := hH1 ▸ AgX.app [] _ _
  have hb2 : H1[H.length]? = some ⟨[.slice la ls.length ls.length, .slice sa l.length l.length], 0, 0, false, true⟩ := hH1 ▸ get_new0 _ _
  have hn1 : H1.length = H.length + 1 := by rw [hH1, List.length_append]; rfl
  clear hH1 hv
  replace r1 := r1.mono (agx_sub x1)
  replace r2 := r2.mono (agx_sub x1)
  replace hu := hu.mono (agx_sub x1)
  refine seq_assoc (seq_reg ?_)
  simp only [go_sem, binC]
  by_cases hbig : 1048576 < (ts.length : Int)
  · refine seq_cond (t := true) (by simp only [go_sem, binC]; rw [decide_eq_true hbig]) ?_
    simp only [go_sem, binC]
    refine seq_assoc (seq_reg ?_)
    simp only [go_sem, binC]
    exact seq_ret ⟨Or.inr rfl, .bool true, by simp only [go_sem, binC], rfl, rfl⟩
  refine seq_cond (t := false) (by simp only [go_sem, binC]; rw [decide_eq_false hbig]) ?_
  simp only [go_sem, binC]
  refine seq_skip (seq_reg ?_)
  simp only [go_sem, binC]
  refine seq_reg ?_
  simp only [go_sem, binC, gc_of hb2, inBlk_some]
  obtain ⟨r, q1, q2, q3⟩ := gsz n H1 _ (ls, l) 1048576 (prog_rd r1 r2) (by omega) (by omega)
  refine op_callQ (by simp only [go_sem, binC]; exact q1) ?_
  simp only [go_sem, binC]
  refine seq_assoc (seq_reg ?_)
  simp only [go_sem, binC]
  by_cases hneg : r < 0
  · refine seq_cond (t := true) (by simp only [go_sem, binC]; rw [decide_eq_true hneg]) ?_
    simp only [go_sem, binC]
    refine seq_assoc (seq_reg ?_)
    simp only [go_sem, binC]
    exact seq_ret ⟨Or.inr rfl, .bool true, by simp only [go_sem, binC], rfl, rfl⟩
  refine seq_cond (t := false) (by simp only [go_sem, binC]; rw [decide_eq_false hneg]) ?_
  simp only [go_sem, binC]
  obtain ⟨hsm, htot⟩ := q3 (by omega)
  have hcp := cP_le (n := n) (ls, l)
  have hsi : (Co.sl Co.bool).sm ts := ⟨by omega, fun _ _ => trivial⟩
  obtain ⟨hO1, hO2⟩ := inferO_bd (n := n) (ls := ls) (l := l) (free := ts)
  -- what is wanted
  refine seq_skip (seq_reg ?_)
  simp only [go_sem, binC, gc_of hb2, inBlk_some]
  refine (gto n).x (prog_rd r1 r2) hsm (by simp only [go_sem, binC]) fun w Ha xa ha => ?_
  obtain ⟨lw, sw, rfl, w1, w2⟩ := prog_un ha
  obtain ⟨_, aw1, rfl, _⟩ := id w1
  obtain ⟨_, aw2, rfl, _⟩ := id w2
  simp only [go_sem, binC]
  refine gti.x (slA_mk (hu.mono (agx_sub xa))) hsi (by simp only [go_sem, binC]) fun wt Hb xb hwt => ?_
  replace hwt := slA_un hwt
  obtain ⟨_, aw3, rfl, _⟩ := id hwt
  simp only [go_sem, binC]
  obtain ⟨lz, sz, Hc, kc, xc, z1, z2⟩ := gs Hb n _ _ _ ls l ts (w1.mono (vws_x xb)) (w2.mono (vws_x xb)) hsm (hwt.mono (vws_x (AgX.refl _ _)))
  obtain ⟨P, hPL⟩ : ∃ P, inferO n (ls, l) ts = P := ⟨_, rfl⟩
  rw [hPL] at z1 z2 hO1 hO2
  have hO3 : cP n (P.1, P.2) ≤ cP n (ls, l) := hO2
  obtain ⟨fo, hfo⟩ : ∃ fo, (inferV n (ls, l) ts).isSome = fo := ⟨_, rfl⟩
  rw [hfo] at kc
  refine op_callK (by simp only [go_sem, binC]; exact kc) ?_
  have hrgP := p2_rg z1
  obtain ⟨_, za, rfl, _⟩ := id z1
  obtain ⟨_, zb, rfl, _⟩ := id z2
  have la' := xa.1
  have lb' := xb.1
  have lc' := xc.1
  simp only [go_sem, binC]
  refine ⟨by omega, ?_⟩
  refine wpc_gen fun H2 hH2 => ?_
  have xc2 : AgX [] Hc H2 := hH2 ▸ AgX.app [] _ _
  have hb6 : H2[Hc.length]? = some ⟨[.slice za P.1.length P.1.length, .slice zb P.2.length P.2.length], 0, 0, false, true⟩ := hH2 ▸ get_new0 _ _
  have hn2 : H2.length = Hc.length + 1 := by rw [hH2, List.length_append]; rfl
  clear hH2 kc
  have x12 : AgX [] H1 H2 := ((xa.tr xb).tr xc).tr xc2
  replace z1 := z1.mono (agx_sub xc2)
  replace z2 := z2.mono (agx_sub xc2)
  -- the first argument
  have hb22 := x12.get hb2 (by simp)
  refine seq_reg ?_
  simp only [go_sem, binC, gc_of hb22, inBlk_some]
  refine (gto n).x (prog_rd (r1.mono (agx_sub x12)) (r2.mono (agx_sub x12))) hsm (by simp only [go_sem, binC]) fun w0 H3 x3 ha3 => ?_
  obtain ⟨lx, sx, rfl, y1, y2⟩ := prog_un ha3
  obtain ⟨_, ax1, rfl, _⟩ := id y1
  obtain ⟨_, ax2, rfl, _⟩ := id y2
  have l3' := x3.1
  simp only [go_sem, binC]
  refine ⟨by omega, ?_⟩
  refine wpc_gen fun H4 hH4 => ?_
  have x34 : AgX [] H3 H4 := hH4 ▸ AgX.app [] _ _
  have hb8 : H4[H3.length]? = some ⟨[.slice ax1 ls.length ls.length, .slice ax2 l.length l.length], 0, 0, false, true⟩ := hH4 ▸ get_new0 _ _
  have hn4 : H4.length = H3.length + 1 := by rw [hH4, List.length_append]; rfl
  clear hH4
  have x14 := (x12.tr x3).tr x34
  -- the second argument
  refine seq_reg ?_
  simp only [go_sem, binC]
  refine gti.x (slA_mk (hu.mono (agx_sub x14))) hsi (by simp only [go_sem, binC]) fun vx H5 x5 hvx => ?_
  replace hvx := slA_un hvx
  obtain ⟨_, ax3, rfl, _⟩ := id hvx
  have l5' := x5.1
  simp only [go_sem, binC]
  -- what is got
  have hb85 := x5.get hb8 (by simp)
  have x35 := x34.tr x5
  refine seq_reg ?_
  simp only [go_sem, binC, gc_of hb85, inBlk_some]
  obtain ⟨iv, ih, H6, k6, x6, hL, B, hOw⟩ := gi H5 n _ _ _ ls l ts (y1.mono (vws_x x35)) (y2.mono (vws_x x35)) hsm (hvx.mono (vws_x (AgX.refl _ _)))
  rw [hPL] at hL hOw
  rw [hfo] at k6
  obtain ⟨bL, fl, hkL⟩ := hL.flat (by omega)
  have i1 : SlR Co.p2 (vw 0 H6) iv P.1 := hL.sl hrgP hO1
  have i2 : SlR (Co.step n) (vw 0 H6) ih P.2 := hOw.sl.mono ((vws_vw _ _).trans (vw_grow (Nat.zero_le _) fun _ _ _ => rfl))
  refine op_callK (by simp only [go_sem, binC]; exact k6) ?_
  obtain ⟨_, ia, rfl, _⟩ := id i1
  obtain ⟨_, ib, rfl, _⟩ := id i2
  have l6' := x6.1
  simp only [go_sem, binC]
  refine ⟨by omega, ?_⟩
  refine wpc_gen fun H7 hH7 => ?_
  have x67 : AgX [] H6 H7 := hH7 ▸ AgX.app [] _ _
  have hb10 : H7[H6.length]? = some ⟨[.slice ia P.1.length P.1.length, .slice ib P.2.length P.2.length], 0, 0, false, true⟩ := hH7 ▸ get_new0 _ _
  have hn7 : H7.length = H6.length + 1 := by rw [hH7, List.length_append]; rfl
  clear hH7 k6
  have x57 := x6.tr x67
  have x27 := ((x3.tr x34).tr x5).tr x57
  have hb67 := x27.get hb6 (by simp)
  have hb87 := x57.get hb85 (by simp)
  have hb27 := x27.get hb22 (by simp)
  have x17 := x12.tr x27
  have hk7 := geq n H7 _ _ P (prog_rd (i1.mono (agx_sub x67)) (i2.mono (agx_sub x67))) (prog_rd (z1.mono (agx_sub x27)) (z2.mono (agx_sub x27)))
  refine seq_assoc (seq_reg ?_)
  simp only [go_sem, binC, gc_of hb10, gc_of hb67, inBlk_some]
  refine op_callQ (by simp only [go_sem, binC]; exact hk7) ?_
  simp only [go_sem, binC, bne_self_eq_false, beq_self_eq_true, Bool.not_true]
  refine seq_cond (t := false) rfl ?_
  simp only [go_sem, binC]
  -- what was handed in reads as it did
  refine seq_skip (seq_assoc (seq_regD ?_))
  simp only [go_sem, binC, gc_of hb87, gc_of hb27, inBlk_some]
  refine (gto n).x (prog_rd (r1.mono (agx_sub x17)) (r2.mono (agx_sub x17))) hsm (by simp only [go_sem, binC]) fun w8 H8 x8 ha8 => ?_
  simp only [go_sem, binC]
  refine op_callQ (by simp only [go_sem, binC]; exact geq n H8 _ _ (ls, l) (prog_rd (y1.mono (vws_x ((x35.tr x57).tr x8))) (y2.mono (vws_x ((x35.tr x57).tr x8)))) (ha8.mono (vws_x (AgX.refl _ _)))) ?_
  simp only [go_sem, binC]
  refine seq_cond (t := false) rfl ?_
  simp only [go_sem, binC]
  refine seq_skip (seq_assoc (seq_reg ?_))
  simp only [go_sem, binC]
  refine gti.x (slA_mk (hu.mono (agx_sub (x17.tr x8)))) hsi (by simp only [go_sem, binC]) fun w9 H9 x9 ha9 => ?_
  simp only [go_sem, binC]
  refine op_callQ (by simp only [go_sem, binC]; exact gei H9 _ _ ts (slA_mk (hvx.mono (vws_x ((x57.tr x8).tr x9)))) (ha9.mono (vws_x (AgX.refl _ _)))) ?_
  simp only [go_sem, binC]
  refine seq_cond (t := false) rfl ?_
  simp only [go_sem, binC]
  have x79 := x8.tr x9
  have l9' := x79.1
  -- marks
  refine seq_skip (seq_reg ?_)
  simp only [go_sem, binC]
  have x39 := (x35.tr x57).tr x79
  have x59 := x57.tr x79
  have hb89 := x79.get hb87 (by simp)
  obtain ⟨H10, k10, fr10⟩ := gmp n H9 _ (ls, l) H2.length H3.length H.length 1 (prog_rd (y1.mono (vws_b x39)) (y2.mono (vws_b x39))) x39.1 (by omega) (by omega) (by omega)
  refine seq_reg ?_
  simp only [go_sem, binC, gc_of hb89, inBlk_some]
  refine op_callN (by simp only [go_sem, binC]; exact k10) ?_
  simp only [go_sem, binC]
  have l35' := x35.1
  have l57' := x57.1
  have Vx : Sub (vwb H4.length H5.length H9) (vwb H4.length H5.length H10) := vwb_same fun b h1 h2 => fr10.out (by have := x59.1; omega) (.inr (by omega))
  have l10' := fr10.1
  obtain ⟨H11, k11, l11', fr11⟩ := gmo (lo0 := H.length) (k := 1 + ((cP n (ls, l) : Nat) : Int)) ((hvx.mono (vws_b x59)).mono Vx) (by have := x59.1; omega) (by omega) (by omega) (by omega)
  refine seq_reg ?_
  simp only [go_sem, binC]
  refine op_callN (by simp only [go_sem, binC]; exact k11) ?_
  simp only [go_sem, binC]
  -- marked memory leaves what was got
  have hout : ∀ b, b < H9.length → (b < H2.length ∨ (H3.length ≤ b ∧ b < H4.length) ∨ H5.length ≤ b) → H11[b]? = H9[b]? := fun b h1 h2 => (fr11 b (by omega) (by omega)).trans (fr10.out (by omega) (by omega))
  have hg : ∀ {b : Nat} {k : Blk}, H9[b]? = some k → (b < H2.length ∨ (H3.length ≤ b ∧ b < H4.length) ∨ H5.length ≤ b) → H11[b]? = some k := fun h h2 => (hout _ (List.getElem?_eq_some_iff.1 h).1 h2).trans h
  have hb69 := x79.get hb67 (by simp)
  have hb109 := x79.get hb10 (by simp)
  have hb611 := hg hb69 (by omega)
  have hb1011 := hg hb109 (by omega)
  have hb29 := x79.get hb27 (by simp)
  have hb211 := hg hb29 (by omega)
  have l27' := x27.1
  have x211 : AgX [] H2 H11 := ⟨by omega, fun b hb _ => (hout b (by omega) (.inl hb)).trans ((x27.tr x79).2 b hb (by simp))⟩
  have x111 : AgX [] H1 H11 := x12.tr x211
  have x69 := x67.tr x79
  have l69' := x69.1
  have hown : ∀ b, H5.length ≤ b → b < H6.length → H11[b]? = H6[b]? := fun b h1 h2 => (hout b (by omega) (.inr (.inr h1))).trans (x69.2 b h2 (by simp))
  have hOw11 : OwnT H5.length H11 n (.slice ib P.2.length P.2.length) P.2 B := hOw.keep (Nat.le_refl _) fun b hb => hown b (hOw.ge b hb).1 (hOw.ge b hb).2.1
  have tL : P.1.length = 0 ∨ (H5.length ≤ bL ∧ bL < H6.length) := by
    obtain ⟨_, _, _, h3⟩ := fl
    exact h3.imp id fun h => ⟨h.2.1, h.2.2.1⟩
  have q1 := fl.mono (hi' := H11.length) (by omega) (tL.imp id fun h => hown _ h.1 h.2)
  have hkL11 : P.1 = [] ∨ ∃ cs, H11[bL]? = some ⟨cs, 2, 35, true, true⟩ := by
    rcases hkL with h | ⟨cs, h⟩
    · exact .inl h
    · by_cases h0 : P.1.length = 0
      · exact .inl (List.eq_nil_of_length_eq_zero h0)
      · have := tL.resolve_left h0
        exact .inr ⟨cs, (hown _ this.1 this.2).trans h⟩
  have hL11 : SlR Co.p2 (vw 0 H11) (.slice ia P.1.length P.1.length) P.1 := by
    have hL' : LabV H5.length H11 (.slice ia P.1.length P.1.length) P.1 := by
      rcases hL with h | ⟨b, h1, h2, h3, h4⟩
      · exact .inl h
      · exact .inr ⟨b, h1, h2, h3, (hown b h1 (List.getElem?_eq_some_iff.1 h4).1).trans h4⟩
    exact hL'.sl hrgP hO1
  have hS11 : SlR (Co.step n) (vw 0 H11) (.slice ib P.2.length P.2.length) P.2 := hOw11.sl.mono ((vws_vw _ _).trans (vw_grow (Nat.zero_le _) fun _ _ _ => rfl))
  have hk11 := geq n H11 _ _ P (prog_rd hL11 hS11) (prog_rd (z1.mono (agx_sub x211)) (z2.mono (agx_sub x211)))
  refine seq_assoc (seq_reg ?_)
  simp only [go_sem, binC]
  rw [decide_eq_false (show ¬ (1 + ((cP n (ls, l) : Nat) : Int) + (ts.length : Int) < 0) by omega)]
  simp only [go_sem, binC, gc_of hb1011, gc_of hb611, inBlk_some]
  refine op_callQ (by simp only [go_sem, binC]; exact hk11) ?_
  simp only [go_sem, binC, bne_self_eq_false, beq_self_eq_true, Bool.not_true]
  refine seq_cond (t := false) rfl ?_
  simp only [go_sem, binC]
  -- marks on what was got
  obtain ⟨H12, k12, ⟨l12, o12⟩, e1, e2⟩ := mkProgOwn_ok (lo0 := H.length) hmp gml (gms n) q1 hkL11 hOw11 (by omega) (by omega) (by omega)
  refine seq_skip (seq_reg ?_)
  simp only [go_sem, binC]
  refine seq_reg ?_
  simp only [go_sem, binC, gc_of hb1011, inBlk_some]
  refine op_callN (by simp only [go_sem, binC]; exact k12) ?_
  simp only [go_sem, binC]
  have hb1012 := (o12 _ (List.getElem?_eq_some_iff.1 hb1011).1 (.inr ⟨_, hb1011, rfl⟩)).trans hb1011
  have hb612 := (o12 _ (List.getElem?_eq_some_iff.1 hb611).1 (.inr ⟨_, hb611, rfl⟩)).trans hb611
  have hb212 := (o12 _ (List.getElem?_eq_some_iff.1 hb211).1 (.inr ⟨_, hb211, rfl⟩)).trans hb211
  have hq12 := heProg_ok hhp ghl (ghs n) (tL.imp id fun h => by omega) e1 e2 (by omega)
  have ng : ¬ (1 + ((cP n (P.1, P.2) : Nat) : Int) < 0) := by omega
  refine seq_reg ?_
  simp only [go_sem, binC]
  refine seq_reg ?_
  simp only [go_sem, binC, gc_of hb1012, inBlk_some]
  refine op_callQ (by simp only [go_sem, binC]; exact hq12) ?_
  simp only [go_sem, binC]
  refine seq_assoc (seq_reg ?_)
  simp only [go_sem, binC]
  refine seq_cond (t := false) (by simp only [go_sem, binC]; rw [decide_eq_false ng]) ?_
  simp only [go_sem, binC]
  refine seq_skip (seq_assoc (seq_reg ?_))
  simp only [go_sem, binC, bne_self_eq_false]
  refine seq_cond (t := false) rfl ?_
  simp only [go_sem, binC]
  -- done again
  have x112 : AgX [] H1 H12 := ⟨Nat.le_trans x111.1 l12, fun b hb _ => (o12 b (by omega) (.inl (by omega))).trans (x111.2 b hb (by simp))⟩
  have x212 : AgX [] H2 H12 := ⟨Nat.le_trans x211.1 l12, fun b hb _ => (o12 b (by omega) (.inl (by omega))).trans (x211.2 b hb (by simp))⟩
  refine seq_skip (seq_reg ?_)
  simp only [go_sem, binC, gc_of hb212, inBlk_some]
  refine (gto n).x (prog_rd (r1.mono (agx_sub x112)) (r2.mono (agx_sub x112))) hsm (by simp only [go_sem, binC]) fun w13 H13 x13 ha13 => ?_
  obtain ⟨lg, sg, rfl, p1, p2⟩ := prog_un ha13
  obtain ⟨_, ag1, rfl, _⟩ := id p1
  obtain ⟨_, ag2, rfl, _⟩ := id p2
  simp only [go_sem, binC]
  refine gti.x (slA_mk (hu.mono (agx_sub (x112.tr x13)))) hsi (by simp only [go_sem, binC]) fun w14 H14 x14' ha14 => ?_
  replace ha14 := slA_un ha14
  obtain ⟨_, ag3, rfl, _⟩ := id ha14
  simp only [go_sem, binC]
  obtain ⟨gv, gh, H15, k15, x15, hL15, B15, hO15⟩ := gi H14 n _ _ _ ls l ts (p1.mono (vws_x x14')) (p2.mono (vws_x x14')) hsm (ha14.mono (vws_x (AgX.refl _ _)))
  rw [hPL] at hL15 hO15
  rw [hfo] at k15
  have s1 : SlR Co.p2 (vw 0 H15) gv P.1 := hL15.sl hrgP hO1
  have s2 : SlR (Co.step n) (vw 0 H15) gh P.2 := hO15.sl.mono ((vws_vw _ _).trans (vw_grow (Nat.zero_le _) fun _ _ _ => rfl))
  refine op_callK (by simp only [go_sem, binC]; exact k15) ?_
  obtain ⟨_, ga, rfl, _⟩ := id s1
  obtain ⟨_, gb, rfl, _⟩ := id s2
  have l13' := x13.1
  have l14' := x14'.1
  have l15' := x15.1
  simp only [go_sem, binC]
  refine ⟨by omega, ?_⟩
  refine wpc_gen fun H16 hH16 => ?_
  have x1516 : AgX [] H15 H16 := hH16 ▸ AgX.app [] _ _
  have hb15 : H16[H15.length]? = some ⟨[.slice ga P.1.length P.1.length, .slice gb P.2.length P.2.length], 0, 0, false, true⟩ := hH16 ▸ get_new0 _ _
  clear hH16 k15
  have x1216 := ((x13.tr x14').tr x15).tr x1516
  have hb616 := x1216.get hb612 (by simp)
  have hb1016 := x1216.get hb1012 (by simp)
  have x216 := x212.tr x1216
  have hk16 := geq n H16 _ _ P (prog_rd (s1.mono (agx_sub x1516)) (s2.mono (agx_sub x1516))) (prog_rd (z1.mono (agx_sub x216)) (z2.mono (agx_sub x216)))
  refine seq_assoc (seq_reg ?_)
  simp only [go_sem, binC, gc_of hb15, gc_of hb616, inBlk_some]
  refine op_callQ (by simp only [go_sem, binC]; exact hk16) ?_
  simp only [go_sem, binC, bne_self_eq_false, beq_self_eq_true, Bool.not_true]
  refine seq_cond (t := false) rfl ?_
  simp only [go_sem, binC]
  have l16 := x1216.1
  have hq16 := heProg_ok (H := H16) hhp ghl (ghs n) (tL.imp id fun h => by omega) (e1.mono (tL.imp id fun h => x1216.2 _ (by omega) (by simp))) (e2.mono (agx_sub x1216)) (by omega)
  refine seq_skip (seq_reg ?_)
  simp only [go_sem, binC]
  refine seq_reg ?_
  simp only [go_sem, binC, gc_of hb1016, inBlk_some]
  refine op_callQ (by simp only [go_sem, binC]; exact hq16) ?_
  simp only [go_sem, binC]
  refine seq_assoc (seq_reg ?_)
  simp only [go_sem, binC]
  refine seq_cond (t := false) (by simp only [go_sem, binC]; rw [decide_eq_false ng]) ?_
  simp only [go_sem, binC]
  refine seq_skip (seq_assoc (seq_reg ?_))
  simp only [go_sem, binC, bne_self_eq_false]
  refine seq_cond (t := false) rfl ?_
  simp only [go_sem, binC]
  refine seq_skip (seq_reg ?_)
  simp only [go_sem, binC]
  exact wpc_ret ⟨Or.inr rfl, .bool true, by simp only [go_sem, binC], rfl, rfl⟩
end Go.Proofs.YtkmghcglmjehcaaI
end
section
/- Steps copied, as they are (the reference's). -/
set_option linter.unusedVariables false
set_option linter.unusedSimpArgs false
namespace Go.Proofs.YtkmghcglmjehcaaI
open Go Go.RowKit
theorem cpAppE_ok {F : Nat → Option IFn} {H Hc : Heap} {vl : Nat} {xs0 : List Nat} {d b : Nat} {so : Bool} {acc : List (TStep (d + 1))} {bs lo : Nat} {e : Env} {K : X → Env → Heap → Prop} {sk sx sa sb sc sh : Int} {tv ev : Value} {tl el : List (TStep d)} (hB : Cd H vl xs0 d b so acc bs [.int .i64 sk, .int .i64 sx, .int .i64 sa, .int .i64 sb, .int .i64 sc, .int .i64 sh, tv, ev] Hc) (e1 : e 3 = sli b 0 acc.length) (e2 : e 5 = ptr bs 0)
    (rg : RgI sk ∧ RgI sx ∧ RgI sa ∧ RgI sb ∧ RgI sc ∧ RgI sh) (htl : SlR (Co.step d) (vwl vl (b :: bs :: xs0) Hc) tv tl) (hel : SlR (Co.step d) (vwl vl (b :: bs :: xs0) Hc) ev el) (hlo : lo ≤ H.length) (hl : acc.length < 1048576)
    (hK : ∀ e' Hc' b' so', (e' 0 = e 0 ∧ e' 4 = e 4 ∧ e' 3 = sli b' 0 (acc.length + 1)) → AgX [] H Hc' → OwnG (Co.step (d + 1)) 8 83 H.length vl xs0 Hc' b' so' (acc ++ ([(sk, sx, (sa, sb, sc), sh, tl, el)] : List (TStep (d + 1)))) → K .n e' Hc') : wpc F lo cpApp e Hc K := by
  obtain ⟨rk, rx, ra, rb', rc, rh⟩ := rg
  have hrd := step_rd rk rx ra rb' rc rh htl hel
  obtain ⟨_, at', rfl, _⟩ := htl
  obtain ⟨_, ae', rfl, _⟩ := hel
  have hbl := (List.getElem?_eq_some_iff.1 hB.box).1
  have h1 := hB.lo
  have hx0 := hB.xs
  have hob := hB.own.1
  unfold cpApp
  refine wpc_reg ?_
  simp only [go_sem, binC, e1, e2, gc_of hB.box, inBlk_some]
  refine op_app_own (xs := bs :: xs0) hB.own (by simp only [go_sem, binC, e1]) (by simp only [go_sem, binC]) hlo (step_w _) hrd hl (by omega) (fun b' hm => by
    rcases List.mem_cons.1 hm with rfl | hm
    · exact hbl
    · have := hx0 b' hm; omega) fun H' hx hown => ?_
  simp only [go_sem, binC]
  refine hK _ H' _ _ ⟨by simp only [go_sem, binC], by simp only [go_sem, binC], by simp only [go_sem, binC]⟩ (agx_nil hB.ag hx hob) (hown.sub (AgX.refl [] H') (by simp) fun b' _ _ _ h => ⟨by simp, fun hm => h (List.mem_cons_of_mem _ hm)⟩)
def CopyE (F : Nat → Option IFn) (f n : Nat) : Prop := ∀ (H : Heap) (v : Value) (l : List (TStep n)), SlR (Co.step n) (vw 0 H) v l → (Co.sl (Co.step n)).sm l → ∃ b so H', KC F f [v] H (sli b 0 l.length) H' ∧ (AgX [] H H' ∧ OwnL (Co.step n) 8 83 H.length [] H' b so l)
theorem sCopyE_ok {F : Nat → Option IFn} {f n : Nat} (hf : F f = some c_sCopy) (ih : ∀ m, n = m + 1 → CopyE F 51 m) : CopyE F f n := by
  intro H v l hv hsm
  have hv0 := hv
  obtain ⟨h0, av, rfl, hv1⟩ := hv
  have hsm1 := hsm.1
  suffices h : ∃ v' H', KC F f [.slice av l.length l.length] H v' H' ∧ (∃ b so, v' = sli b 0 l.length ∧ (AgX [] H H' ∧ OwnL (Co.step n) 8 83 H.length [] H' b so l)) by
    obtain ⟨v', H', h1, b, so, rfl, h2⟩ := h
    exact ⟨b, so, H', h1, h2⟩
  refine KC.mk hf rfl ?_
  refine seq_reg ?_
  simp only [go_sem, binC]
  refine seq_reg ?_
  simp only [go_sem, binC]
  refine seq_assoc (seq_reg ?_)
  simp only [go_sem, binC]
  refine wpc_gen fun Hb hHb => ?_
  have ht0 : AgX [] H Hb := hHb ▸ AgX.app [] _ _
  have ho0 : OwnL (Co.step n) 8 83 H.length [] Hb H.length true [] := hHb ▸ OwnG.nil (Nat.le_refl _)
  clear hHb
  refine seq_block (wpc_loop ?_)
  suffices h : ∀ (k i : Nat) (e : Env) (Hc : Heap) (b : Nat) (so : Bool) (acc : List (TStep n)), i + k = l.length → acc = l.take i → AgX [] H Hc → OwnL (Co.step n) 8 83 H.length [] Hc b so acc → e 0 = .slice av l.length l.length → e 3 = sli b 0 acc.length → e 4 = .int .i64 i → W F H.length _ e Hc _ from
    h l.length 0 _ Hb H.length true [] (by omega) rfl ht0 ho0 (by simp only [go_sem, binC]) (by (simp only [go_sem, binC]) <;> rfl) (by (simp only [go_sem, binC]) <;> rfl)
  intro k
  induction k with
  | zero =>
    intro i e Hc b so acc hi hacc ht ho e0 e3 e4
    have hal : acc.length = i := by rw [hacc, List.length_take]; omega
    refine lp_step ?_
    refine seq_assoc (seq_reg ?_)
    simp only [go_sem, binC, e0, e4]
    refine seq_cond (t := false) (by simp only [go_sem, binC]; rw [decide_eq_false (by omega)]) ?_
    simp only [go_sem, binC]
    refine seq_exit ?_
    simp only [go_sem, binC, thenX_e, out_e, thenX_n]
    refine seq_reg ?_
    simp only [go_sem, binC, e3]
    exact wpc_ret ⟨Or.inr rfl, _, (by (simp only [go_sem, binC]) <;> rfl), b, so, by rw [hal, show i = l.length by omega], ht, by rw [hacc, List.take_of_length_le (by omega)] at ho; exact ho⟩
  | succ k ihk =>
    intro i e Hc b so acc hi hacc ht ho e0 e3 e4
    have hal : acc.length = i := by rw [hacc, List.length_take]; omega
    have hil : i < l.length := by omega
    cases n with
    | zero => exact (l[i]).elim
    | succ n =>
    obtain ⟨vb, vo, sk, sx, sa, sbb, sc, sg, tv, ev, tl, el, hav, hs, rg, otv, oev, hgc, htl, hel⟩ := step_atV hv0 hil
    simp only [Value.slice.injEq, and_true] at hav
    subst hav
    have hA := ih n rfl
    have hsmi := hsm.2 _ (List.getElem_mem hil)
    rw [hs] at hsmi
    obtain ⟨_, _, _, _, mtl, mel⟩ := hsmi
    have hbl : b < Hc.length := by obtain ⟨_, _, cs, h, _⟩ := ho; exact (List.getElem?_eq_some_iff.1 h).1
    refine lp_step ?_
    refine seq_assoc (seq_reg ?_)
    simp only [go_sem, binC, e0, e4]
    refine seq_cond (t := true) (by simp only [go_sem, binC]; rw [decide_eq_true (by omega)]) ?_
    simp only [go_sem, binC]
    refine seq_skip (seq_block ?_)
    refine seq_reg ?_
    simp only [go_sem, binC, e0, e4, hgc _ (agx_sub ht), otv, oev]
    refine ⟨⟨by omega, by omega⟩, by have := ht.1; omega, ?_⟩
    refine wpc_gen fun H1 hH1 => ?_
    have hB : Cd H H.length [] n b so acc Hc.length [.int .i64 sk, .int .i64 sx, .int .i64 sa, .int .i64 sbb, .int .i64 sc, .int .i64 sg, tv, ev] H1 := by
      subst hH1
      exact ⟨ht.appN _, ho.sub (AgX.app [] _ _) (by simp) (fun b' h4 h5 h6 h7 => ⟨by simp, by simp; omega⟩), get_new0 _ _, ht.1, hbl, by simp, Nat.le_refl _⟩
    clear hH1
    refine seq_reg ?_
    simp only [go_sem, binC, gc_of hB.box, inBlk_some]
    obtain ⟨b3, so3, H3, k3, x3, o3⟩ := hA H1 tv tl (htl.mono (agx_sub hB.ag)) mtl
    refine op_callK (by simp only [go_sem, binC]; exact k3) ?_
    have hB3 := hB.grow x3
    simp only [go_sem, binC, hB3.box]
    refine ⟨by have := hB.lo; omega, ?_⟩
    have hB4 := hB3.store (cells' := [.int .i64 sk, .int .i64 sx, .int .i64 sa, .int .i64 sbb, .int .i64 sc, .int .i64 sg, sli b3 0 tl.length, ev])
    have r3 := (o3.slR (step_w n) (by simp)).mono (hB.new x3 ⟨[.int .i64 sk, .int .i64 sx, .int .i64 sa, .int .i64 sbb, .int .i64 sc, .int .i64 sg, sli b3 0 tl.length, ev], 0, 0, false, true⟩)
    refine seq_reg ?_
    simp only [go_sem, binC, gc_of hB4.box, inBlk_some]
    obtain ⟨b5, so5, H5, k5, x5, o5⟩ := hA _ ev el (hel.mono (agx_sub hB4.ag)) mel
    refine op_callK (by simp only [go_sem, binC]; exact k5) ?_
    have hB5 := hB4.grow x5
    simp only [go_sem, binC, hB5.box]
    refine ⟨by have := hB.lo; omega, ?_⟩
    have hB6 := hB5.store (cells' := [.int .i64 sk, .int .i64 sx, .int .i64 sa, .int .i64 sbb, .int .i64 sc, .int .i64 sg, sli b3 0 tl.length, sli b5 0 el.length])
    have r5 := (o5.slR (step_w n) (by simp)).mono (hB4.new x5 ⟨[.int .i64 sk, .int .i64 sx, .int .i64 sa, .int .i64 sbb, .int .i64 sc, .int .i64 sg, sli b3 0 tl.length, sli b5 0 el.length], 0, 0, false, true⟩)
    have r6 := r3.mono ((vwl_sub x5 (Nat.le_refl _) (fun b' _ _ h => ⟨by simp, h⟩)).trans (vwl_sub (AgX.set H5 Hc.length ⟨[.int .i64 sk, .int .i64 sx, .int .i64 sa, .int .i64 sbb, .int .i64 sc, .int .i64 sg, sli b3 0 tl.length, sli b5 0 el.length], 0, 0, false, true⟩) (Nat.le_refl _) (fun b' _ _ h => ⟨by simp at h ⊢; exact h.2, h⟩)) : Sub (vwl H.length [b, Hc.length] _) (vwl H.length [b, Hc.length] _))
    refine cpAppE_ok hB6 (by simp only [go_sem, binC, e3]) (by simp only [go_sem, binC]) rg r6 r5 (Nat.le_refl _) (by omega) fun e7 H7 b7 so7 ⟨f0, f4, f3⟩ x7 o7 => ?_
    simp only [go_sem, binC, out_n, thenX_n]
    refine wpc_reg ?_
    simp only [go_sem, binC, f4, e4]
    have hw1 : IntKind.i64.wrap ((i : Int) + 1) = ((i + 1 : Nat) : Int) := by rw [wrap_id (by omega) (by omega)]; omega
    rw [hw1]
    simp only [go_sem, binC, thenX_n]
    have hnx : acc ++ ([(sk, sx, (sa, sbb, sc), sg, tl, el)] : List (TStep (n + 1))) = l.take (i + 1) := by
      rw [List.take_add_one, List.getElem?_eq_getElem hil, hacc, hs]
      rfl
    refine ihk (i + 1) _ H7 b7 so7 _ (by omega) hnx x7 o7 (by simp only [go_sem, binC, f0, e0]) (by (simp only [go_sem, binC, f3]) <;> (rw [List.length_append]; rfl)) (by simp only [go_sem, binC])
theorem sCopyE_all {F : Nat → Option IFn} (hf : F 51 = some c_sCopy) : ∀ n, CopyE F 51 n
  | 0 => sCopyE_ok hf fun m h => by omega
  | n + 1 => sCopyE_ok hf fun m h => by cases h; exact sCopyE_all hf n
end Go.Proofs.YtkmghcglmjehcaaI
end
section
/- What a variable needs (the reference's). -/
set_option linter.unusedVariables false
set_option linter.unusedSimpArgs false
namespace Go.Proofs.YtkmghcglmjehcaaI
open Go Go.RowKit
def c_sNeed : IFn := ⟨2, 55, [.cell true 2 4],
 .seq (.reg none [
    ⟨(some 2), none, .box (.t 0)⟩,
    ⟨(some 4), none, .new [(.int .i64 0), (.int .i64 0)]⟩])
 (.seq (.reg none [
    ⟨(some 9), none, .fad 1 (.t 2)⟩,
    ⟨(some 10), none, .load false 1 (.t 9)⟩,
    ⟨(some 11), none, .call .k (.f 103) [(.t 10)]⟩,
    ⟨(some 5), none, .mov (.t 11)⟩])
 (.seq (.reg none [
    ⟨(some 12), none, .load true 2 (.t 2)⟩,
    ⟨(some 13), none, .call .k (.f 104) [(.t 12)]⟩,
    ⟨(some 6), none, .mov (.t 13)⟩])
 (.seq (.reg none [
    ⟨(some 14), none, .fad 0 (.t 2)⟩,
    ⟨(some 15), none, .load false 1 (.t 14)⟩,
    ⟨(some 16), none, .mov (.t 1)⟩,
    ⟨(some 17), none, .iad 2 (.t 15) (.t 16)⟩,
    ⟨(some 18), none, .load true 2 (.t 17)⟩,
    ⟨(some 7), none, .new [(.int .i64 0), (.int .i64 0)]⟩,
    ⟨none, none, .store 2 (.t 7) (.t 18)⟩])
 (.seq (.seq (.reg none [
     ⟨(some 8), none, .mov (.c (.int .i64 0))⟩])
  (.block 0 (.loop (.seq (.seq (.reg none [
        ⟨(some 19), none, .mov (.t 8)⟩,
        ⟨(some 20), none, .mov (.t 5)⟩,
        ⟨(some 21), none, .len (.t 20)⟩,
        ⟨(some 22), none, .bin .lss (.t 19) (.t 21)⟩])
     (.cond (.t 22) (.skip) (.exit 0)))
    (.seq (.block 1 (.seq (.reg none [
         ⟨(some 25), none, .mov (.t 5)⟩,
         ⟨(some 26), none, .mov (.t 8)⟩,
         ⟨(some 27), none, .iad 8 (.t 25) (.t 26)⟩,
         ⟨(some 28), none, .fad 0 (.t 27)⟩,
         ⟨(some 29), none, .load false 1 (.t 28)⟩,
         ⟨(some 30), none, .bin .eql (.t 29) (.c (.int .i64 1))⟩,
         ⟨(some 31), none, .mov (.t 30)⟩,
         ⟨(some 32), (some (31, true)), .mov (.t 5)⟩,
         ⟨(some 33), (some (31, true)), .mov (.t 8)⟩,
         ⟨(some 34), (some (31, true)), .iad 8 (.t 32) (.t 33)⟩,
         ⟨(some 35), (some (31, true)), .fad 1 (.t 34)⟩,
         ⟨(some 36), (some (31, true)), .load false 1 (.t 35)⟩,
         ⟨(some 37), (some (31, true)), .mov (.t 1)⟩,
         ⟨(some 38), (some (31, true)), .bin .eql (.t 36) (.t 37)⟩,
         ⟨(some 39), none, .pick (.t 31) (.t 38) (.c (.bool false))⟩])
      (.cond (.t 39) (.reg (some 13) [
         ⟨(some 40), none, .load true 2 (.t 7)⟩,
         ⟨(some 41), none, .mov (.t 6)⟩,
         ⟨(some 42), none, .mov (.t 8)⟩,
         ⟨(some 43), none, .iad 2 (.t 41) (.t 42)⟩,
         ⟨(some 44), none, .load true 2 (.t 43)⟩,
         ⟨(some 45), none, .load true 2 (.t 2)⟩,
         ⟨(some 46), none, .mov (.t 5)⟩,
         ⟨(some 47), none, .mov (.t 8)⟩,
         ⟨(some 48), none, .iad 8 (.t 46) (.t 47)⟩,
         ⟨(some 49), none, .fad 2 (.t 48)⟩,
         ⟨(some 50), none, .load true 3 (.t 49)⟩,
         ⟨(some 51), none, .call .q (.f 106) [(.t 45), (.t 50)]⟩,
         ⟨(some 52), none, .call .q (.f 105) [(.t 44), (.t 51)]⟩,
         ⟨(some 53), none, .call .q (.f 105) [(.t 40), (.t 52)]⟩,
         ⟨none, none, .store 2 (.t 7) (.t 53)⟩]) (.skip))))
    (.reg none [
      ⟨(some 23), none, .mov (.t 8)⟩,
      ⟨(some 24), none, .bin .add (.t 23) (.c (.int .i64 1))⟩,
      ⟨(some 8), none, .mov (.t 24)⟩]))))))
 (.seq (.reg none [
    ⟨(some 54), none, .load true 2 (.t 7)⟩,
    ⟨none, none, .store 2 (.t 4) (.t 54)⟩])
 (.ret))))))⟩
def NeedOk (F : Nat → Option IFn) (f : Nat) : Prop := ∀ (H : Heap) (n : Nat) (lv sv : Value) (ls : List (Int × Int)) (l : List (TStep n)) (v : Nat), SlR Co.p2 (vw 0 H) lv ls → SlR (Co.step n) (vw 0 H) sv l → (Co.prog n).sm (ls, l) → progB n (ls, l) = true → v < ls.length → QC F f [.agg #[lv, sv], .int .i64 v] H (.agg #[.int .i64 (needV n ls l v).1, .int .i64 (needV n ls l v).2])
theorem lab_rg1 {a : Int × Int} (h : labB a = true) : RgI a.1 ∧ RgI a.2 := by
  have q := labB_i.1 h
  unfold RgI
  exact ⟨by omega, by omega⟩
theorem sNeed_ok {F : Nat → Option IFn} {f : Nat} (hf : F f = some c_sNeed) (gall : ∀ n, AllOk F 103 n) (gta : TypeAtOk F 104) (gb : LBothOk F 105)
    (gv : ∀ (H : Heap) (lv sv : Value) (ls : List (Int × Int)) (k a b : Int), one sv = true → SlR Co.p2 (vw 0 H) lv ls → valB ls.length (k, a, b) = true → QC F 106 [.agg #[lv, sv], .agg #[.int .i64 k, .int .i64 a, .int .i64 b]] H (.agg #[.int .i64 (valL ls (k, a, b)).1, .int .i64 (valL ls (k, a, b)).2])) : NeedOk F f := by
  intro H n lv sv ls l v hlv hsv hsm hpb hvl
  have osv : one sv = true := by obtain ⟨_, a, rfl, _⟩ := hsv; rfl
  obtain ⟨_, la, rfl, _⟩ := id hlv
  have hcnt : (allL n l).length ≤ 8 := progB_cnt hpb hsm
  have hsh := progB_sh hpb
  have hlab := progB_lab hpb
  refine QC.mk hf rfl ?_
  refine seq_reg ?_
  simp only [go_sem, binC, osv]
  refine wpc_gen fun H1 hH1 => ?_
  have ht1 : AgX [] H H1 := hH1 ▸ AgX.app [] _ _
  have hp1 : H1[H.length]? = some ⟨[.slice la ls.length ls.length, sv], 0, 0, false, true⟩ := hH1 ▸ get_new0 _ _
  have hr1 : H1[H.length + 1]? = some ⟨[.int .i64 0, .int .i64 0], 0, 0, false, true⟩ := hH1 ▸ get_new _ _ 1
  clear hH1
  refine seq_reg ?_
  simp only [go_sem, binC, gc_of hp1, inBlk_some]
  obtain ⟨v2, H2, k2, x2, b2, so2, rfl, o2⟩ := gall n H1 sv l (hsv.mono (agx_sub ht1)) (by omega)
  refine op_callK (by simp only [go_sem, binC]; exact k2) ?_
  simp only [go_sem, binC]
  have hp2 := x2.get hp1 (by simp)
  have ht2 := ht1.tr x2
  refine seq_reg ?_
  simp only [go_sem, binC, gc_of hp2, inBlk_some, osv]
  obtain ⟨b3, so3, out, H3, k3, x3, o3, n3, a3, q3⟩ := gta H2 n _ sv ls l (hlv.mono (agx_sub ht2)) (hsv.mono (agx_sub ht2)) hsm hpb
  refine op_callK (by simp only [go_sem, binC]; exact k3) ?_
  simp only [go_sem, binC]
  have hp3 := x3.get hp2 (by simp)
  have hr3 := x3.get (x2.get hr1 (by simp)) (by simp)
  have ht3 := ht2.tr x3
  have ho2b : ∀ b, b = b2 → H1.length ≤ b ∧ b < H2.length := fun b hb => by subst hb; exact ⟨o2.1, by obtain ⟨_, _, cs, h, _⟩ := o2; exact (List.getElem?_eq_some_iff.1 h).1⟩
  have o23 := o2.sub x3 (xs' := []) (by simp) (fun _ _ _ _ _ => ⟨by simp, by simp⟩)
  obtain ⟨lb, lo', hla, hgl⟩ := gcP (hlv.mono (agx_sub ht3)) hvl
  simp only [Value.slice.injEq, and_true] at hla
  subst hla
  have hlx := lab_getD hlab v
  have hls : ls[v] = ls.getD v (0, 0) := by simp [List.getD, hvl]
  rw [hls] at hgl
  have hl3 := ht3.1
  refine seq_reg ?_
  simp only [go_sem, binC, gc_of hp3, inBlk_some]
  refine ⟨⟨by omega, by omega⟩, ?_⟩
  simp only [go_sem, binC, Int.toNat_natCast, hgl]
  refine ⟨by omega, ?_⟩
  refine wpc_gen fun H4 hH4 => ?_
  have x4 : AgX [] H3 H4 := hH4 ▸ AgX.app [] _ _
  have hb7 : H4[H3.length]? = some ⟨[.int .i64 (ls.getD v (0, 0)).1, .int .i64 (ls.getD v (0, 0)).2], 0, 0, false, true⟩ := hH4 ▸ get_new0 _ _
  clear hH4
  have hp4 := x4.get hp3 (by simp)
  have hr4 := x4.get hr3 (by simp)
  have ht4 := ht3.tr x4
  have o24 := o23.sub x4 (xs' := [H3.length]) (by simp) (fun b' h4 h5 h6 h7 => ⟨by simp, by simp; omega⟩)
  have o34 := o3.sub x4 (xs' := [H3.length]) (by simp) (fun b' h4 h5 h6 h7 => ⟨by simp, by simp; omega⟩)
  have hb2l : b2 < H3.length := by obtain ⟨_, _, cs, h, _⟩ := o23; exact (List.getElem?_eq_some_iff.1 h).1
  have hb3l : b3 < H3.length := by obtain ⟨_, _, cs, h, _⟩ := o3; exact (List.getElem?_eq_some_iff.1 h).1
  have hrl := (List.getElem?_eq_some_iff.1 hr3).1
  refine seq_assoc (seq_reg ?_)
  simp only [go_sem, binC]
  refine seq_block (wpc_loop ?_)
  suffices h : ∀ (k i : Nat) (e : Env) (Hc : Heap) (cur : Int × Int), i + k = (allL n l).length → cur = (((allL n l).zip out).take i).foldl (needS ls v) (ls.getD v (0, 0)) → AgX [H3.length] H4 Hc → Hc[H3.length]? = some ⟨[.int .i64 cur.1, .int .i64 cur.2], 0, 0, false, true⟩ → e 1 = .int .i64 v → e 2 = ptr H.length 0 → e 4 = ptr (H.length + 1) 0 → e 5 = sli b2 0 (allL n l).length → e 6 = sli b3 0 out.length → e 7 = ptr H3.length 0 → e 8 = .int .i64 i → Go.Proofs.YtkmghcglmjehcaaI.W F H.length _ e Hc _ from
    h (allL n l).length 0 _ H4 _ (by omega) rfl (AgX.refl _ _) hb7 (by simp only [go_sem, binC]) (by simp only [go_sem, binC]) (by simp only [go_sem, binC]) (by simp only [go_sem, binC]) (by simp only [go_sem, binC]) (by simp only [go_sem, binC]) (by (simp only [go_sem, binC]) <;> rfl)
  intro k
  induction k with
  | zero =>
    intro i e Hc cur hi hcur hxc hbc e1 e2 e4 e5 e6 e7 e8
    have hzl : ((allL n l).zip out).length ≤ i := by rw [List.length_zip]; omega
    rw [List.take_of_length_le hzl, q3] at hcur
    have hrc := hxc.get hr4 (by simp; omega)
    have hrcl := (List.getElem?_eq_some_iff.1 hrc).1
    refine lp_step ?_
    refine seq_assoc (seq_reg ?_)
    simp only [go_sem, binC, e5, e8]
    refine seq_cond (t := false) (by simp only [go_sem, binC]; rw [decide_eq_false (by omega)]) ?_
    simp only [go_sem, binC]
    refine seq_exit ?_
    simp only [go_sem, binC, thenX_e, out_e, thenX_n]
    refine seq_reg ?_
    simp only [go_sem, binC, e4, e7, gc_of hbc, inBlk_some, hrc]
    refine wpc_ret ⟨Or.inr rfl, .agg #[.int .i64 (needV n ls l v).1, .int .i64 (needV n ls l v).2], ?_, rfl, rfl⟩
    have hnv : needV n ls l v = cur := by rw [hcur]; rfl
    rw [hnv]
    simp [resV, res1, putE_get, ptr, gc_set hrcl, inBlk_some, valOf, e4]
  | succ k ih =>
    intro i e Hc cur hi hcur hxc hbc e1 e2 e4 e5 e6 e7 e8
    have hil : i < (allL n l).length := by omega
    have hio : i < out.length := by omega
    have hiz : i < ((allL n l).zip out).length := by rw [List.length_zip]; omega
    have hw1 : IntKind.i64.wrap ((i : Int) + 1) = ((i + 1 : Nat) : Int) := by rw [wrap_id (by omega) (by omega)]; omega
    have hclab : labB cur = true := by
      rw [hcur]
      exact (needS_fold ls v _ _ hlx).1.la
    have hnext : (((allL n l).zip out).take (i + 1)).foldl (needS ls v) (ls.getD v (0, 0)) = needS ls v cur ((allL n l)[i], out[i]) := by
      rw [List.take_add_one, List.getElem?_eq_getElem hiz, List.foldl_append, ← hcur, List.getElem_zip]
      rfl
    have hxcl := hxc.1
    have hpc := hxc.get hp4 (by simp; omega)
    have o2c := o24.sub hxc (xs' := [H3.length]) (by simp; omega) (fun b' _ _ _ h7 => ⟨h7, h7⟩)
    have o3c := o34.sub hxc (xs' := [H3.length]) (by simp; omega) (fun b' _ _ _ h7 => ⟨h7, h7⟩)
    obtain ⟨cs, g1, tv, ev, hcs, otv, oev, rg⟩ := o2c.at hil
    obtain ⟨cs2, g2, x1, y1, hxy, ⟨hx1, rx⟩, ⟨hy1, ry⟩⟩ := o3c.at hio
    have hshi := hsh _ (List.getElem_mem hil)
    have hoi : labB out[i] = true := List.all_eq_true.1 a3 _ (List.getElem_mem _)
    generalize (allL n l)[i] = s at hcs rg hshi hnext
    generalize out[i] = hr at hx1 hy1 rx ry hoi hnext
    obtain ⟨sk, sx, ⟨sa, sbb, sc⟩, sg⟩ := s
    obtain ⟨ra, rb⟩ := hr
    subst hx1 hy1
    subst hxy
    subst hcs
    have f0 := gc_part (off := 0) (k := 1) g1 (by omega)
    have f1 := gc_part (off := 1) (k := 1) g1 (by omega)
    have f2 := gc_part (off := 2) (k := 3) g1 (by omega)
    simp only [List.drop_zero, List.drop_succ_cons, List.take_succ_cons, List.take_zero, Nat.add_zero] at f0 f1 f2
    have hlvc : SlR Co.p2 (vw 0 Hc) (.slice (some ⟨lb, lo', none⟩) ls.length ls.length) ls := hlv.mono (agx_sub (ht4.trans hxc (zs := []) (fun _ h _ => h) (fun b hb hlt => by simp only [List.mem_singleton] at hb; subst hb; omega)))
    refine lp_step ?_
    refine seq_assoc (seq_reg ?_)
    simp only [go_sem, binC, e5, e8]
    refine seq_cond (t := true) (by simp only [go_sem, binC]; rw [decide_eq_true (by omega)]) ?_
    simp only [go_sem, binC]
    refine seq_skip (seq_block (seq_reg ?_))
    simp only [go_sem, binC, e5, e8]
    refine ⟨⟨by omega, by omega⟩, ?_⟩
    simp only [go_sem, binC, Int.toNat_natCast, f0]
    by_cases k1 : sk = 1
    case neg =>
      rw [show needS ls v cur ((sk, sx, (sa, sbb, sc), sg), (ra, rb)) = cur from if_neg (fun h => k1 h.1)] at hnext
      simp only [go_sem, binC, beq_f k1]
      refine wpc_cond (t := false) rfl ?_
      simp only [go_sem, binC]
      refine wpc_skip ?_
      simp only [go_sem, binC, out_n, thenX_n]
      refine wpc_reg ?_
      simp only [go_sem, binC, e8, hw1]
      simp only [go_sem, binC, thenX_n]
      exact ih (i + 1) _ Hc cur (by omega) hnext.symm hxc hbc (by simp only [go_sem, binC, e1]) (by simp only [go_sem, binC, e2]) (by simp only [go_sem, binC, e4]) (by simp only [go_sem, binC, e5]) (by simp only [go_sem, binC, e6]) (by simp only [go_sem, binC, e7]) (by simp only [go_sem, binC])
    simp only [go_sem, binC, beq_t k1, e5, e8]
    refine ⟨⟨by omega, by omega⟩, ?_⟩
    simp only [go_sem, binC, Int.toNat_natCast, f1, e1]
    by_cases k2 : sx = v
    case neg =>
      rw [show needS ls v cur ((sk, sx, (sa, sbb, sc), sg), (ra, rb)) = cur from if_neg (fun h => k2 h.2)] at hnext
      simp only [go_sem, binC, beq_f k2]
      refine wpc_cond (t := false) rfl ?_
      simp only [go_sem, binC]
      refine wpc_skip ?_
      simp only [go_sem, binC, out_n, thenX_n]
      refine wpc_reg ?_
      simp only [go_sem, binC, e8, hw1]
      simp only [go_sem, binC, thenX_n]
      exact ih (i + 1) _ Hc cur (by omega) hnext.symm hxc hbc (by simp only [go_sem, binC, e1]) (by simp only [go_sem, binC, e2]) (by simp only [go_sem, binC, e4]) (by simp only [go_sem, binC, e5]) (by simp only [go_sem, binC, e6]) (by simp only [go_sem, binC, e7]) (by simp only [go_sem, binC])
    rw [show needS ls v cur ((sk, sx, (sa, sbb, sc), sg), (ra, rb)) = lboth cur (lboth (ra, rb) (valL ls (sa, sbb, sc))) from if_pos ⟨k1, k2⟩] at hnext
    have hval : valB ls.length (sa, sbb, sc) = true := by
      simp only [shB, Bool.and_eq_true] at hshi
      have := hshi.2
      rwa [if_pos k1] at this
    simp only [go_sem, binC, beq_t k2]
    refine wpc_cond (t := true) rfl ?_
    simp only [go_sem, binC]
    refine wpc_regD ?_
    simp only [go_sem, binC, e2, e5, e6, e7, e8, gc_of hbc, gc_of hpc, inBlk_some, osv]
    refine ⟨⟨by omega, by omega⟩, ?_⟩
    simp only [go_sem, binC, Int.toNat_natCast, g2, e2, e5, e8, gc_of hpc, inBlk_some, osv]
    refine ⟨⟨by omega, by omega⟩, ?_⟩
    simp only [go_sem, binC, Int.toNat_natCast, f2]
    refine op_callQ (by simp only [go_sem, binC]; exact gv Hc _ sv ls sa sbb sc osv hlvc hval) ?_
    have hvL := valL_bd ls (sa, sbb, sc)
    generalize valL ls (sa, sbb, sc) = vl at hvL hnext
    obtain ⟨va, vb⟩ := vl
    simp only [go_sem, binC]
    refine op_callQ (by simp only [go_sem, binC]; exact gb Hc ra rb va vb (lab_rg1 hoi).1 (lab_rg1 hoi).2 (lab_rg1 hvL).1 (lab_rg1 hvL).2) ?_
    have hbb := lboth_bd (ra, rb) (va, vb)
    generalize lboth (ra, rb) (va, vb) = bb at hbb hnext
    obtain ⟨ba, bb⟩ := bb
    simp only [go_sem, binC]
    refine op_callQ (by simp only [go_sem, binC]; exact gb Hc cur.1 cur.2 ba bb (lab_rg1 hclab).1 (lab_rg1 hclab).2 (lab_rg1 hbb).1 (lab_rg1 hbb).2) ?_
    rw [show (cur.1, cur.2) = cur from rfl]
    generalize hnx : lboth cur (ba, bb) = nx at hnext
    simp only [go_sem, binC, e7, hbc]
    refine ⟨by omega, ?_⟩
    simp only [go_sem, binC, out_n, thenX_n]
    refine wpc_reg ?_
    simp only [go_sem, binC, e8, hw1]
    simp only [go_sem, binC, thenX_n]
    have hbcl := (List.getElem?_eq_some_iff.1 hbc).1
    exact ih (i + 1) _ _ nx (by omega) hnext.symm (hxc.trans (AgX.set Hc H3.length _) (fun _ h _ => h) (fun _ h _ => h)) (List.getElem?_set_self hbcl) (by simp only [go_sem, binC, e1]) (by simp only [go_sem, binC, e2]) (by simp only [go_sem, binC, e4]) (by simp only [go_sem, binC, e5]) (by simp only [go_sem, binC, e6]) (by simp only [go_sem, binC, e7]) (by simp only [go_sem, binC])
end Go.Proofs.YtkmghcglmjehcaaI
end
