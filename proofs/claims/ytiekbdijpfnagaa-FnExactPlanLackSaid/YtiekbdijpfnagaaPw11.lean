/- Texts of this proof, merged: K15, K16, GL31, K17, CL31. -/
import Derived.Test.YtiekbdijpfnagaaPw8
import Derived.Test.YtiekbdijpfnagaaPw10
import Derived.Test.YtiekbdijpfnagaaRows
section
/- What has no host (the program's). -/
set_option linter.unusedVariables false
set_option linter.unusedSimpArgs false
namespace Go.Proofs.YtiekbdijpfnagaaI
open Go Go.RowKit
def c_iPlanLack : IFn := ⟨2, 55, [.t 4, .t 5],
 .seq (.reg none [
    ⟨(some 2), none, .box (.t 0)⟩,
    ⟨(some 3), none, .box (.t 1)⟩,
    ⟨(some 4), none, .mov (.c (.int .i64 0))⟩,
    ⟨(some 5), none, .mov (.c (.bool false))⟩])
 (.seq (.seq (.reg none [
     ⟨(some 11), none, .load true 2 (.t 2)⟩,
     ⟨(some 12), none, .call .q (.f 48) [(.t 11)]⟩,
     ⟨(some 13), none, .un .not (.t 12)⟩,
     ⟨(some 14), none, .mov (.t 13)⟩,
     ⟨(some 15), (some (14, false)), .load false 1 (.t 3)⟩,
     ⟨(some 16), (some (14, false)), .call .q (.f 49) [(.t 15)]⟩,
     ⟨(some 17), (some (14, false)), .un .not (.t 16)⟩,
     ⟨(some 18), none, .pick (.t 14) (.c (.bool true)) (.t 17)⟩])
  (.cond (.t 18) (.seq (.reg none [
      ⟨(some 4), none, .mov (.c (.int .i64 0))⟩,
      ⟨(some 5), none, .mov (.c (.bool false))⟩])
   (.ret)) (.skip)))
 (.seq (.seq (.reg none [
     ⟨(some 19), none, .fad 0 (.t 2)⟩,
     ⟨(some 20), none, .load false 1 (.t 19)⟩,
     ⟨(some 21), none, .len (.t 20)⟩,
     ⟨(some 22), none, .mov (.c (.int .i64 0))⟩])
  (.block 0 (.loop (.seq (.reg none [
       ⟨(some 23), none, .bin .lss (.t 22) (.t 21)⟩])
    (.seq (.cond (.t 23) (.skip) (.exit 0))
    (.seq (.block 1 (.seq (.reg none [
         ⟨(some 24), none, .mov (.t 22)⟩,
         ⟨(some 6), none, .new [(.int .i64 0)]⟩,
         ⟨none, none, .store 1 (.t 6) (.t 24)⟩])
      (.seq (.reg none [
         ⟨(some 25), none, .lit 1 3 3 [(.int .i64 0), (.int .i64 0), (.int .i64 0)] [(0, 1, (.c (.int .i64 0))), (1, 1, (.c (.int .i64 1))), (2, 1, (.c (.int .i64 2)))]⟩,
         ⟨(some 26), none, .mkf 76 [] [(.t 2), (.t 3), (.t 6)]⟩,
         ⟨(some 27), none, .call .q (.f 75) [(.t 25), (.t 26)]⟩,
         ⟨(some 28), none, .un .not (.t 27)⟩])
      (.cond (.t 28) (.seq (.reg none [
          ⟨(some 29), none, .load false 1 (.t 6)⟩,
          ⟨(some 4), none, .mov (.t 29)⟩,
          ⟨(some 5), none, .mov (.c (.bool true))⟩])
       (.ret)) (.skip)))))
    (.reg none [
      ⟨(some 30), none, .bin .add (.t 22) (.c (.int .i64 1))⟩,
      ⟨(some 22), none, .mov (.t 30)⟩])))))))
 (.seq (.reg (some 6) [
    ⟨(some 31), none, .load true 2 (.t 2)⟩,
    ⟨(some 32), none, .call .k (.f 50) [(.t 31)]⟩,
    ⟨(some 33), none, .load true 2 (.t 2)⟩,
    ⟨(some 34), none, .load false 1 (.t 3)⟩,
    ⟨(some 35), none, .call .k (.f 51) [(.t 33), (.t 34)]⟩,
    ⟨(some 7), none, .new [(.slice none 0 0)]⟩,
    ⟨none, none, .store 1 (.t 7) (.t 32)⟩,
    ⟨(some 8), none, .mov (.t 35)⟩])
 (.seq (.seq (.reg none [
     ⟨(some 36), none, .fad 1 (.t 2)⟩,
     ⟨(some 37), none, .load false 1 (.t 36)⟩,
     ⟨(some 38), none, .call .k (.f 52) [(.t 37)]⟩,
     ⟨(some 39), none, .len (.t 38)⟩,
     ⟨(some 40), none, .mov (.c (.int .i64 0))⟩])
  (.block 2 (.loop (.seq (.reg none [
       ⟨(some 41), none, .bin .lss (.t 40) (.t 39)⟩])
    (.seq (.cond (.t 41) (.skip) (.exit 2))
    (.seq (.block 3 (.seq (.reg none [
         ⟨(some 42), none, .mov (.t 40)⟩,
         ⟨(some 43), none, .iad 8 (.t 38) (.t 40)⟩,
         ⟨(some 44), none, .load true 8 (.t 43)⟩,
         ⟨(some 9), none, .new [(.int .i64 0)]⟩,
         ⟨(some 10), none, .new [(.int .i64 0), (.int .i64 0), (.int .i64 0), (.int .i64 0), (.int .i64 0), (.int .i64 0), (.slice none 0 0), (.slice none 0 0)]⟩,
         ⟨none, none, .store 1 (.t 9) (.t 42)⟩,
         ⟨none, none, .store 8 (.t 10) (.t 44)⟩])
      (.seq (.reg none [
         ⟨(some 45), none, .mov (.t 8)⟩,
         ⟨(some 46), none, .mkf 78 [] [(.t 2), (.t 3), (.t 10), (.t 7), (.t 9)]⟩,
         ⟨(some 47), none, .call .q (.f 77) [(.t 45), (.t 46)]⟩,
         ⟨(some 48), none, .un .not (.t 47)⟩])
      (.cond (.t 48) (.seq (.reg none [
          ⟨(some 49), none, .fad 0 (.t 2)⟩,
          ⟨(some 50), none, .load false 1 (.t 49)⟩,
          ⟨(some 51), none, .len (.t 50)⟩,
          ⟨(some 52), none, .load false 1 (.t 9)⟩,
          ⟨(some 53), none, .bin .add (.t 51) (.t 52)⟩,
          ⟨(some 4), none, .mov (.t 53)⟩,
          ⟨(some 5), none, .mov (.c (.bool true))⟩])
       (.ret)) (.skip)))))
    (.reg none [
      ⟨(some 54), none, .bin .add (.t 40) (.c (.int .i64 1))⟩,
      ⟨(some 40), none, .mov (.t 54)⟩])))))))
 (.seq (.reg none [
    ⟨(some 4), none, .mov (.c (.int .i64 0))⟩,
    ⟨(some 5), none, .mov (.c (.bool false))⟩])
 (.ret))))))⟩
def c_pl1 : IFn := ⟨4, 11, [.t 5],
 .seq (.reg none [
    ⟨(some 5), none, .mov (.c (.bool false))⟩])
 (.seq (.reg none [
    ⟨(some 6), none, .load true 2 (.t 1)⟩,
    ⟨(some 7), none, .load false 1 (.t 2)⟩,
    ⟨(some 8), none, .load false 1 (.t 3)⟩,
    ⟨(some 9), none, .mov (.t 0)⟩,
    ⟨(some 10), none, .call .q (.f 61) [(.t 6), (.t 7), (.t 8), (.t 9)]⟩,
    ⟨(some 5), none, .mov (.t 10)⟩])
 (.ret))⟩
def c_pl2 : IFn := ⟨6, 18, [.t 7],
 .seq (.reg none [
    ⟨(some 7), none, .mov (.c (.bool false))⟩])
 (.seq (.reg (some 8) [
    ⟨(some 8), none, .load true 2 (.t 1)⟩,
    ⟨(some 9), none, .load false 1 (.t 2)⟩,
    ⟨(some 10), none, .mov (.t 0)⟩,
    ⟨(some 11), none, .load true 8 (.t 3)⟩,
    ⟨(some 12), none, .load false 1 (.t 4)⟩,
    ⟨(some 13), none, .load false 1 (.t 5)⟩,
    ⟨(some 14), none, .iad 2 (.t 12) (.t 13)⟩,
    ⟨(some 15), none, .load true 2 (.t 14)⟩,
    ⟨(some 16), none, .call .q (.f 53) [(.t 8), (.t 9), (.t 10), (.t 11), (.t 15)]⟩,
    ⟨(some 17), none, .bin .geq (.t 16) (.c (.int .i64 0))⟩,
    ⟨(some 7), none, .mov (.t 17)⟩])
 (.ret))⟩
def c_cfLL : IFn := ⟨2, 9, [.t 4],
 .seq (.reg none [
    ⟨(some 4), none, .mov (.c (.bool false))⟩])
 (.seq (.reg none [
    ⟨(some 5), none, .mov (.t 0)⟩,
    ⟨(some 6), none, .mov (.t 1)⟩,
    ⟨(some 7), none, .call .q (.f 133) [(.t 5), (.t 6)]⟩,
    ⟨(some 8), none, .bin .geq (.t 7) (.c (.int .i64 0))⟩,
    ⟨(some 4), none, .mov (.t 8)⟩])
 (.ret))⟩
def c_ifLL : IFn := ⟨2, 19, [.t 4],
 .seq (.reg none [
    ⟨(some 4), none, .mov (.c (.int .i64 0))⟩])
 (.seq (.seq (.reg none [
     ⟨(some 6), none, .mov (.t 0)⟩,
     ⟨(some 7), none, .len (.t 6)⟩,
     ⟨(some 8), none, .mov (.c (.int .i64 0))⟩])
  (.block 0 (.loop (.seq (.reg none [
       ⟨(some 9), none, .bin .lss (.t 8) (.t 7)⟩])
    (.seq (.cond (.t 9) (.skip) (.exit 0))
    (.seq (.block 1 (.seq (.reg none [
         ⟨(some 10), none, .mov (.t 8)⟩,
         ⟨(some 5), none, .mov (.t 10)⟩])
      (.seq (.reg none [
         ⟨(some 11), none, .mov (.t 1)⟩,
         ⟨(some 12), none, .mov (.t 0)⟩,
         ⟨(some 13), none, .mov (.t 5)⟩,
         ⟨(some 14), none, .iad 1 (.t 12) (.t 13)⟩,
         ⟨(some 15), none, .load false 1 (.t 14)⟩,
         ⟨(some 16), none, .call .q (.t 11) [(.t 15)]⟩])
      (.cond (.t 16) (.seq (.reg none [
          ⟨(some 17), none, .mov (.t 5)⟩,
          ⟨(some 4), none, .mov (.t 17)⟩])
       (.ret)) (.skip)))))
    (.reg none [
      ⟨(some 18), none, .bin .add (.t 8) (.c (.int .i64 1))⟩,
      ⟨(some 8), none, .mov (.t 18)⟩])))))))
 (.seq (.reg none [
    ⟨(some 4), none, .mov (.c (.int .i64 (-1)))⟩])
 (.ret)))⟩
theorem ifIntM_ok {F : Nat → Option IFn} {f g : Nat} {first cap : Array Value} {P : Int → Bool} (hf : F f = some c_ifInt) (H : Heap) {v : Value} {l : List Int} (gp : ∀ x ∈ l, QC F g (first.toList ++ [.int .i64 x] ++ cap.toList) H (.bool (P x))) : SlR Co.int (vw 0 H) v l → ∃ r : Int, QC F f [v, .func (.func g) first cap] H (.int .i64 r) ∧ (0 ≤ r ↔ l.any P = true) := by
  intro hv
  have hv0 := hv
  obtain ⟨hl0, a, rfl, _⟩ := id hv
  suffices hh : ∃ w, QC F f [.slice a l.length l.length, .func (.func g) first cap] H w ∧ ∃ r : Int, w = .int .i64 r ∧ (0 ≤ r ↔ l.any P = true) by
    obtain ⟨w, h1, r, rfl, h2⟩ := hh
    exact ⟨r, h1, h2⟩
  refine QC.mkE hf rfl ?_
  refine seq_reg ?_
  simp only [go_sem, binC]
  refine seq_assoc (seq_reg ?_)
  simp only [go_sem, binC]
  refine seq_block (wpc_loop ?_)
  suffices hh : ∀ (m i : Nat) (e : Env), i + m = l.length → (l.take i).any P = false → e 0 = .slice a l.length l.length → e 1 = .func (.func g) first cap → e 7 = .int .i64 l.length → e 8 = .int .i64 i → W F H.length _ e H _ from
    hh l.length 0 _ (by omega) (by simp) (by simp only [go_sem, binC]) (by simp only [go_sem, binC]) (by simp only [go_sem, binC]) (by (simp only [go_sem, binC]) <;> rfl)
  intro m
  induction m with
  | zero =>
    intro i e hi hn e0 e1 e7 e8
    rw [List.take_of_length_le (by omega)] at hn
    refine lp_step ?_
    refine seq_reg ?_
    simp only [go_sem, binC, e7, e8]
    refine seq_cond (t := false) (by simp only [go_sem, binC]; rw [decide_eq_false (by omega)]) ?_
    simp only [go_sem, binC]
    refine seq_exit ?_
    simp only [go_sem, binC, thenX_e, out_e, thenX_n]
    refine seq_reg ?_
    simp only [go_sem, binC]
    exact wpc_ret ⟨Or.inr rfl, .int .i64 (-1), (by (simp only [go_sem, binC]) <;> rfl), ⟨-1, rfl, ⟨fun h => by omega, fun h => by rw [hn] at h; cases h⟩⟩, rfl⟩
  | succ m ih =>
    intro i e hi hn e0 e1 e7 e8
    have hil : i < l.length := by omega
    have hw1 : IntKind.i64.wrap ((i : Int) + 1) = ((i + 1 : Nat) : Int) := by rw [wrap_id (by omega) (by omega)]; omega
    obtain ⟨b, o, hv1, hg⟩ := gcJ hv0 hil
    simp only [Value.slice.injEq, and_true] at hv1
    subst hv1
    refine lp_step ?_
    refine seq_reg ?_
    simp only [go_sem, binC, e7, e8]
    refine seq_cond (t := true) (by simp only [go_sem, binC]; rw [decide_eq_true (by omega)]) ?_
    simp only [go_sem, binC]
    refine seq_skip (seq_block (seq_reg ?_))
    simp only [go_sem, binC, e8]
    refine seq_reg ?_
    simp only [go_sem, binC, e0, e1]
    refine ⟨⟨by omega, by omega⟩, ?_⟩
    simp only [go_sem, binC, Int.toNat_natCast, Nat.mul_one, hg, e1]
    refine op_callQc (g := g) (first := first) (cap := cap) (by simp only [go_sem, binC, e1]) (by simp only [go_sem, binC]; exact gp l[i] (List.getElem_mem hil)) ?_
    cases hx : P l[i] with
    | true =>
      simp only [go_sem, binC]
      refine wpc_cond (t := true) rfl ?_
      simp only [go_sem, binC]
      refine seq_reg ?_
      simp only [go_sem, binC]
      refine wpc_ret ?_
      simp only [go_sem, binC, out_r, thenX_r]
      exact ⟨Or.inr rfl, .int .i64 i, (by (simp only [go_sem, binC]) <;> rfl), ⟨i, rfl, ⟨fun _ => List.any_eq_true.2 ⟨_, List.getElem_mem hil, hx⟩, fun _ => by omega⟩⟩, rfl⟩
    | false =>
      simp only [go_sem, binC]
      refine wpc_cond (t := false) rfl ?_
      simp only [go_sem, binC]
      refine wpc_skip ?_
      simp only [go_sem, binC, out_n, thenX_n]
      refine wpc_reg ?_
      simp only [go_sem, binC, e8, hw1]
      simp only [go_sem, binC, thenX_n]
      refine ih (i + 1) _ (by omega) ?_ (by simp only [go_sem, binC, e0]) (by simp only [go_sem, binC, e1]) (by simp only [go_sem, binC, e7]) (by simp only [go_sem, binC])
      rw [List.take_add_one, List.getElem?_eq_getElem hil, List.any_append, hn]
      simp [hx]
theorem cfIntM_ok {F : Nat → Option IFn} {f g : Nat} {first cap : Array Value} {P : Int → Bool} (hf : F f = some c_cfInt) (gi : F 132 = some c_ifInt) (H : Heap) {v : Value} {l : List Int} (gp : ∀ x ∈ l, QC F g (first.toList ++ [.int .i64 x] ++ cap.toList) H (.bool (P x))) : SlR Co.int (vw 0 H) v l → QC F f [v, .func (.func g) first cap] H (.bool (l.any P)) := by
  intro hv
  obtain ⟨r, h1, h2⟩ := ifIntM_ok gi H gp hv
  refine QC.mk hf rfl ?_
  refine seq_reg ?_
  simp only [go_sem, binC]
  refine seq_reg ?_
  simp only [go_sem, binC]
  refine op_callQ (by simp only [go_sem, binC]; exact h1) ?_
  simp only [go_sem, binC]
  refine wpc_ret ⟨Or.inr rfl, _, (by (simp only [go_sem, binC]) <;> rfl), ?_, rfl⟩
  have : decide (0 ≤ r) = l.any P := by
    rw [Bool.eq_iff_iff, decide_eq_true_eq]
    exact h2
  rw [this]
theorem gcLL {H : Heap} {v : Value} {l : List (List Int)} (h : SlR (Co.sl Co.int) (vw 0 H) v l) {i : Nat} (hi : i < l.length) : ∃ b o xv, v = .slice (some ⟨b, o, none⟩) l.length l.length ∧ getCells H b (o + i) 1 = some [xv] ∧ SlR Co.int (vw 0 H) xv l[i] := by
  obtain ⟨h0, a, rfl, h1⟩ := h
  obtain ⟨b, o, rfl, h2⟩ := h1.resolve_left (fun h => by rw [h] at hi; simp at hi)
  obtain ⟨cs, h3, h4⟩ := h2 i hi
  have h5 := rng_gc h3
  obtain ⟨xv, rfl, h6⟩ := h4
  have h7 : getCells H b (o + i * 1) 1 = some [xv] := h5
  rw [Nat.mul_one] at h7
  exact ⟨b, o, xv, rfl, h7, h6⟩
theorem ifLLM_ok {F : Nat → Option IFn} {f g : Nat} {first cap : Array Value} {P : List Int → Bool} (hf : F f = some c_ifLL) (H : Heap) {v : Value} {l : List (List Int)} (gp : ∀ x ∈ l, ∀ xv, SlR Co.int (vw 0 H) xv x → QC F g (first.toList ++ [xv] ++ cap.toList) H (.bool (P x))) : SlR (Co.sl Co.int) (vw 0 H) v l → ∃ r : Int, QC F f [v, .func (.func g) first cap] H (.int .i64 r) ∧ (0 ≤ r ↔ l.any P = true) := by
  intro hv
  have hv0 := hv
  obtain ⟨hl0, a, rfl, _⟩ := id hv
  suffices hh : ∃ w, QC F f [.slice a l.length l.length, .func (.func g) first cap] H w ∧ ∃ r : Int, w = .int .i64 r ∧ (0 ≤ r ↔ l.any P = true) by
    obtain ⟨w, h1, r, rfl, h2⟩ := hh
    exact ⟨r, h1, h2⟩
  refine QC.mkE hf rfl ?_
  refine seq_reg ?_
  simp only [go_sem, binC]
  refine seq_assoc (seq_reg ?_)
  simp only [go_sem, binC]
  refine seq_block (wpc_loop ?_)
  suffices hh : ∀ (m i : Nat) (e : Env), i + m = l.length → (l.take i).any P = false → e 0 = .slice a l.length l.length → e 1 = .func (.func g) first cap → e 7 = .int .i64 l.length → e 8 = .int .i64 i → W F H.length _ e H _ from
    hh l.length 0 _ (by omega) (by simp) (by simp only [go_sem, binC]) (by simp only [go_sem, binC]) (by simp only [go_sem, binC]) (by (simp only [go_sem, binC]) <;> rfl)
  intro m
  induction m with
  | zero =>
    intro i e hi hn e0 e1 e7 e8
    rw [List.take_of_length_le (by omega)] at hn
    refine lp_step ?_
    refine seq_reg ?_
    simp only [go_sem, binC, e7, e8]
    refine seq_cond (t := false) (by simp only [go_sem, binC]; rw [decide_eq_false (by omega)]) ?_
    simp only [go_sem, binC]
    refine seq_exit ?_
    simp only [go_sem, binC, thenX_e, out_e, thenX_n]
    refine seq_reg ?_
    simp only [go_sem, binC]
    exact wpc_ret ⟨Or.inr rfl, .int .i64 (-1), (by (simp only [go_sem, binC]) <;> rfl), ⟨-1, rfl, ⟨fun h => by omega, fun h => by rw [hn] at h; cases h⟩⟩, rfl⟩
  | succ m ih =>
    intro i e hi hn e0 e1 e7 e8
    have hil : i < l.length := by omega
    have hw1 : IntKind.i64.wrap ((i : Int) + 1) = ((i + 1 : Nat) : Int) := by rw [wrap_id (by omega) (by omega)]; omega
    obtain ⟨b, o, xv, hv1, hg, hxv⟩ := gcLL hv0 hil
    simp only [Value.slice.injEq, and_true] at hv1
    subst hv1
    refine lp_step ?_
    refine seq_reg ?_
    simp only [go_sem, binC, e7, e8]
    refine seq_cond (t := true) (by simp only [go_sem, binC]; rw [decide_eq_true (by omega)]) ?_
    simp only [go_sem, binC]
    refine seq_skip (seq_block (seq_reg ?_))
    simp only [go_sem, binC, e8]
    refine seq_reg ?_
    simp only [go_sem, binC, e0, e1]
    refine ⟨⟨by omega, by omega⟩, ?_⟩
    simp only [go_sem, binC, Int.toNat_natCast, Nat.mul_one, hg, e1]
    refine op_callQc (g := g) (first := first) (cap := cap) (by simp only [go_sem, binC, e1]) (by simp only [go_sem, binC]; exact gp l[i] (List.getElem_mem hil) xv hxv) ?_
    cases hx : P l[i] with
    | true =>
      simp only [go_sem, binC]
      refine wpc_cond (t := true) rfl ?_
      simp only [go_sem, binC]
      refine seq_reg ?_
      simp only [go_sem, binC]
      refine wpc_ret ?_
      simp only [go_sem, binC, out_r, thenX_r]
      exact ⟨Or.inr rfl, .int .i64 i, (by (simp only [go_sem, binC]) <;> rfl), ⟨i, rfl, ⟨fun _ => List.any_eq_true.2 ⟨_, List.getElem_mem hil, hx⟩, fun _ => by omega⟩⟩, rfl⟩
    | false =>
      simp only [go_sem, binC]
      refine wpc_cond (t := false) rfl ?_
      simp only [go_sem, binC]
      refine wpc_skip ?_
      simp only [go_sem, binC, out_n, thenX_n]
      refine wpc_reg ?_
      simp only [go_sem, binC, e8, hw1]
      simp only [go_sem, binC, thenX_n]
      refine ih (i + 1) _ (by omega) ?_ (by simp only [go_sem, binC, e0]) (by simp only [go_sem, binC, e1]) (by simp only [go_sem, binC, e7]) (by simp only [go_sem, binC])
      rw [List.take_add_one, List.getElem?_eq_getElem hil, List.any_append, hn]
      simp [hx]
theorem cfLLM_ok {F : Nat → Option IFn} {f g : Nat} {first cap : Array Value} {P : List Int → Bool} (hf : F f = some c_cfLL) (gi : F 133 = some c_ifLL) (H : Heap) {v : Value} {l : List (List Int)} (gp : ∀ x ∈ l, ∀ xv, SlR Co.int (vw 0 H) xv x → QC F g (first.toList ++ [xv] ++ cap.toList) H (.bool (P x))) : SlR (Co.sl Co.int) (vw 0 H) v l → QC F f [v, .func (.func g) first cap] H (.bool (l.any P)) := by
  intro hv
  obtain ⟨r, h1, h2⟩ := ifLLM_ok gi H gp hv
  refine QC.mk hf rfl ?_
  refine seq_reg ?_
  simp only [go_sem, binC]
  refine seq_reg ?_
  simp only [go_sem, binC]
  refine op_callQ (by simp only [go_sem, binC]; exact h1) ?_
  simp only [go_sem, binC]
  refine wpc_ret ⟨Or.inr rfl, _, (by (simp only [go_sem, binC]) <;> rfl), ?_, rfl⟩
  have : decide (0 ≤ r) = l.any P := by
    rw [Bool.eq_iff_iff, decide_eq_true_eq]
    exact h2
  rw [this]
theorem firstH_ge {P : Int → Bool} : (0 ≤ firstH P) ↔ ([0, 1, 2] : List Int).any P = true := by
  unfold firstH
  cases h0 : P 0 <;> cases h1 : P 1 <;> cases h2 : P 2 <;> simp [h0, h1, h2]
theorem pl1_ok {F : Nat → Option IFn} (hf : F 76 = some c_pl1) (gh : HomeI F 61) {H : Heap} {b2 b3 b6 : Nat} {lv sv tw : Value} {ls : List (Int × Int)} {ts : List Int} {v : Nat} (osv : one sv = true) (hb2 : H[b2]? = some ⟨[lv, sv], 0, 0, false, true⟩) (hb3 : H[b3]? = some ⟨[tw], 0, 0, false, true⟩) (hb6 : H[b6]? = some ⟨[.int .i64 v], 0, 0, false, true⟩) (r1 : SlR Co.p2 (vw 0 H) lv ls) (hlab : ls.all labB = true) (r2 : SlR Co.int (vw 0 H) tw ts) (htr : trP ts) (hv : v < ls.length) {h : Int} (h0 : 0 ≤ h) (h2 : h ≤ 2) :
    QC F 76 [.int .i64 h, ptr b2 0, ptr b3 0, ptr b6 0] H (.bool (hmB ls ts v h)) := by
  have olv : one lv = true := by obtain ⟨_, a, rfl, _⟩ := r1; rfl
  obtain ⟨_, ta, rfl, _⟩ := id r2
  refine QC.mk hf rfl ?_
  refine seq_reg ?_
  simp only [go_sem, binC]
  refine seq_reg ?_
  simp only [go_sem, binC, gc_of hb2, gc_of hb3, gc_of hb6, inBlk_some, olv, osv]
  refine op_callQ (by simp only [go_sem, binC]; exact gh H _ _ _ ls ts v h osv r1 hlab r2 htr (by omega) (by omega) h0 h2) ?_
  simp only [go_sem, binC]
  exact wpc_ret ⟨Or.inr rfl, _, (by (simp only [go_sem, binC]) <;> rfl), rfl, rfl⟩
theorem pl2_ok {F : Nat → Option IFn} (hf : F 78 = some c_pl2) (gd : DoerI F 53) {H : Heap} {b2 b3 b10 b7 b9 n : Nat} {lv sv tw wa tv ev : Value} {sk sx sa sbb sc sg : Int} {ls : List (Int × Int)} {l : List (TStep n)} {ts homes : List Int} {j : Nat} {hw : Value} (osv : one sv = true) (otv : one tv = true) (oev : one ev = true) (hb2 : H[b2]? = some ⟨[lv, sv], 0, 0, false, true⟩) (hb3 : H[b3]? = some ⟨[tw], 0, 0, false, true⟩) (hb10 : H[b10]? = some ⟨[.int .i64 sk, .int .i64 sx, .int .i64 sa, .int .i64 sbb, .int .i64 sc, .int .i64 sg, tv, ev], 0, 0, false, true⟩) (hb7 : H[b7]? = some ⟨[wa], 0, 0, false, true⟩) (hb9 : H[b9]? = some ⟨[.int .i64 j], 0, 0, false, true⟩)
    (hj : j < (allSL n l).length) (rds : Co.anyS.rd (vw 0 H) [.int .i64 sk, .int .i64 sx, .int .i64 sa, .int .i64 sbb, .int .i64 sc, .int .i64 sg, tv, ev] (allSL n l)[j]) (ra : SlR Co.p2 (vw 0 H) wa (atL n ls (7, 7) l)) (r1 : SlR Co.p2 (vw 0 H) lv ls) (hP : progB n (ls, l) = true) (r2 : SlR Co.int (vw 0 H) tw ts) (htr : trP ts) (rh : SlR Co.int (vw 0 H) hw homes) (hho : homesP ls.length homes) :
    QC F 78 [hw, ptr b2 0, ptr b3 0, ptr b10 0, ptr b7 0, ptr b9 0] H (.bool (anyDo n ls l ts j homes)) := by
  have hlab : ls.all labB = true := progB_lab hP
  have olv : one lv = true := by obtain ⟨_, a, rfl, _⟩ := r1; rfl
  obtain ⟨_, ta, rfl, _⟩ := id r2
  obtain ⟨_, ha, rfl, _⟩ := id rh
  have hja : j < (atL n ls (7, 7) l).length := by rw [atL_len, ← allSL_len]; exact hj
  have hokj := progB_okA hP (List.getElem_mem hj)
  have hoj : labB (atL n ls (7, 7) l)[j] = true := List.all_eq_true.1 (atL_lab hlab rfl l) _ (List.getElem_mem hja)
  obtain ⟨ab, ao, haw, hag⟩ := slP_at ra hja
  subst haw
  have hPd : doN n ls l ts homes j = doesB ls ts homes (shA (allSL n l)[j]) (stA ls (allSL n l)[j]) (atL n ls (7, 7) l)[j] := funext fun h => doN_eq hj hja
  have hfin : (decide (0 ≤ doerV ls ts homes (shA (allSL n l)[j]) (stA ls (allSL n l)[j]) (atL n ls (7, 7) l)[j])) = anyDo n ls l ts j homes := by
    unfold anyDo doerV
    rw [← hPd, Bool.eq_iff_iff, decide_eq_true_eq]
    exact firstH_ge
  refine QC.mk hf rfl ?_
  refine seq_reg ?_
  simp only [go_sem, binC]
  refine seq_regD ?_
  simp only [go_sem, binC, gc_of hb2, gc_of hb3, gc_of hb10, gc_of hb7, gc_of hb9, inBlk_some, olv, osv, otv, oev]
  refine ⟨⟨by omega, by omega⟩, ?_⟩
  simp only [go_sem, binC, Int.toNat_natCast, hag]
  refine op_callQ (by simp only [go_sem, binC]; exact gd H _ sv _ _ _ ls ts homes (allSL n l)[j] (atL n ls (7, 7) l)[j] osv r1 hlab r2 htr rh hho rds hokj hoj) ?_
  simp only [go_sem, binC, hfin]
  exact wpc_ret ⟨Or.inr rfl, _, (by (simp only [go_sem, binC]) <;> rfl), rfl, rfl⟩
theorem iPlanLack_ok {F : Nat → Option IFn} {f : Nat} (hf : F f = some c_iPlanLack) (gt : TypeP F 48) (gtr : TrOk F 49) (ga : AtP F 50) (gh : HomesI F 51) (gl : ∀ n, AllP F 52 n) (gho : HomeI F 61) (gd : DoerI F 53) (h1 : F 76 = some c_pl1) (h2 : F 78 = some c_pl2) (hcf : F 75 = some c_cfInt) (hif : F 132 = some c_ifInt) (hcl : F 77 = some c_cfLL) (hil' : F 133 = some c_ifLL) : LackOk F f := by
  intro H n lv sv tw ls l ts r1 r2 hsm r3
  have osv : one sv = true := by obtain ⟨_, a, rfl, _⟩ := r2; rfl
  obtain ⟨_, la, rfl, _⟩ := id r1
  obtain ⟨_, ta, rfl, _⟩ := id r3
  refine QC.mk hf rfl ?_
  refine seq_reg ?_
  simp only [go_sem, binC, osv]
  refine wpc_gen fun H1 hH1 => ?_
  have hx1 : AgX [] H H1 := hH1 ▸ AgX.app [] _ _
  have hb2 : H1[H.length]? = some ⟨[.slice la ls.length ls.length, sv], 0, 0, false, true⟩ := hH1 ▸ get_new0 _ _
  have hb3 : H1[H.length + 1]? = some ⟨[.slice ta ts.length ts.length], 0, 0, false, true⟩ := hH1 ▸ get_new _ _ 1
  clear hH1
  have hl1 := (List.getElem?_eq_some_iff.1 hb3).1
  refine seq_assoc (seq_reg ?_)
  simp only [go_sem, binC, gc_of hb2, gc_of hb3, inBlk_some, osv]
  refine op_callQ (by simp only [go_sem, binC]; exact gt H1 n _ _ ls l (r1.mono (agx_sub hx1)) (r2.mono (agx_sub hx1)) hsm) ?_
  cases ht : typeP n (ls, l) with
  | false =>
    have hn : lackV n (ls, l) ts = (0, false) := by unfold lackV; rw [ht]; rfl
    rw [hn]
    simp only [go_sem, binC]
    refine seq_cond (t := true) rfl ?_
    simp only [go_sem, binC]
    refine seq_assoc (seq_reg ?_)
    simp only [go_sem, binC]
    exact seq_ret ⟨Or.inr rfl, .tuple #[.int .i64 0, .bool false], by simp [resV, resL, res1, putE_get, notT], rfl, rfl⟩
  | true =>
  simp only [go_sem, binC, gc_of hb3, inBlk_some]
  refine op_callQ (by simp only [go_sem, binC]; exact gtr.k H1 _ ts (r3.mono (agx_sub hx1))) ?_
  cases hk : trK ts with
  | false =>
    have hn : lackV n (ls, l) ts = (0, false) := by unfold lackV; rw [hk, Bool.and_false]; rfl
    rw [hn]
    simp only [go_sem, binC]
    refine seq_cond (t := true) rfl ?_
    simp only [go_sem, binC]
    refine seq_assoc (seq_reg ?_)
    simp only [go_sem, binC]
    exact seq_ret ⟨Or.inr rfl, .tuple #[.int .i64 0, .bool false], by simp [resV, resL, res1, putE_get, notT], rfl, rfl⟩
  | true =>
  simp only [go_sem, binC]
  refine seq_cond (t := false) rfl ?_
  simp only [go_sem, binC]
  have htr := trK_iff.1 hk
  have hP : progB n (ls, l) = true := by
    unfold typeP at ht
    simp only [Bool.and_eq_true] at ht
    exact ht.1
  have hlab : ls.all labB = true := progB_lab hP
  have hls4 : ls.length ≤ 4 := progB_len hP
  have hcnt : (allL n l).length ≤ 8 := progB_cnt hP hsm
  have hsl := allSL_len l
  have hlack : lackV n (ls, l) ts = (match (List.range ls.length).find? (noHome ls ts) with
  | some v => ((v : Int), true)
  | none => match (List.range (allSL n l).length).find? (noDo n ls l ts) with
    | some j => ((ls.length : Int) + j, true)
    | none => (0, false)) := by unfold lackV; rw [ht, hk]; rfl
  refine seq_skip (seq_assoc (seq_reg ?_))
  simp only [go_sem, binC, gc_of hb2, inBlk_some]
  refine seq_block (wpc_loop ?_)
  suffices hh : ∀ (k v : Nat) (e : Env) (Hc : Heap), v + k = ls.length → AgX [] H1 Hc → (∀ q, q < v → noHome ls ts q = false) → e 2 = ptr H.length 0 → e 3 = ptr (H.length + 1) 0 → e 21 = .int .i64 ls.length → e 22 = .int .i64 v → Go.Proofs.YtiekbdijpfnagaaI.W F H.length _ e Hc _ from
    hh ls.length 0 _ H1 (by omega) (AgX.refl _ _) (fun q h => by omega) (by simp only [go_sem, binC]) (by simp only [go_sem, binC]) (by simp only [go_sem, binC]) (by (simp only [go_sem, binC]) <;> rfl)
  intro k
  induction k with
  | zero =>
    intro v e Hc hv hxc hno e2 e3 e21 e22
    obtain rfl : v = ls.length := by omega
    have hlack2 := hlack
    rw [find_none hno] at hlack2
    simp only at hlack2
    have hb2c := hxc.get hb2 (by simp)
    have hb3c := hxc.get hb3 (by simp)
    have hx0c := hx1.tr hxc
    refine lp_step ?_
    refine seq_reg ?_
    simp only [go_sem, binC, e21, e22]
    refine seq_cond (t := false) (by simp only [go_sem, binC]; rw [decide_eq_false (by omega)]) ?_
    simp only [go_sem, binC]
    refine seq_exit ?_
    simp only [go_sem, binC, thenX_e, out_e, thenX_n]
    refine seq_regD ?_
    simp only [go_sem, binC, e2, e3, gc_of hb2c, inBlk_some, osv]
    obtain ⟨wa, H2, k2, hx2, oa⟩ := ga Hc n _ sv ls l (r1.mono (agx_sub hx0c)) (r2.mono (agx_sub hx0c)) hsm hP
    refine op_callK (by simp only [go_sem, binC]; exact k2) ?_
    have hb22 := hx2.get hb2c (by simp)
    have hb32 := hx2.get hb3c (by simp)
    have hx02 := hx0c.tr hx2
    simp only [go_sem, binC, e2, e3, gc_of hb22, gc_of hb32, inBlk_some, osv]
    obtain ⟨wh, H3, k3, hx3, oh⟩ := gh H2 _ sv _ ls ts osv (r1.mono (agx_sub hx02)) hlab hls4 (r3.mono (agx_sub hx02)) htr
    refine op_callK (by simp only [go_sem, binC]; exact k3) ?_
    obtain ⟨aa, haa⟩ := oa.shape
    subst haa
    obtain ⟨ah, hah⟩ := oh.shape
    subst hah
    have hx03 := hx02.tr hx3
    have hl0c := hx0c.1
    have hl2' := hx2.1
    have hl3' := hx3.1
    simp only [go_sem, binC]
    refine ⟨by omega, ?_⟩
    refine wpc_gen fun H4 hH4 => ?_
    have hx4 : AgX [] H3 H4 := hH4 ▸ AgX.app [] _ _
    have hb7 : H4[H3.length]? = some ⟨[.slice aa (atL n ls (7, 7) l).length (atL n ls (7, 7) l).length], 0, 0, false, true⟩ := hH4 ▸ get_new0 _ _
    clear hH4
    have hx04 := hx03.tr hx4
    have hb24 := (hx3.tr hx4).get hb22 (by simp)
    have hb34 := (hx3.tr hx4).get hb32 (by simp)
    have qa : SlR Co.p2 (vw 0 H4) (.slice aa (atL n ls (7, 7) l).length (atL n ls (7, 7) l).length) (atL n ls (7, 7) l) := ((oa.keep (Nat.le_refl _) (hx3.tr hx4) (fun _ _ => by simp)).mono (agx_sub (hx2.tr (hx3.tr hx4)))).sl rfl (fun _ _ h => h)
    have qh : SlR (Co.sl Co.int) (vw 0 H4) (.slice ah (hmL ls ts ls.length).length (hmL ls ts ls.length).length) (hmL ls ts ls.length) := ((oh.keep (Nat.le_refl _) hx4 (fun _ _ => by simp)).mono (agx_sub hx4)).sl rfl (fun _ _ h => h)
    refine seq_assoc (seq_reg ?_)
    simp only [go_sem, binC, e2, gc_of hb24, inBlk_some]
    obtain ⟨wl, H5, k5, hx5, ol⟩ := gl n (vw 0 H) H4 sv l (agx_sub hx04) r2 (by omega)
    refine op_callK (by simp only [go_sem, binC]; exact k5) ?_
    obtain ⟨al, hal⟩ := ol.shape
    subst hal
    simp only [go_sem, binC]
    have hb25 := hx5.get hb24 (by simp)
    have hb35 := hx5.get hb34 (by simp)
    have hb75 := hx5.get hb7 (by simp)
    refine seq_block (wpc_loop ?_)
    suffices hh : ∀ (k j : Nat) (e : Env) (Hd : Heap), j + k = (allSL n l).length → AgX [] H5 Hd → (∀ q, q < j → noDo n ls l ts q = false) → e 2 = ptr H.length 0 → e 3 = ptr (H.length + 1) 0 → e 7 = ptr H3.length 0 → e 8 = .slice ah (hmL ls ts ls.length).length (hmL ls ts ls.length).length → e 38 = .slice al (allSL n l).length (allSL n l).length → e 39 = .int .i64 (allSL n l).length → e 40 = .int .i64 j → Go.Proofs.YtiekbdijpfnagaaI.W F H.length _ e Hd _ from
      hh (allSL n l).length 0 _ H5 (by omega) (AgX.refl _ _) (fun q h => by omega) (by simp only [go_sem, binC, e2]) (by simp only [go_sem, binC, e3]) (by simp only [go_sem, binC]) (by simp only [go_sem, binC]) (by simp only [go_sem, binC]) (by simp only [go_sem, binC]) (by (simp only [go_sem, binC]) <;> rfl)
    clear e2 e3 e21 e22
    intro k
    induction k with
    | zero =>
      intro j e Hd hj hxd hnd e2 e3 e7 e8 e38 e39 e40
      obtain rfl : j = (allSL n l).length := by omega
      rw [find_none hnd] at hlack2
      refine lp_step ?_
      refine seq_reg ?_
      simp only [go_sem, binC, e39, e40]
      refine seq_cond (t := false) (by simp only [go_sem, binC]; rw [decide_eq_false (by omega)]) ?_
      simp only [go_sem, binC]
      refine seq_exit ?_
      simp only [go_sem, binC, thenX_e, out_e, thenX_n]
      refine seq_reg ?_
      simp only [go_sem, binC]
      rw [hlack2]
      exact wpc_ret ⟨Or.inr rfl, .tuple #[.int .i64 0, .bool false], by simp [resV, resL, res1, putE_get, notT], rfl, rfl⟩
    | succ k ihj =>
      intro j e Hd hj hxd hnd e2 e3 e7 e8 e38 e39 e40
      have hjl : j < (allSL n l).length := by omega
      have hw1 : IntKind.i64.wrap ((j : Int) + 1) = ((j + 1 : Nat) : Int) := by rw [wrap_id (by omega) (by omega)]; omega
      have hw2 : IntKind.i64.wrap ((ls.length : Int) + (j : Int)) = (ls.length : Int) + (j : Int) := wrap_id (by omega) (by omega)
      have hx4d := hx5.tr hxd
      have hx0d := hx04.tr hx4d
      obtain ⟨bs, cs, hws, gcs, rds⟩ := (ol.keep (Nat.le_refl _) hxd (fun _ _ => by simp)).at hjl
      simp only [Value.slice.injEq, and_true] at hws
      subst hws
      have rdsc := rds
      obtain ⟨sk, sx, sa, sbb, sc, sg, tv, ev, tl, el, hs2, hcs, rg, otv, oev, _, _⟩ := anyS_rd rds
      subst hcs
      have hld := hx0d.1
      refine lp_step ?_
      refine seq_reg ?_
      simp only [go_sem, binC, e39, e40]
      refine seq_cond (t := true) (by simp only [go_sem, binC]; rw [decide_eq_true (by omega)]) ?_
      simp only [go_sem, binC]
      refine seq_skip (seq_block (seq_reg ?_))
      simp only [go_sem, binC, e38, e40]
      refine ⟨⟨by omega, by omega⟩, ?_⟩
      simp only [go_sem, binC, Int.toNat_natCast, Nat.zero_add, gcs, otv, oev]
      refine ⟨by omega, ?_⟩
      refine ⟨by omega, ?_⟩
      refine wpc_gen fun H6 hH6 => ?_
      have hx6 : AgX [] Hd H6 := hH6 ▸ AgX.app [] _ _
      have hb9 : H6[Hd.length]? = some ⟨[.int .i64 j], 0, 0, false, true⟩ := hH6 ▸ get_new0 _ _
      have hb10 : H6[Hd.length + 1]? = some ⟨[.int .i64 sk, .int .i64 sx, .int .i64 sa, .int .i64 sbb, .int .i64 sc, .int .i64 sg, tv, ev], 0, 0, false, true⟩ := hH6 ▸ get_new _ _ 1
      clear hH6
      have hx46 := hx4d.tr hx6
      have hx06 := hx0d.tr hx6
      have hx56 := hxd.tr hx6
      have hb26 := hx56.get hb25 (by simp)
      refine seq_reg ?_
      simp only [go_sem, binC, e2, e3, e7, e8]
      have hcall := cfLLM_ok (F := F) (g := 78) (first := #[]) (cap := #[ptr H.length 0, ptr (H.length + 1) 0, ptr (Hd.length + 1) 0, ptr H3.length 0, ptr Hd.length 0]) (P := anyDo n ls l ts j) hcl hil' H6 (v := .slice ah (hmL ls ts ls.length).length (hmL ls ts ls.length).length) (l := hmL ls ts ls.length) (fun x hx xv hxv => by
        have hel := hmL_el ls.length x hx
        exact pl2_ok h2 gd osv otv oev hb26 (hx56.get hb35 (by simp)) hb10 (hx56.get hb75 (by simp)) hb9 hjl (Co.anyS.mono (agx_sub hx06) rdsc) (qa.mono (agx_sub hx46)) (r1.mono (agx_sub hx06)) hP (r3.mono (agx_sub hx06)) htr hxv ⟨hel.1, hel.2.1⟩) (qh.mono (agx_sub hx46))
      refine ⟨rfl, ?_⟩
      refine op_callQ (by simp only [go_sem, binC]; exact hcall) ?_
      cases hres : (hmL ls ts ls.length).any (anyDo n ls l ts j) with
      | true =>
        have hnj : noDo n ls l ts j = false := by unfold noDo; rw [hres]; rfl
        simp only [go_sem, binC]
        refine wpc_cond (t := false) rfl ?_
        simp only [go_sem, binC]
        refine wpc_skip ?_
        simp only [go_sem, binC, out_n, thenX_n]
        refine wpc_reg ?_
        simp only [go_sem, binC, e40, hw1]
        simp only [go_sem, binC, thenX_n]
        refine ihj (j + 1) _ H6 (by omega) hx56 (fun q hq => ?_) (by simp only [go_sem, binC, e2]) (by simp only [go_sem, binC, e3]) (by simp only [go_sem, binC, e7]) (by simp only [go_sem, binC, e8]) (by simp only [go_sem, binC, e38]) (by simp only [go_sem, binC, e39]) (by simp only [go_sem, binC])
        by_cases hqj : q = j
        · subst hqj; exact hnj
        · exact hnd q (by omega)
      | false =>
        have hnj : noDo n ls l ts j = true := by unfold noDo; rw [hres]; rfl
        rw [find_some hjl hnd hnj] at hlack2
        simp only [go_sem, binC]
        refine wpc_cond (t := true) rfl ?_
        simp only [go_sem, binC]
        refine seq_reg ?_
        simp only [go_sem, binC, e2, gc_of hb26, gc_of hb9, inBlk_some, hw2]
        refine wpc_ret ?_
        simp only [go_sem, binC, out_r, thenX_r]
        rw [hlack2]
        exact ⟨Or.inr rfl, .tuple #[.int .i64 ((ls.length : Int) + (j : Int)), .bool true], by simp [resV, resL, res1, putE_get, notT], rfl, rfl⟩
  | succ k ih =>
    intro v e Hc hv hxc hno e2 e3 e21 e22
    have hvl : v < ls.length := by omega
    have hw1 : IntKind.i64.wrap ((v : Int) + 1) = ((v + 1 : Nat) : Int) := by rw [wrap_id (by omega) (by omega)]; omega
    have hlc := hxc.1
    refine lp_step ?_
    refine seq_reg ?_
    simp only [go_sem, binC, e21, e22]
    refine seq_cond (t := true) (by simp only [go_sem, binC]; rw [decide_eq_true (by omega)]) ?_
    simp only [go_sem, binC]
    refine seq_skip (seq_block (seq_reg ?_))
    simp only [go_sem, binC, e22]
    refine ⟨by omega, ?_⟩
    refine wpc_gen fun H2 hH2 => ?_
    have hx2 : AgX [] Hc H2 := hH2 ▸ AgX.app [] _ _
    have hb6 : H2[Hc.length]? = some ⟨[.int .i64 v], 0, 0, false, true⟩ := hH2 ▸ get_new0 _ _
    clear hH2
    refine seq_reg ?_
    simp only [go_sem, binC, e2, e3]
    generalize hH3 : H2 ++ [(⟨[.int .i64 0, .int .i64 1, .int .i64 2], 1, 3, true, true⟩ : Blk)] = H3
    have hx3 : AgX [] H2 H3 := hH3 ▸ AgX.app [] _ _
    have hbl : H3[H2.length]? = some ⟨ints [0, 1, 2], 1, 3, true, true⟩ := hH3 ▸ get_new0 _ _
    clear hH3
    have hx13 := hxc.tr (hx2.tr hx3)
    have hx03 := hx1.tr hx13
    have hb63 := hx3.get hb6 (by simp)
    have hcall := cfIntM_ok (F := F) (g := 76) (first := #[]) (cap := #[ptr H.length 0, ptr (H.length + 1) 0, ptr Hc.length 0]) (P := hmB ls ts v) hcf hif H3 (v := sli H2.length 0 3) (l := [0, 1, 2]) (fun x hx => by
      simp only [List.mem_cons, List.not_mem_nil, or_false] at hx
      exact pl1_ok h1 gho osv (hx13.get hb2 (by simp)) (hx13.get hb3 (by simp)) hb63 (r1.mono (agx_sub hx03)) hlab (r3.mono (agx_sub hx03)) htr hvl (by omega) (by omega)) (ints_sl0 (l := [0, 1, 2]) hbl (fun x hx => by simp only [List.mem_cons, List.not_mem_nil, or_false] at hx; unfold RgI; omega) (by simp))
    refine ⟨rfl, ?_⟩
    refine op_callQ (by simp only [go_sem, binC]; exact hcall) ?_
    cases hnv : noHome ls ts v with
    | true =>
      have hany : ([0, 1, 2] : List Int).any (hmB ls ts v) = false := by unfold noHome at hnv; simpa using hnv
      rw [hany]
      rw [find_some hvl hno hnv] at hlack
      simp only [go_sem, binC]
      refine wpc_cond (t := true) rfl ?_
      simp only [go_sem, binC]
      refine seq_reg ?_
      simp only [go_sem, binC, gc_of hb63, inBlk_some]
      refine wpc_ret ?_
      simp only [go_sem, binC, out_r, thenX_r]
      rw [hlack]
      exact ⟨Or.inr rfl, .tuple #[.int .i64 (v : Int), .bool true], by simp [resV, resL, res1, putE_get, notT], rfl, rfl⟩
    | false =>
      have hany : ([0, 1, 2] : List Int).any (hmB ls ts v) = true := by
        unfold noHome at hnv
        rw [Bool.not_eq_false'] at hnv
        exact hnv
      rw [hany]
      simp only [go_sem, binC]
      refine wpc_cond (t := false) rfl ?_
      simp only [go_sem, binC]
      refine wpc_skip ?_
      simp only [go_sem, binC, out_n, thenX_n]
      refine wpc_reg ?_
      simp only [go_sem, binC, e22, hw1]
      simp only [go_sem, binC, thenX_n]
      refine ih (v + 1) _ H3 (by omega) hx13 (fun q hq => ?_) (by simp only [go_sem, binC, e2]) (by simp only [go_sem, binC, e3]) (by simp only [go_sem, binC, e21]) (by simp only [go_sem, binC])
      by_cases hqv : q = v
      · subst hqv; exact hnv
      · exact hno q (by omega)
end Go.Proofs.YtiekbdijpfnagaaI
end
section
/- The law FnExactPlanLack on the ideal machine. -/
set_option linter.unusedVariables false
set_option linter.unusedSimpArgs false
namespace Go.Proofs.YtiekbdijpfnagaaI
open Go Go.RowKit
theorem setL_full {cs vs : List Value} (h : vs.length = cs.length) : setL cs 0 vs = vs := by
  rw [setL_eq _ _ _ (by omega), List.take_zero, List.nil_append, List.drop_of_length_le (by omega), List.append_nil]
def LackR (F : Nat → Option IFn) (f : Nat) : Prop := ∀ (H : Heap) (n : Nat) (u w : Value) (p : TProg n) (ts : List Int), Rd (Co.prog n) true (vw 0 H) u p → (Co.prog n).sm p → SlR Co.int (vw 0 H) w ts → QC F f [u, w] H (.tuple #[.int .i64 (lackV n p ts).1, .bool (lackV n p ts).2])
theorem LackOk.rd {F : Nat → Option IFn} {f : Nat} (h : LackOk F f) : LackR F f := by
  rintro H n u w ⟨p0, p1⟩ ts hu hs hw
  obtain ⟨pc, hpc, _, _, rfl, ⟨v0, rfl, r0⟩, ⟨v1, rfl, r1⟩⟩ := hu
  simp only [go_sem, binC, Option.some.injEq] at hpc
  subst hpc
  exact h H n v0 v1 w p0 p1 ts r0 r1 hs hw
def c_lawEPL : IFn := ⟨2, 56, [.t 4],
 .seq (.reg none [
    ⟨(some 2), none, .box (.t 0)⟩,
    ⟨(some 4), none, .mov (.c (.bool false))⟩])
 (.seq (.seq (.reg none [
     ⟨(some 12), none, .mov (.t 1)⟩,
     ⟨(some 13), none, .len (.t 12)⟩,
     ⟨(some 14), none, .bin .gtr (.t 13) (.c (.int .i64 1048576))⟩])
  (.cond (.t 14) (.seq (.reg none [
      ⟨(some 4), none, .mov (.c (.bool true))⟩])
   (.ret)) (.skip)))
 (.seq (.reg none [
    ⟨(some 5), none, .mov (.c (.int .i64 1048576))⟩])
 (.seq (.reg none [
    ⟨(some 15), none, .load true 2 (.t 2)⟩,
    ⟨(some 16), none, .mov (.t 5)⟩,
    ⟨(some 17), none, .call .q (.f 18) [(.t 15), (.t 16)]⟩,
    ⟨(some 5), none, .mov (.t 17)⟩])
 (.seq (.seq (.reg none [
     ⟨(some 18), none, .mov (.t 5)⟩,
     ⟨(some 19), none, .bin .lss (.t 18) (.c (.int .i64 0))⟩])
  (.cond (.t 19) (.seq (.reg none [
      ⟨(some 4), none, .mov (.c (.bool true))⟩])
   (.ret)) (.skip)))
 (.seq (.reg none [
    ⟨(some 21), none, .load true 2 (.t 2)⟩,
    ⟨(some 22), none, .call .k (.f 19) [(.t 21)]⟩,
    ⟨(some 23), none, .mov (.t 1)⟩,
    ⟨(some 24), none, .call .k (.f 20) [(.t 23)]⟩,
    ⟨(some 25), none, .call .q (.f 29) [(.t 22), (.t 24)]⟩,
    ⟨(some 20), none, .mov (.t 25)⟩,
    ⟨(some 26), none, .ext (.t 20) 0⟩,
    ⟨(some 27), none, .ext (.t 20) 1⟩,
    ⟨(some 6), none, .mov (.t 26)⟩,
    ⟨(some 7), none, .mov (.t 27)⟩])
 (.seq (.reg none [
    ⟨(some 28), none, .load true 2 (.t 2)⟩,
    ⟨(some 29), none, .call .k (.f 19) [(.t 28)]⟩,
    ⟨(some 8), none, .new [(.slice none 0 0), (.slice none 0 0)]⟩,
    ⟨none, none, .store 2 (.t 8) (.t 29)⟩])
 (.seq (.reg none [
    ⟨(some 30), none, .mov (.t 1)⟩,
    ⟨(some 31), none, .call .k (.f 20) [(.t 30)]⟩,
    ⟨(some 9), none, .mov (.t 31)⟩])
 (.seq (.reg none [
    ⟨(some 33), none, .load true 2 (.t 8)⟩,
    ⟨(some 34), none, .mov (.t 9)⟩,
    ⟨(some 35), none, .call .q (.f 30) [(.t 33), (.t 34)]⟩,
    ⟨(some 32), none, .mov (.t 35)⟩,
    ⟨(some 36), none, .ext (.t 32) 0⟩,
    ⟨(some 37), none, .ext (.t 32) 1⟩,
    ⟨(some 10), none, .mov (.t 36)⟩,
    ⟨(some 11), none, .mov (.t 37)⟩])
 (.seq (.seq (.reg none [
     ⟨(some 38), none, .mov (.t 10)⟩,
     ⟨(some 39), none, .mov (.t 6)⟩,
     ⟨(some 40), none, .bin .neq (.t 38) (.t 39)⟩,
     ⟨(some 41), none, .mov (.t 40)⟩,
     ⟨(some 42), (some (41, false)), .mov (.t 11)⟩,
     ⟨(some 43), (some (41, false)), .mov (.t 7)⟩,
     ⟨(some 44), (some (41, false)), .beq true (.t 42) (.t 43)⟩,
     ⟨(some 45), none, .pick (.t 41) (.c (.bool true)) (.t 44)⟩])
  (.cond (.t 45) (.seq (.reg none [
      ⟨(some 4), none, .mov (.c (.bool false))⟩])
   (.ret)) (.skip)))
 (.seq (.seq (.reg (some 3) [
     ⟨(some 46), none, .load true 2 (.t 8)⟩,
     ⟨(some 47), none, .load true 2 (.t 2)⟩,
     ⟨(some 48), none, .call .k (.f 19) [(.t 47)]⟩,
     ⟨(some 49), none, .call .q (.f 22) [(.t 46), (.t 48)]⟩,
     ⟨(some 50), none, .un .not (.t 49)⟩])
  (.cond (.t 50) (.seq (.reg none [
      ⟨(some 4), none, .mov (.c (.bool false))⟩])
   (.ret)) (.skip)))
 (.seq (.seq (.reg none [
     ⟨(some 51), none, .mov (.t 9)⟩,
     ⟨(some 52), none, .mov (.t 1)⟩,
     ⟨(some 53), none, .call .k (.f 20) [(.t 52)]⟩,
     ⟨(some 54), none, .call .q (.f 23) [(.t 51), (.t 53)]⟩,
     ⟨(some 55), none, .un .not (.t 54)⟩])
  (.cond (.t 55) (.seq (.reg none [
      ⟨(some 4), none, .mov (.c (.bool false))⟩])
   (.ret)) (.skip)))
 (.seq (.reg none [
    ⟨(some 4), none, .mov (.c (.bool true))⟩])
 (.ret)))))))))))))⟩
theorem lawEPL_ok {F : Nat → Option IFn} {f : Nat} (hf : F f = some c_lawEPL) (gs : ∀ n, SzOk F (Co.prog n) true 18) (gt : ∀ n, ToOk F (Co.prog n) true .k 19) (gti : ToOk F (Co.sl Co.int) false .k 20) (ge : ∀ n, EqOk F (Co.prog n) true 22) (gei : EqOk F (Co.sl Co.int) false 23)
    (gp : LackR F 29) (gi : LackR F 30) :
    ∀ (H : Heap) (n : Nat) (v u : Value) (a : TProg n) (ts : List Int), Rd (Co.prog n) true (vw 0 H) v a → SlR Co.int (vw 0 H) u ts → QC F f [v, u] H (.bool true) := by
  intro H n v u a ts hr hu
  have hr' := hr
  have hu' : ∀ L, Rd (Co.sl Co.int) false (vw 0 (H ++ L)) u ts := fun L => ⟨_, rfl, Co.rd_sl.2 (hu.mono (vw_app 0 H L))⟩
  obtain ⟨cs, hc, hcs⟩ := hr
  have hl := (Co.prog n).len hcs
  have ho : cs.all one = true := by rw [List.all_eq_true]; exact (Co.prog n).ones hcs
  simp only [go_sem, binC, Option.some.injEq] at hc
  subst hc
  have l2 : cs.length = 2 := hl
  have t2 : List.take 2 cs = cs := List.take_of_length_le (by omega)
  have hul := hu.1
  obtain ⟨au, xu⟩ := hu.shape
  subst xu
  refine QC.mk hf rfl ?_
  refine seq_reg ?_
  simp only [go_sem, binC, ho]
  refine seq_assoc (seq_reg ?_)
  simp only [go_sem, binC]
  by_cases hbig : 1048576 < (ts.length : Int)
  · refine seq_cond (t := true) (by simp only [go_sem, binC]; rw [decide_eq_true hbig]) ?_
    simp only [go_sem, binC]
    refine seq_assoc (seq_reg ?_)
    simp only [go_sem, binC]
    exact seq_ret ⟨Or.inr rfl, .bool true, by simp only [go_sem, binC], rfl, rfl⟩
  refine seq_cond (t := false) (by simp only [go_sem, binC]; rw [decide_eq_false hbig]) ?_
  simp only [go_sem, binC]
  have hsu : (Co.sl Co.int).sm ts := ⟨by omega, fun _ _ => trivial⟩
  refine seq_skip (seq_reg ?_)
  simp only [go_sem, binC]
  refine seq_reg ?_
  simp only [go_sem, binC, inBlk, l2, t2]
  obtain ⟨r, q1, q2, q3⟩ := gs n (H ++ [⟨cs, 0, 0, false, true⟩]) _ a 1048576 (hr'.mono (vw_app 0 H _)) (by omega) (by omega)
  refine op_callQ (by simp only [go_sem, binC]; exact q1) ?_
  simp only [go_sem, binC]
  refine seq_assoc (seq_reg ?_)
  simp only [go_sem, binC]
  by_cases hn : r < 0
  · refine seq_cond (t := true) (by simp only [go_sem, binC]; rw [decide_eq_true hn]) ?_
    simp only [go_sem, binC]
    refine seq_assoc (seq_reg ?_)
    simp only [go_sem, binC]
    exact seq_ret ⟨Or.inr rfl, .bool true, by simp only [go_sem, binC], rfl, rfl⟩
  refine seq_cond (t := false) (by simp only [go_sem, binC]; rw [decide_eq_false hn]) ?_
  simp only [go_sem, binC]
  have hs := q3 (by omega)
  refine seq_skip (seq_reg ?_)
  simp only [go_sem, binC, inBlk, l2, t2]
  refine gt n _ _ a (hr'.mono (vw_app 0 H _)) hs _ _ _ _ (by simp only [go_sem, binC]) ?_
  intro w0 L0 hw0
  have hw0' := fun L => hw0.mono (Sub.trans (vw_grow (Nat.zero_le _) fun _ _ _ => rfl) (vw_app 0 _ L))
  simp only [go_sem, binC] at hw0'
  simp only [go_sem, binC]
  refine gti _ _ ts (hu' _) hsu _ _ _ _ (by simp only [go_sem, binC]) ?_
  rintro w1 L1 hw1
  have hw1' := hw1.mono (vw_grow (Nat.zero_le _) fun _ _ _ => rfl)
  obtain ⟨c1, hc1, k1⟩ := hw1'
  obtain ⟨u1, rfl, k1⟩ := k1
  simp only [go_sem, binC, Option.some.injEq] at hc1
  subst hc1
  simp only [go_sem, binC] at k1
  simp only [go_sem, binC]
  have hgi := fun (H : Heap) (u w : Value) (h1 : Rd (Co.prog n) true (vw 0 H) u a) (h2 : SlR Co.int (vw 0 H) w ts) => gi H n u w a ts h1 hs h2
  refine op_callQ (by simp only [go_sem, binC]; exact gp _ n _ _ a ts (hw0' _) hs k1) ?_
  generalize lackV n a ts = lk at *
  simp only [go_sem, binC]
  refine seq_reg ?_
  simp only [go_sem, binC, inBlk, l2, t2]
  refine gt n _ _ a (hr'.mono (vw_app 0 H _)) hs _ _ _ _ (by simp only [go_sem, binC]) ?_
  rintro w2 L2 hw2
  have hw2' := fun L => hw2.mono (Sub.trans (vw_grow (Nat.zero_le _) fun _ _ _ => rfl) (vw_app 0 _ L))
  simp only [go_sem, binC] at hw2'
  obtain ⟨c2, hc2, hcs2⟩ := hw2
  have ho2 : c2.all one = true := by rw [List.all_eq_true]; exact (Co.prog n).ones hcs2
  have f5 : c2.length = 2 := (Co.prog n).len hcs2
  have f6 : List.take 2 c2 = c2 := List.take_of_length_le (by omega)
  simp only [go_sem, binC, Option.some.injEq] at hc2
  subst hc2
  simp only [go_sem, binC, ho2, f5, setL_full]
  refine seq_reg ?_
  simp only [go_sem, binC]
  refine gti _ _ ts (hu' _) hsu _ _ _ _ (by simp only [go_sem, binC]) ?_
  rintro w3 L3 hw3
  have hw3' := fun L => hw3.mono (Sub.trans (vw_grow (Nat.zero_le _) fun _ _ _ => rfl) (vw_app 0 _ L))
  have hw3c := hw3' []
  rw [List.append_nil] at hw3c
  obtain ⟨c3, hc3, k3⟩ := hw3c
  obtain ⟨u3, rfl, k3⟩ := k3
  simp only [go_sem, binC, Option.some.injEq] at hc3
  subst hc3
  simp only [go_sem, binC] at k3 hw3'
  simp only [go_sem, binC]
  refine seq_reg ?_
  simp only [go_sem, binC, inBlk, f5, f6]
  refine op_callQ (by simp only [go_sem, binC]; exact hgi _ _ _ (hw2' _) k3) ?_
  simp only [go_sem, binC]
  refine seq_assoc (seq_reg ?_)
  simp only [go_sem, binC, beq_self_eq_true, bne_self_eq_false]
  refine seq_cond (t := false) (by simp only [go_sem, binC]) ?_
  simp only [go_sem, binC]
  refine seq_skip (seq_assoc (seq_regD ?_))
  simp only [go_sem, binC, inBlk, f5, f6, l2, t2]
  refine gt n _ _ a (hr'.mono (vw_app 0 H _)) hs _ _ _ _ (by simp only [go_sem, binC]) ?_
  intro w4 L4 hw4
  simp only [go_sem, binC] at hw4
  simp only [go_sem, binC]
  refine op_callQ (by simp only [go_sem, binC]; exact ge n _ _ _ a (hw2' _) (hw4.mono (vw_grow (Nat.zero_le _) fun _ _ _ => rfl))) ?_
  simp only [go_sem, binC]
  refine seq_cond (t := false) (by simp only [go_sem, binC]) ?_
  simp only [go_sem, binC]
  refine seq_skip (seq_assoc (seq_reg ?_))
  simp only [go_sem, binC]
  refine gti _ _ ts (hu' _) hsu _ _ _ _ (by simp only [go_sem, binC]) ?_
  intro w5 L5 hw5
  simp only [go_sem, binC] at hw5
  simp only [go_sem, binC]
  refine op_callQ (by simp only [go_sem, binC]; exact gei _ _ _ ts (hw3' _) (hw5.mono (vw_grow (Nat.zero_le _) fun _ _ _ => rfl))) ?_
  simp only [go_sem, binC]
  refine seq_cond (t := false) (by simp only [go_sem, binC]) ?_
  simp only [go_sem, binC]
  refine seq_skip (seq_reg ?_)
  simp only [go_sem, binC]
  refine wpc_ret ⟨Or.inr rfl, _, ?_, rfl, rfl⟩
  simp only [go_sem, binC]
end Go.Proofs.YtiekbdijpfnagaaI
end
section
/- The functions that the law FnExactPlanLack reaches, as ideal functions. -/
set_option linter.unusedVariables false
set_option linter.unusedSimpArgs false
namespace Go.Proofs.YtiekbdijpfnagaaI
open Go Go.RowKit
def fnOf : Nat → Option IFn
  | 6 => some (c_lawEPL)
  | 14 => some (c_sTypeOk)
  | 18 => some (c_szProg)
  | 19 => some (c_toProg)
  | 20 => some (toFlat 3)
  | 22 => some (c_eqProg)
  | 23 => some (eqFlat)
  | 29 => some (c_sPlanLack)
  | 30 => some (c_iPlanLack)
  | 45 => some (c_sTrusts)
  | 46 => some (c_sSee)
  | 48 => some (c_iTypeOk)
  | 49 => some (c_iTrusts)
  | 50 => some (c_iAt)
  | 51 => some (c_iHomes)
  | 52 => some (c_iAll)
  | 53 => some (c_iDoer)
  | 56 => some (c_sWhy)
  | 57 => some (c_sProg)
  | 58 => some (c_iProg)
  | 59 => some (c_iSize)
  | 61 => some (c_iHome1)
  | 62 => some (c_iDoes)
  | 63 => some (szFlat)
  | 64 => some (szNest 125 8 true)
  | 65 => some (toCall .q 126 2 38 16 [(.int .i64 0), (.int .i64 0)] true)
  | 66 => some (toCall .k 127 8 80 96 [(.int .i64 0), (.int .i64 0), (.int .i64 0), (.int .i64 0), (.int .i64 0), (.int .i64 0), (.slice none 0 0), (.slice none 0 0)] true)
  | 67 => some (eqCall 128 2 true)
  | 68 => some (eqCall 129 8 true)
  | 73 => some (c_lHome)
  | 74 => some (c_lSome)
  | 75 => some (c_cfInt)
  | 76 => some (c_pl1)
  | 77 => some (c_cfLL)
  | 78 => some (c_pl2)
  | 79 => some (c_iVar)
  | 80 => some (c_iHost)
  | 84 => some (c_sIn)
  | 85 => some (c_lStep)
  | 94 => some (c_iWhy0)
  | 98 => some (c_sEither)
  | 99 => some (c_sSet)
  | 100 => some (c_sHas)
  | 101 => some (c_sAllSteps)
  | 102 => some (c_sTypeAt)
  | 103 => some (c_sTypeSets)
  | 104 => some (c_sBy)
  | 106 => some (c_iSet)
  | 107 => some (c_iHas)
  | 108 => some (c_iLabels)
  | 109 => some (c_iEvery)
  | 110 => some (c_cloneI)
  | 112 => some (c_sFine)
  | 113 => some (c_sLabelOk)
  | 114 => some (c_sSteps)
  | 115 => some (c_sCount)
  | 116 => some (c_con)
  | 117 => some (c_p1)
  | 118 => some (c_iLabelOk)
  | 119 => some (c_iSteps)
  | 121 => some (c_iWithin)
  | 122 => some (c_iBy)
  | 123 => some (c_iSets)
  | 124 => some (c_iMakes)
  | 125 => some (c_szStep)
  | 126 => some (c_toLabel)
  | 127 => some (c_toStep)
  | 128 => some (c_eqLabel)
  | 129 => some (c_eqStep)
  | 131 => some (c_sWithin)
  | 132 => some (c_ifInt)
  | 133 => some (c_ifLL)
  | 134 => some (c_iIn)
  | 135 => some (c_sVars21)
  | 137 => some (c_iSource)
  | 138 => some (c_iFlows)
  | 142 => some (c_sBoth)
  | 143 => some (c_sAll)
  | 144 => some (c_sAt)
  | 145 => some (c_sAny)
  | 146 => some (c_sSets)
  | 147 => some (c_iBoth)
  | 148 => some (c_sFlows)
  | 149 => some (c_sLBoth)
  | 150 => some (c_sValL)
  | 151 => some (c_sStep)
  | 152 => some (c_idx)
  | 153 => some (c_iVal)
  | 154 => some (c_vars)
  | 155 => some (c_toVal)
  | 156 => some (c_eqVal)
  | 158 => some (c_sVar)
  | 159 => some (c_sVal)
  | 160 => some (c_iNum)
  | _ => none
def cmOf (f : Nat) : CM := ⟨fun g => if [6, 14, 18, 22, 23, 29, 30, 45, 48, 49, 53, 56, 57, 58, 59, 61, 62, 63, 64, 67, 68, 73, 74, 75, 76, 77, 78, 79, 80, 84, 85, 94, 98, 99, 100, 104, 106, 107, 109, 112, 113, 114, 115, 116, 117, 118, 119, 121, 122, 123, 125, 126, 128, 129, 131, 132, 133, 134, 137, 138, 142, 143, 145, 146, 147, 148, 149, 150, 151, 152, 153, 155, 156, 158, 159, 160].contains g then .q else if [46, 108, 144].contains g then .n else .k, if [46, 108, 144].contains f then .n else .q, false⟩
theorem hF6 : cFn Try.prog cmOf 6 = some (c_lawEPL) := by kernel_rfl
theorem hF14 : cFn Try.prog cmOf 14 = some (c_sTypeOk) := by kernel_rfl
theorem hF18 : cFn Try.prog cmOf 18 = some (c_szProg) := by kernel_rfl
theorem hF19 : cFn Try.prog cmOf 19 = some (c_toProg) := by kernel_rfl
theorem hF20 : cFn Try.prog cmOf 20 = some (toFlat 3) := by kernel_rfl
theorem hF22 : cFn Try.prog cmOf 22 = some (c_eqProg) := by kernel_rfl
theorem hF23 : cFn Try.prog cmOf 23 = some (eqFlat) := by kernel_rfl
theorem hF29 : cFn Try.prog cmOf 29 = some (c_sPlanLack) := by kernel_rfl
theorem hF30 : cFn Try.prog cmOf 30 = some (c_iPlanLack) := by kernel_rfl
theorem hF45 : cFn Try.prog cmOf 45 = some (c_sTrusts) := by kernel_rfl
theorem hF46 : cFn Try.prog cmOf 46 = some (c_sSee) := by kernel_rfl
theorem hF48 : cFn Try.prog cmOf 48 = some (c_iTypeOk) := by kernel_rfl
theorem hF49 : cFn Try.prog cmOf 49 = some (c_iTrusts) := by kernel_rfl
theorem hF50 : cFn Try.prog cmOf 50 = some (c_iAt) := by kernel_rfl
theorem hF51 : cFn Try.prog cmOf 51 = some (c_iHomes) := by kernel_rfl
theorem hF52 : cFn Try.prog cmOf 52 = some (c_iAll) := by kernel_rfl
theorem hF53 : cFn Try.prog cmOf 53 = some (c_iDoer) := by kernel_rfl
theorem hF56 : cFn Try.prog cmOf 56 = some (c_sWhy) := by kernel_rfl
theorem hF57 : cFn Try.prog cmOf 57 = some (c_sProg) := by kernel_rfl
theorem hF58 : cFn Try.prog cmOf 58 = some (c_iProg) := by kernel_rfl
theorem hF59 : cFn Try.prog cmOf 59 = some (c_iSize) := by kernel_rfl
theorem hF61 : cFn Try.prog cmOf 61 = some (c_iHome1) := by kernel_rfl
theorem hF62 : cFn Try.prog cmOf 62 = some (c_iDoes) := by kernel_rfl
theorem hF63 : cFn Try.prog cmOf 63 = some (szFlat) := by kernel_rfl
theorem hF64 : cFn Try.prog cmOf 64 = some (szNest 125 8 true) := by kernel_rfl
theorem hF65 : cFn Try.prog cmOf 65 = some (toCall .q 126 2 38 16 [(.int .i64 0), (.int .i64 0)] true) := by kernel_rfl
theorem hF66 : cFn Try.prog cmOf 66 = some (toCall .k 127 8 80 96 [(.int .i64 0), (.int .i64 0), (.int .i64 0), (.int .i64 0), (.int .i64 0), (.int .i64 0), (.slice none 0 0), (.slice none 0 0)] true) := by kernel_rfl
theorem hF67 : cFn Try.prog cmOf 67 = some (eqCall 128 2 true) := by kernel_rfl
theorem hF68 : cFn Try.prog cmOf 68 = some (eqCall 129 8 true) := by kernel_rfl
theorem hF73 : cFn Try.prog cmOf 73 = some (c_lHome) := by kernel_rfl
theorem hF74 : cFn Try.prog cmOf 74 = some (c_lSome) := by kernel_rfl
theorem hF75 : cFn Try.prog cmOf 75 = some (c_cfInt) := by kernel_rfl
theorem hF76 : cFn Try.prog cmOf 76 = some (c_pl1) := by kernel_rfl
theorem hF77 : cFn Try.prog cmOf 77 = some (c_cfLL) := by kernel_rfl
theorem hF78 : cFn Try.prog cmOf 78 = some (c_pl2) := by kernel_rfl
theorem hF79 : cFn Try.prog cmOf 79 = some (c_iVar) := by kernel_rfl
theorem hF80 : cFn Try.prog cmOf 80 = some (c_iHost) := by kernel_rfl
theorem hF84 : cFn Try.prog cmOf 84 = some (c_sIn) := by kernel_rfl
theorem hF85 : cFn Try.prog cmOf 85 = some (c_lStep) := by kernel_rfl
theorem hF94 : cFn Try.prog cmOf 94 = some (c_iWhy0) := by kernel_rfl
theorem hF98 : cFn Try.prog cmOf 98 = some (c_sEither) := by kernel_rfl
theorem hF99 : cFn Try.prog cmOf 99 = some (c_sSet) := by kernel_rfl
theorem hF100 : cFn Try.prog cmOf 100 = some (c_sHas) := by kernel_rfl
theorem hF101 : cFn Try.prog cmOf 101 = some (c_sAllSteps) := by kernel_rfl
theorem hF102 : cFn Try.prog cmOf 102 = some (c_sTypeAt) := by kernel_rfl
theorem hF103 : cFn Try.prog cmOf 103 = some (c_sTypeSets) := by kernel_rfl
theorem hF104 : cFn Try.prog cmOf 104 = some (c_sBy) := by kernel_rfl
theorem hF106 : cFn Try.prog cmOf 106 = some (c_iSet) := by kernel_rfl
theorem hF107 : cFn Try.prog cmOf 107 = some (c_iHas) := by kernel_rfl
theorem hF108 : cFn Try.prog cmOf 108 = some (c_iLabels) := by kernel_rfl
theorem hF109 : cFn Try.prog cmOf 109 = some (c_iEvery) := by kernel_rfl
theorem hF110 : cFn Try.prog cmOf 110 = some (c_cloneI) := by kernel_rfl
theorem hF112 : cFn Try.prog cmOf 112 = some (c_sFine) := by kernel_rfl
theorem hF113 : cFn Try.prog cmOf 113 = some (c_sLabelOk) := by kernel_rfl
theorem hF114 : cFn Try.prog cmOf 114 = some (c_sSteps) := by kernel_rfl
theorem hF115 : cFn Try.prog cmOf 115 = some (c_sCount) := by kernel_rfl
theorem hF116 : cFn Try.prog cmOf 116 = some (c_con) := by kernel_rfl
theorem hF117 : cFn Try.prog cmOf 117 = some (c_p1) := by kernel_rfl
theorem hF118 : cFn Try.prog cmOf 118 = some (c_iLabelOk) := by kernel_rfl
theorem hF119 : cFn Try.prog cmOf 119 = some (c_iSteps) := by kernel_rfl
theorem hF121 : cFn Try.prog cmOf 121 = some (c_iWithin) := by kernel_rfl
theorem hF122 : cFn Try.prog cmOf 122 = some (c_iBy) := by kernel_rfl
theorem hF123 : cFn Try.prog cmOf 123 = some (c_iSets) := by kernel_rfl
theorem hF124 : cFn Try.prog cmOf 124 = some (c_iMakes) := by kernel_rfl
theorem hF125 : cFn Try.prog cmOf 125 = some (c_szStep) := by kernel_rfl
theorem hF126 : cFn Try.prog cmOf 126 = some (c_toLabel) := by kernel_rfl
theorem hF127 : cFn Try.prog cmOf 127 = some (c_toStep) := by kernel_rfl
theorem hF128 : cFn Try.prog cmOf 128 = some (c_eqLabel) := by kernel_rfl
theorem hF129 : cFn Try.prog cmOf 129 = some (c_eqStep) := by kernel_rfl
theorem hF131 : cFn Try.prog cmOf 131 = some (c_sWithin) := by kernel_rfl
theorem hF132 : cFn Try.prog cmOf 132 = some (c_ifInt) := by kernel_rfl
theorem hF133 : cFn Try.prog cmOf 133 = some (c_ifLL) := by kernel_rfl
theorem hF134 : cFn Try.prog cmOf 134 = some (c_iIn) := by kernel_rfl
theorem hF135 : cFn Try.prog cmOf 135 = some (c_sVars21) := by kernel_rfl
theorem hF137 : cFn Try.prog cmOf 137 = some (c_iSource) := by kernel_rfl
theorem hF138 : cFn Try.prog cmOf 138 = some (c_iFlows) := by kernel_rfl
theorem hF142 : cFn Try.prog cmOf 142 = some (c_sBoth) := by kernel_rfl
theorem hF143 : cFn Try.prog cmOf 143 = some (c_sAll) := by kernel_rfl
theorem hF144 : cFn Try.prog cmOf 144 = some (c_sAt) := by kernel_rfl
theorem hF145 : cFn Try.prog cmOf 145 = some (c_sAny) := by kernel_rfl
theorem hF146 : cFn Try.prog cmOf 146 = some (c_sSets) := by kernel_rfl
theorem hF147 : cFn Try.prog cmOf 147 = some (c_iBoth) := by kernel_rfl
theorem hF148 : cFn Try.prog cmOf 148 = some (c_sFlows) := by kernel_rfl
theorem hF149 : cFn Try.prog cmOf 149 = some (c_sLBoth) := by kernel_rfl
theorem hF150 : cFn Try.prog cmOf 150 = some (c_sValL) := by kernel_rfl
theorem hF151 : cFn Try.prog cmOf 151 = some (c_sStep) := by kernel_rfl
theorem hF152 : cFn Try.prog cmOf 152 = some (c_idx) := by kernel_rfl
theorem hF153 : cFn Try.prog cmOf 153 = some (c_iVal) := by kernel_rfl
theorem hF154 : cFn Try.prog cmOf 154 = some (c_vars) := by kernel_rfl
theorem hF155 : cFn Try.prog cmOf 155 = some (c_toVal) := by kernel_rfl
theorem hF156 : cFn Try.prog cmOf 156 = some (c_eqVal) := by kernel_rfl
theorem hF158 : cFn Try.prog cmOf 158 = some (c_sVar) := by kernel_rfl
theorem hF159 : cFn Try.prog cmOf 159 = some (c_sVal) := by kernel_rfl
theorem hF160 : cFn Try.prog cmOf 160 = some (c_iNum) := by kernel_rfl
theorem hF (g : Nat) (fn : IFn) (h : fnOf g = some fn) : cFn Try.prog cmOf g = some fn := by
  unfold fnOf at h
  split at h
  · rw [← h]; exact hF6
  · rw [← h]; exact hF14
  · rw [← h]; exact hF18
  · rw [← h]; exact hF19
  · rw [← h]; exact hF20
  · rw [← h]; exact hF22
  · rw [← h]; exact hF23
  · rw [← h]; exact hF29
  · rw [← h]; exact hF30
  · rw [← h]; exact hF45
  · rw [← h]; exact hF46
  · rw [← h]; exact hF48
  · rw [← h]; exact hF49
  · rw [← h]; exact hF50
  · rw [← h]; exact hF51
  · rw [← h]; exact hF52
  · rw [← h]; exact hF53
  · rw [← h]; exact hF56
  · rw [← h]; exact hF57
  · rw [← h]; exact hF58
  · rw [← h]; exact hF59
  · rw [← h]; exact hF61
  · rw [← h]; exact hF62
  · rw [← h]; exact hF63
  · rw [← h]; exact hF64
  · rw [← h]; exact hF65
  · rw [← h]; exact hF66
  · rw [← h]; exact hF67
  · rw [← h]; exact hF68
  · rw [← h]; exact hF73
  · rw [← h]; exact hF74
  · rw [← h]; exact hF75
  · rw [← h]; exact hF76
  · rw [← h]; exact hF77
  · rw [← h]; exact hF78
  · rw [← h]; exact hF79
  · rw [← h]; exact hF80
  · rw [← h]; exact hF84
  · rw [← h]; exact hF85
  · rw [← h]; exact hF94
  · rw [← h]; exact hF98
  · rw [← h]; exact hF99
  · rw [← h]; exact hF100
  · rw [← h]; exact hF101
  · rw [← h]; exact hF102
  · rw [← h]; exact hF103
  · rw [← h]; exact hF104
  · rw [← h]; exact hF106
  · rw [← h]; exact hF107
  · rw [← h]; exact hF108
  · rw [← h]; exact hF109
  · rw [← h]; exact hF110
  · rw [← h]; exact hF112
  · rw [← h]; exact hF113
  · rw [← h]; exact hF114
  · rw [← h]; exact hF115
  · rw [← h]; exact hF116
  · rw [← h]; exact hF117
  · rw [← h]; exact hF118
  · rw [← h]; exact hF119
  · rw [← h]; exact hF121
  · rw [← h]; exact hF122
  · rw [← h]; exact hF123
  · rw [← h]; exact hF124
  · rw [← h]; exact hF125
  · rw [← h]; exact hF126
  · rw [← h]; exact hF127
  · rw [← h]; exact hF128
  · rw [← h]; exact hF129
  · rw [← h]; exact hF131
  · rw [← h]; exact hF132
  · rw [← h]; exact hF133
  · rw [← h]; exact hF134
  · rw [← h]; exact hF135
  · rw [← h]; exact hF137
  · rw [← h]; exact hF138
  · rw [← h]; exact hF142
  · rw [← h]; exact hF143
  · rw [← h]; exact hF144
  · rw [← h]; exact hF145
  · rw [← h]; exact hF146
  · rw [← h]; exact hF147
  · rw [← h]; exact hF148
  · rw [← h]; exact hF149
  · rw [← h]; exact hF150
  · rw [← h]; exact hF151
  · rw [← h]; exact hF152
  · rw [← h]; exact hF153
  · rw [← h]; exact hF154
  · rw [← h]; exact hF155
  · rw [← h]; exact hF156
  · rw [← h]; exact hF158
  · rw [← h]; exact hF159
  · rw [← h]; exact hF160
  · cases h
theorem hMixed : Try.prog.follows .mixedOrders = true := by kernel_rfl
theorem ok_iIn : ∀ (H : Heap) (a b c : Int), QC fnOf 134 [.int .i64 a, .int .i64 b, .int .i64 c] H (.bool (inB a b c)) := iIn_ok rfl
theorem ok_sIn : ∀ (H : Heap) (a b c : Int), QC fnOf 84 [.int .i64 a, .int .i64 b, .int .i64 c] H (.bool (inB a b c)) := sIn_ok rfl
theorem ok_iSet : ∀ (H : Heap) (a : Int), QC fnOf 106 [.int .i64 a] H (.bool (inB a 0 7)) := iSet_ok rfl ok_iIn
theorem ok_iHost : ∀ (H : Heap) (a : Int), QC fnOf 80 [.int .i64 a] H (.bool (inB a 0 2)) := iHost_ok rfl ok_iIn
theorem ok_iNum : ∀ (H : Heap) (a : Int), QC fnOf 160 [.int .i64 a] H (.bool (inB a 0 9)) := iNum_ok rfl ok_iIn
theorem ok_sAll : ∀ H, QC fnOf 143 [] H (.int .i64 7) := sAll_ok rfl
theorem ok_sSet : ∀ (H : Heap) (a : Int), QC fnOf 99 [.int .i64 a] H (.bool (inB a 0 7)) := sSet_ok rfl ok_sIn ok_sAll
theorem ok_iLabelOk : LabOk fnOf 118 := iLabelOk_ok rfl ok_iSet
theorem ok_sLabelOk : LabOk fnOf 113 := sLabelOk_ok rfl ok_sSet
theorem ok_iVar : VarOk fnOf 79 := iVar_ok rfl ok_iIn
theorem ok_sVar : VarOk fnOf 158 := sVar_ok rfl ok_sIn
theorem ok_iVal : ValOk fnOf 153 := iVal_ok rfl ok_iNum ok_iVar
theorem ok_sVal : ValOk fnOf 159 := sVal_ok rfl ok_sIn ok_sVar
theorem ok_sSteps : ∀ n, StepsOk fnOf 114 n := fun n => (sSteps_all rfl rfl ok_sIn ok_sVar ok_sVal n).1
theorem ok_iSteps : ∀ n, StepsOk fnOf 119 n := iSteps_all rfl ok_iVar ok_iVal ok_iHost
theorem ok_sCount : ∀ n, CntOk fnOf 115 n := cnt_all (fun _ h => sCount_ok rfl h) (sCount_z rfl)
theorem ok_iSize : ∀ n, CntOk fnOf 59 n := cnt_all (fun _ h => iSize_ok rfl h) (iSize_z rfl)
theorem ok_sProg : ProgOk fnOf 57 := sProg_ok rfl ok_sLabelOk ok_sSteps ok_sCount
theorem ok_iProg : ProgOk fnOf 58 := iProg_ok rfl (con_ok rfl (idx_ok rfl (p1_ok rfl ok_iLabelOk))) ok_iSteps ok_iSize
theorem ok_sHas : HasOk fnOf 100 := sHas_ok rfl
theorem ok_sWit : WitOk fnOf 131 := sWithin_ok rfl ok_sHas
theorem ok_sBoth : BothOk fnOf 142 := sBoth_ok rfl ok_sHas
theorem ok_sLBoth : LBothOk fnOf 149 := sLBoth_ok rfl ok_sLabelOk ok_sBoth
theorem ok_sFlows : FlowsOk fnOf 148 := sFlows_ok rfl ok_sLabelOk ok_sWit
theorem ok_sAny : ∀ H, QC fnOf 145 [] H (.agg #[.int .i64 7, .int .i64 7]) := sAny_ok rfl ok_sAll
theorem ok_sFine : FineOk fnOf 112 := sFine_ok rfl (sValL_ok rfl ok_sAny ok_sLBoth) ok_sLBoth ok_sFlows ok_sBoth ok_sHas
theorem ok_sAllSteps : ∀ n, AllOk fnOf 101 n := sAllSteps_all rfl
theorem ok_sAt : ∀ n, AtOk fnOf 144 n := sAt_all rfl ok_sLBoth
theorem ok_sTypeAt : TypeAtOk fnOf 102 := sTypeAt_ok rfl ok_sProg ok_sAny ok_sAt
theorem ok_iHas : HasOk fnOf 107 := iHas_ok rfl ok_iHost
theorem ok_iWit : WitOk fnOf 121 := iWithin_ok rfl
theorem ok_iBoth : ILBoth fnOf 147 := iBoth_ok rfl
theorem ok_iAt : AtP fnOf 50 := iAt_ok rfl (iLabels_all rfl ok_iBoth) (iEvery_ok rfl)
theorem ok_iWhy0 : WhyI fnOf 94 := iWhy0_ok rfl ok_iAt (iAll_all rfl) (iSource_ok rfl rfl ok_iBoth) (iFlows_ok rfl ok_iWit) ok_iHas
theorem ok_iTypeOk : TypeP fnOf 48 := iTypeOk_ok rfl ok_iProg ok_iWhy0
theorem ok_iTrusts : TrOk fnOf 49 := iTrusts_ok rfl ok_iSet ok_iHas
theorem ok_iBy : ByOk fnOf 122 := iBy_ok rfl ok_iHas
theorem ok_cloneI : CloneI fnOf 110 := cloneI_ok rfl
theorem ok_iDoes : DoesOk fnOf 62 := iDoes_ok rfl ok_iHas ok_iWit ok_iBy (iSets_all rfl) (iMakes_ok rfl rfl)
theorem ok_iHome1 : HomeI fnOf 61 := iHome1_ok rfl ok_iHas ok_iWit ok_iBy
theorem ok_iPlanLack : LackOk fnOf 30 := iPlanLack_ok rfl ok_iTypeOk ok_iTrusts ok_iAt (iHomes_ok rfl ok_iHome1 ok_cloneI) (iAll_all rfl) ok_iHome1 (iDoer_ok rfl ok_iDoes) rfl rfl rfl rfl rfl rfl
theorem ok_sTrusts : TrOk fnOf 45 := sTrusts_ok rfl ok_sSet ok_sHas
theorem ok_sBy : ByOk fnOf 104 := sBy_ok rfl ok_sHas
theorem ok_sWhyV : WhyV fnOf 56 := sWhyV_ok rfl ok_sProg ok_sAllSteps ok_sTypeAt ok_sFine
theorem ok_sTypeOk : TypeP fnOf 14 := sTypeOk_ok rfl ok_sWhyV ok_sProg
theorem ok_sAllA : ∀ n, AllA fnOf 101 n := sAllA_all rfl
theorem ok_sTypeSets : SetsOk fnOf 103 := sTypeSets_ok rfl ok_sProg ok_sAllA (sSets_all rfl (sEither_ok rfl ok_sBoth))
theorem ok_sSee : SeeOk fnOf 46 := sSee_ok rfl ok_sAllA ok_sTypeAt ok_sTypeSets ok_sBy
theorem ok_lHome : LHome fnOf 73 := lHome_ok rfl ok_sHas ok_sWit
theorem ok_lStep : LStep fnOf 85 := lStep_ok rfl ok_sHas ok_sWit (sVars21_ok rfl)
theorem ok_sPlanLack : LackOk fnOf 29 := sPlanLack_ok rfl ok_sTypeOk ok_sTrusts ok_sSee ok_lHome (lSome_all rfl ok_lHome ok_lStep)
theorem ok_szLabelS : SzOk fnOf (Co.sl Co.p2) false 63 := szFlat_ok rfl (fun _ => ⟨trivial, trivial⟩)
theorem ok_szSteps : ∀ n, SzOk fnOf (Co.step n) true 125 ∧ SzOk fnOf (Co.sl (Co.step n)) false 64 := by
  intro n
  induction n with
  | zero =>
    have z : SzOk fnOf (Co.step 0) true 125 := by
      rintro H v a left ⟨cs, _, h⟩
      exact h.elim
    exact ⟨z, szNest_ok rfl z (step_w 0) (va_t (Co.step 0))⟩
  | succ n ih =>
    have z : SzOk fnOf (Co.step (n + 1)) true 125 := szStep_ok rfl ih.2 ih.2
    exact ⟨z, szNest_ok rfl z (step_w (n + 1)) (va_t (Co.step (n + 1)))⟩
theorem ok_szProg (n : Nat) : SzOk fnOf (Co.prog n) true 18 := szProg_ok rfl ok_szLabelS (ok_szSteps n).2
theorem ok_toIntS : ToOk fnOf (Co.sl Co.int) false .k 20 := toFlat_ok rfl
theorem ok_toLabel : ToOk fnOf Co.p2 true .q 126 := toLabel_ok rfl
theorem ok_toVal : ToOk fnOf Co.val true .q 155 := toVal_ok rfl
theorem ok_toLabelS : ToOk fnOf (Co.sl Co.p2) false .k 65 := toCall_ok rfl rfl (by omega) ok_toLabel rfl (va_t Co.p2)
theorem ok_toSteps : ∀ n, ToOk fnOf (Co.step n) true .k 127 ∧ ToOk fnOf (Co.sl (Co.step n)) false .k 66 := by
  intro n
  induction n with
  | zero =>
    have z : ToOk fnOf (Co.step 0) true .k 127 := by
      rintro H v a ⟨cs, _, h⟩
      exact h.elim
    exact ⟨z, toCall_ok rfl rfl (by omega) z (step_w 0) (va_t (Co.step 0))⟩
  | succ n ih =>
    have z : ToOk fnOf (Co.step (n + 1)) true .k 127 := toStep_ok rfl ok_toVal ih.2 ih.2
    exact ⟨z, toCall_ok rfl rfl (by omega) z (step_w (n + 1)) (va_t (Co.step (n + 1)))⟩
theorem ok_toProg (n : Nat) : ToOk fnOf (Co.prog n) true .k 19 := toProg_ok rfl ok_toLabelS (ok_toSteps n).2
theorem ok_eqIntS : EqOk fnOf (Co.sl Co.int) false 23 := eqFlat_ok rfl
theorem ok_eqLabel : EqOk fnOf Co.p2 true 128 := eqLabel_ok rfl
theorem ok_eqVal : EqOk fnOf Co.val true 156 := eqVal_ok rfl
theorem ok_eqLabelS : EqOk fnOf (Co.sl Co.p2) false 67 := eqCall_ok rfl ok_eqLabel rfl (va_t Co.p2)
theorem ok_eqSteps : ∀ n, EqOk fnOf (Co.step n) true 129 ∧ EqOk fnOf (Co.sl (Co.step n)) false 68 := by
  intro n
  induction n with
  | zero =>
    have z : EqOk fnOf (Co.step 0) true 129 := by
      rintro H v u a ⟨cs, _, h⟩
      exact h.elim
    exact ⟨z, eqCall_ok rfl z (step_w 0) (va_t (Co.step 0))⟩
  | succ n ih =>
    have z : EqOk fnOf (Co.step (n + 1)) true 129 := eqStep_ok rfl ok_eqVal ih.2 ih.2
    exact ⟨z, eqCall_ok rfl z (step_w (n + 1)) (va_t (Co.step (n + 1)))⟩
theorem ok_eqProg (n : Nat) : EqOk fnOf (Co.prog n) true 22 := eqProg_ok rfl ok_eqLabelS (ok_eqSteps n).2
theorem ok_law : ∀ (H : Heap) (n : Nat) (v u : Value) (a : TProg n) (ts : List Int), Rd (Co.prog n) true (vw 0 H) v a → SlR Co.int (vw 0 H) u ts → QC fnOf 6 [v, u] H (.bool true) := lawEPL_ok rfl ok_szProg ok_toProg ok_toIntS ok_eqProg ok_eqIntS ok_sPlanLack.rd ok_iPlanLack.rd
end Go.Proofs.YtiekbdijpfnagaaI
end
section
/- The types of a program, opened. -/
set_option linter.unusedVariables false
set_option linter.unusedSimpArgs false
namespace Go.Proofs.YtiekbdijpfnagaaI
open Go Go.RowKit
theorem good_3 {T : Type} {enc : TypeId × Value → T} {w : World} {spare : Nat → Bool} {held : Bool} {n : Nat} {cs : List Value} {x : DataW T × List MemPlace} (h : DataW.trod enc Try.prog w 0 spare held n 3 cs = some x) : Good Co.int w cs := by
  obtain ⟨m, rfl, _, hw⟩ := DataW.trod_int Try.underlying3 h
  exact Good.int hw
theorem good_131 {T : Type} {enc : TypeId × Value → T} {w : World} {spare : Nat → Bool} {held : Bool} {n : Nat} {cs : List Value} {x : DataW T × List MemPlace} (h : DataW.trod enc Try.prog w 0 spare held n 131 cs = some x) : Good Co.p2 w cs := by
  obtain ⟨xs, n, rfl, rfl, hl, hlen, hf⟩ := DataW.trod_struct Try.underlying131 h
  have hn : Try.prog.cellsOf 131 = 2 := by kernel_rfl
  rw [hn] at hl
  have f0 : DataW.trod enc Try.prog w 0 spare held n 3 ((cs.drop 0).take (Try.prog.cellsOf 3)) = xs[0]? := hf 0 _ rfl
  rw [List.getElem?_eq_getElem (show 0 < xs.length by rw [hlen]; decide), show Try.prog.cellsOf 3 = 1 by kernel_rfl] at f0
  have f1 : DataW.trod enc Try.prog w 0 spare held n 3 ((cs.drop 1).take (Try.prog.cellsOf 3)) = xs[1]? := hf 1 _ rfl
  rw [List.getElem?_eq_getElem (show 1 < xs.length by rw [hlen]; decide), show Try.prog.cellsOf 3 = 1 by kernel_rfl] at f1
  have e : cs = ((cs.drop 0).take 1 ++ ((cs.drop 1).take 1)) := (cut (cs := cs) (o := 0) (s := 1)).trans (congrArg _ (cut_end (by rw [hl])))
  rw [e]
  exact ((good_3 f0).pair (good_3 f1))
theorem good_127 {T : Type} {enc : TypeId × Value → T} {w : World} {spare : Nat → Bool} {held : Bool} {n : Nat} {cs : List Value} {x : DataW T × List MemPlace} (h : DataW.trod enc Try.prog w 0 spare held n 127 cs = some x) : Good Co.val w cs := by
  obtain ⟨xs, n, rfl, rfl, hl, hlen, hf⟩ := DataW.trod_struct Try.underlying127 h
  have hn : Try.prog.cellsOf 127 = 3 := by kernel_rfl
  rw [hn] at hl
  have f0 : DataW.trod enc Try.prog w 0 spare held n 3 ((cs.drop 0).take (Try.prog.cellsOf 3)) = xs[0]? := hf 0 _ rfl
  rw [List.getElem?_eq_getElem (show 0 < xs.length by rw [hlen]; decide), show Try.prog.cellsOf 3 = 1 by kernel_rfl] at f0
  have f1 : DataW.trod enc Try.prog w 0 spare held n 3 ((cs.drop 1).take (Try.prog.cellsOf 3)) = xs[1]? := hf 1 _ rfl
  rw [List.getElem?_eq_getElem (show 1 < xs.length by rw [hlen]; decide), show Try.prog.cellsOf 3 = 1 by kernel_rfl] at f1
  have f2 : DataW.trod enc Try.prog w 0 spare held n 3 ((cs.drop 2).take (Try.prog.cellsOf 3)) = xs[2]? := hf 2 _ rfl
  rw [List.getElem?_eq_getElem (show 2 < xs.length by rw [hlen]; decide), show Try.prog.cellsOf 3 = 1 by kernel_rfl] at f2
  have e : cs = ((cs.drop 0).take 1 ++ (((cs.drop 1).take 1 ++ ((cs.drop 2).take 1)))) := (cut (cs := cs) (o := 0) (s := 1)).trans (congrArg _ ((cut (cs := cs) (o := 1) (s := 1)).trans (congrArg _ (cut_end (by rw [hl])))))
  rw [e]
  exact ((good_3 f0).pair ((good_3 f1).pair (good_3 f2)))
theorem good_27 {T : Type} {enc : TypeId × Value → T} {w : World} {spare : Nat → Bool} {held : Bool} {n : Nat} {cs : List Value} {x : DataW T × List MemPlace} (h : DataW.trod enc Try.prog w 0 spare held n 27 cs = some x) : Good (Co.sl Co.int) w cs :=
  Good.sl Try.underlying27 (by kernel_rfl) (by decide) h fun _ _ _ _ h => good_3 h
theorem good_42 {T : Type} {enc : TypeId × Value → T} {w : World} {spare : Nat → Bool} {held : Bool} {n : Nat} {cs : List Value} {x : DataW T × List MemPlace} (h : DataW.trod enc Try.prog w 0 spare held n 42 cs = some x) : Good (Co.sl Co.p2) w cs :=
  Good.sl Try.underlying42 (by kernel_rfl) (by decide) h fun _ _ _ _ h => good_131 h
theorem stepF0 {T : Type} {enc : TypeId × Value → T} {w : World} {spare : Nat → Bool} {held : Bool} : (∀ (cs : List Value) (x : DataW T × List MemPlace), DataW.trod enc Try.prog w 0 spare held (0) 129 cs = some x → Good (Co.step (dF (0))) w cs) := by
  intro cs x h
  rw [DataW.trod] at h
  cases h
theorem stepF1 {T : Type} {enc : TypeId × Value → T} {w : World} {spare : Nat → Bool} {held : Bool} : (∀ (cs : List Value) (x : DataW T × List MemPlace), DataW.trod enc Try.prog w 0 spare held (1) 129 cs = some x → Good (Co.step (dF (1))) w cs) := by
  intro cs x h
  obtain ⟨xs, n1, hn1, rfl, hl, hlen, hf⟩ := DataW.trod_struct Try.underlying129 h
  have hz : n1 = 0 := by omega
  subst hz
  have f0 : DataW.trod enc Try.prog w 0 spare held 0 3 ((cs.drop 0).take (Try.prog.cellsOf 3)) = xs[0]? := hf 0 _ rfl
  rw [List.getElem?_eq_getElem (show 0 < xs.length by rw [hlen]; decide), DataW.trod] at f0
  cases f0
theorem stepF2 {T : Type} {enc : TypeId × Value → T} {w : World} {spare : Nat → Bool} {held : Bool} {n : Nat} (ih : (∀ (cs : List Value) (x : DataW T × List MemPlace), DataW.trod enc Try.prog w 0 spare held (n) 129 cs = some x → Good (Co.step (dF (n))) w cs)) : (∀ (cs : List Value) (x : DataW T × List MemPlace), DataW.trod enc Try.prog w 0 spare held (n + 2) 129 cs = some x → Good (Co.step (dF (n + 2))) w cs) := by
  intro cs x h
  obtain ⟨xs, n1, hn1, rfl, hl, hlen, hf⟩ := DataW.trod_struct Try.underlying129 h
  have hn1' : n1 = n + 1 := by omega
  have sl43 : ∀ cs y, DataW.trod enc Try.prog w 0 spare held n1 43 cs = some y → Good (Co.sl (Co.step (dF n))) w cs := fun cs y hy =>
    Good.slF Try.underlying43 (by rw [step_w]; kernel_rfl) (by rw [step_w]; omega) hy fun n' cs' x' hn' hx' => by
      have : n' = n := by omega
      subst this
      exact ih cs' x' hx'
  have hn : Try.prog.cellsOf 129 = 8 := by kernel_rfl
  rw [hn] at hl
  have f0 : DataW.trod enc Try.prog w 0 spare held n1 3 ((cs.drop 0).take (Try.prog.cellsOf 3)) = xs[0]? := hf 0 _ rfl
  rw [List.getElem?_eq_getElem (show 0 < xs.length by rw [hlen]; decide), show Try.prog.cellsOf 3 = 1 by kernel_rfl] at f0
  have f1 : DataW.trod enc Try.prog w 0 spare held n1 3 ((cs.drop 1).take (Try.prog.cellsOf 3)) = xs[1]? := hf 1 _ rfl
  rw [List.getElem?_eq_getElem (show 1 < xs.length by rw [hlen]; decide), show Try.prog.cellsOf 3 = 1 by kernel_rfl] at f1
  have f2 : DataW.trod enc Try.prog w 0 spare held n1 127 ((cs.drop 2).take (Try.prog.cellsOf 127)) = xs[2]? := hf 2 _ rfl
  rw [List.getElem?_eq_getElem (show 2 < xs.length by rw [hlen]; decide), show Try.prog.cellsOf 127 = 3 by kernel_rfl] at f2
  have f3 : DataW.trod enc Try.prog w 0 spare held n1 3 ((cs.drop 5).take (Try.prog.cellsOf 3)) = xs[3]? := hf 3 _ rfl
  rw [List.getElem?_eq_getElem (show 3 < xs.length by rw [hlen]; decide), show Try.prog.cellsOf 3 = 1 by kernel_rfl] at f3
  have f4 : DataW.trod enc Try.prog w 0 spare held n1 43 ((cs.drop 6).take (Try.prog.cellsOf 43)) = xs[4]? := hf 4 _ rfl
  rw [List.getElem?_eq_getElem (show 4 < xs.length by rw [hlen]; decide), show Try.prog.cellsOf 43 = 1 by kernel_rfl] at f4
  have f5 : DataW.trod enc Try.prog w 0 spare held n1 43 ((cs.drop 7).take (Try.prog.cellsOf 43)) = xs[5]? := hf 5 _ rfl
  rw [List.getElem?_eq_getElem (show 5 < xs.length by rw [hlen]; decide), show Try.prog.cellsOf 43 = 1 by kernel_rfl] at f5
  have e : cs = ((cs.drop 0).take 1 ++ (((cs.drop 1).take 1 ++ (((cs.drop 2).take 3 ++ (((cs.drop 5).take 1 ++ (((cs.drop 6).take 1 ++ ((cs.drop 7).take 1)))))))))) := (cut (cs := cs) (o := 0) (s := 1)).trans (congrArg _ ((cut (cs := cs) (o := 1) (s := 1)).trans (congrArg _ ((cut (cs := cs) (o := 2) (s := 3)).trans (congrArg _ ((cut (cs := cs) (o := 5) (s := 1)).trans (congrArg _ ((cut (cs := cs) (o := 6) (s := 1)).trans (congrArg _ (cut_end (by rw [hl])))))))))))
  rw [e]
  have e8 : Good (Co.pair Co.int (Co.pair Co.int (Co.pair Co.val (Co.pair Co.int (Co.pair (Co.sl (Co.step (dF n))) (Co.sl (Co.step (dF n)))))))) w _ := ((good_3 f0).pair ((good_3 f1).pair ((good_127 f2).pair ((good_3 f3).pair ((sl43 _ _ f4).pair (sl43 _ _ f5))))))
  exact e8
theorem stepFF {T : Type} {enc : TypeId × Value → T} {w : World} {spare : Nat → Bool} {held : Bool} (n : Nat) : (∀ (cs : List Value) (x : DataW T × List MemPlace), DataW.trod enc Try.prog w 0 spare held (n) 129 cs = some x → Good (Co.step (dF (n))) w cs) ∧ (∀ (cs : List Value) (x : DataW T × List MemPlace), DataW.trod enc Try.prog w 0 spare held (n + 1) 129 cs = some x → Good (Co.step (dF (n + 1))) w cs) := by
  induction n with
  | zero => exact ⟨stepF0, stepF1⟩
  | succ n ih => exact ⟨ih.2, stepF2 ih.1⟩
theorem good_129 {T : Type} {enc : TypeId × Value → T} {w : World} {spare : Nat → Bool} {held : Bool} (n : Nat) {cs : List Value} {x : DataW T × List MemPlace} (h : DataW.trod enc Try.prog w 0 spare held n 129 cs = some x) : Good (Co.step (dF n)) w cs := (stepFF n).1 cs x h
theorem good_45 {T : Type} {enc : TypeId × Value → T} {w : World} {spare : Nat → Bool} {held : Bool} {n : Nat} {cs : List Value} {x : DataW T × List MemPlace} (h : DataW.trod enc Try.prog w 0 spare held n 45 cs = some x) : ∃ d, Good (Co.prog d) w cs := by
  obtain ⟨xs, n1, hn1, rfl, hl, hlen, hf⟩ := DataW.trod_struct Try.underlying45 h
  have hn : Try.prog.cellsOf 45 = 2 := by kernel_rfl
  rw [hn] at hl
  have f0 : DataW.trod enc Try.prog w 0 spare held n1 42 ((cs.drop 0).take (Try.prog.cellsOf 42)) = xs[0]? := hf 0 _ rfl
  rw [List.getElem?_eq_getElem (show 0 < xs.length by rw [hlen]; decide), show Try.prog.cellsOf 42 = 1 by kernel_rfl] at f0
  have f1 : DataW.trod enc Try.prog w 0 spare held n1 43 ((cs.drop 1).take (Try.prog.cellsOf 43)) = xs[1]? := hf 1 _ rfl
  rw [List.getElem?_eq_getElem (show 1 < xs.length by rw [hlen]; decide), show Try.prog.cellsOf 43 = 1 by kernel_rfl] at f1
  have e : cs = ((cs.drop 0).take 1 ++ ((cs.drop 1).take 1)) := (cut (cs := cs) (o := 0) (s := 1)).trans (congrArg _ (cut_end (by rw [hl])))
  refine ⟨dF (n1 - 1), ?_⟩
  rw [e]
  refine (good_42 f0).pair (Good.slF Try.underlying43 (by rw [step_w]; kernel_rfl) (by rw [step_w]; omega) f1 fun n' cs' x' hn' hx' => ?_)
  have : n1 - 1 = n' := by omega
  rw [this]
  exact good_129 n' hx'
theorem len_45 {T : Type} {enc : TypeId × Value → T} {w : World} {spare : Nat → Bool} {held : Bool} {n : Nat} {cs : List Value} {x : DataW T × List MemPlace} (h : DataW.trod enc Try.prog w 0 spare held n 45 cs = some x) : cs.length = 2 := by
  obtain ⟨xs, n, rfl, rfl, hl, hlen, hf⟩ := DataW.trod_struct Try.underlying45 h
  rw [hl]
  kernel_rfl
end Go.Proofs.YtiekbdijpfnagaaI
end
section
/- The law FnExactPlanLack, called in the model. -/
set_option linter.unusedVariables false
set_option linter.unusedSimpArgs false
namespace Go.Proofs.YtiekbdijpfnagaaI
open Go Go.RowKit
theorem lawEPL_calls {W : World} {c0 : Array Value} {a : Option Addr} {l c : Nat} (g0 : ∃ d, Good (Co.prog d) W c0.toList) (g1 : Good (Co.sl Co.int) W [.slice a l c]) :
    Calls Try.prog 6 #[.agg c0, .slice a l c] W fun e w' => e = .returned (.bool true) ∧ Below W.heap.size W w' := by
  obtain ⟨d, g0⟩ := g0
  obtain ⟨p, L, m, cs0, s, q, r, e⟩ := g0 [] (fun _ => none) (SL.none _)
  rw [List.nil_append] at s r
  obtain ⟨ts, L2, m2, cs1, s2, q2, r2, e2⟩ := g1 L m s
  obtain ⟨u, rfl, hu⟩ := r2
  exact law_core hF hMixed s2 (vals := [.agg cs0.toArray, u]) (All2.cons (VR.agg_mk (e.mono fun _ _ _ h => VR1.mono q2 h)) (All2.cons (VR.one_mk e2) All2.nil))
    (ok_law _ d _ _ p ts ⟨cs0, rfl, (Co.prog d).mono (vw_app 0 L L2) r⟩ hu)
end Go.Proofs.YtiekbdijpfnagaaI
end
