/- Tests of marked memory; marks and tests of flat slices. -/
import Derived.Test.YtkdhdklggdbgdaaI21
set_option linter.unusedVariables false
set_option linter.unusedSimpArgs false
namespace Go.Proofs.YtkdhdklggdbgdaaI
open Go Go.RowKit
theorem held_at {H : Heap} {b o N : Nat} {k : Int} (h : getCells H b o N = some (seqI k N)) {m : Nat} (hm : m < N) : getCells H b (o + m) 1 = some [.int .i64 (k + m)] := by
  unfold getCells at h ⊢
  split at h
  · rename_i kb hb
    split at h
    · rename_i hl
      simp only [Option.some.injEq] at h
      rw [if_pos (by omega)]
      have h1 : (kb.cells.drop (o + m)).head? = some (.int .i64 (k + m)) := by
        rw [List.head?_drop, ← seqI_at N k m hm, ← h, List.getElem?_take_of_lt hm, List.getElem?_drop]
      cases hd : kb.cells.drop (o + m) with
      | nil => rw [hd] at h1; cases h1
      | cons c r => rw [hd] at h1; simp only [List.head?_cons, Option.some.injEq] at h1; subst h1; rfl
    · cases h
  · cases h
/-- A slice's block reads numbers from one on. -/
def HeldR (H : Heap) (v : Value) (w n b o : Nat) (k : Int) : Prop := n ≤ 9223372036854775807 ∧ ∃ a, v = .slice a n n ∧ (n = 0 ∨ a = some ⟨b, o, none⟩ ∧ getCells H b o (n * w) = some (seqI k (n * w)))
theorem HeldR.mono {H H1 : Heap} {v : Value} {w n b o : Nat} {k : Int} (h : HeldR H v w n b o k) (hH : n = 0 ∨ H1[b]? = H[b]?) : HeldR H1 v w n b o k := by
  obtain ⟨h1, a, h2, h3⟩ := h
  refine ⟨h1, a, h2, ?_⟩
  rcases h3 with h3 | ⟨h3, h4⟩
  · exact .inl h3
  rcases hH with hH | hH
  · exact .inl hH
  refine .inr ⟨h3, ?_⟩
  unfold getCells at h4 ⊢
  rw [hH]
  exact h4
theorem held_mark {lo hi : Nat} {H : Heap} {v : Value} {w n b o : Nat} (h : FlatB lo hi H w v n b o) (k : Int) : HeldR (if n = 0 then H else markB H b o k (n * w)) v w n b o k := by
  obtain ⟨h1, a, h2, h3⟩ := h
  refine ⟨h1, a, h2, ?_⟩
  by_cases h0 : n = 0
  · exact .inl h0
  obtain ⟨h4, _, _, cs, es, et, ap, hb, hc⟩ := h3.resolve_left h0
  refine .inr ⟨h4, ?_⟩
  rw [if_neg h0]
  unfold getCells
  rw [markB_get hb]
  simp only [setL_length]
  rw [if_pos hc]
  congr 1
  apply List.ext_getElem?
  intro i
  by_cases hi : i < n * w
  · rw [List.getElem?_take_of_lt hi, List.getElem?_drop, setL_get _ _ _ _ (by rw [seqI_length]; exact hc), seqI_length, if_pos (by omega)]
    congr 1
    omega
  · rw [List.getElem?_take_eq_none (by omega), List.getElem?_eq_none (by rw [seqI_length]; omega)]
def HeldFlat (F : Nat → Option IFn) (w f : Nat) : Prop := ∀ (H : Heap) (v : Value) (n b o : Nat) (k : Int), HeldR H v w n b o k → 0 ≤ k → k + (n * w : Nat) ≤ 9223372036854775807 → QC F f [v, .int .i64 k] H (.int .i64 (k + (n * w : Nat)))
def HeldTurn (F : Nat → Option IFn) (w : Nat) (body : ICode) : Prop := ∀ (H : Heap) (n b o i : Nat) (k q : Int) (lo0 : Nat) (e : Env) (K : X → Env → Heap → Prop),
  getCells H b o (n * w) = some (seqI k (n * w)) → i < n → 0 ≤ k → k + (n * w : Nat) ≤ 9223372036854775807 → n ≤ 9223372036854775807 → q = k + (i * w : Nat) →
  e 0 = sli b o n → e 5 = .int .i64 i → e 1 = .int .i64 q →
  (∀ e1, e1 0 = sli b o n → e1 5 = .int .i64 i → e1 1 = .int .i64 (k + ((i + 1) * w : Nat)) → K .n e1 H) → wpc F lo0 body e H K
theorem heldFlat_ok {F : Nat → Option IFn} {f r w nt : Nat} {body : ICode} (hf : F f = some (markH r w body nt)) (hr : 12 < r) (ht : HeldTurn F w body) : HeldFlat F w f := by
  rintro H v n b o k ⟨hn, a, rfl, ha⟩ hk hkn
  refine QC.mk hf rfl ?_
  refine seq_reg ?_
  simp only [go_sem, binI_lss, binI_leq, binI_gtr, binI_geq, binI_eql, binI_neq, Nat.reduceEqDiff, Nat.reduceAdd, Nat.reduceMul, Nat.reduceSub, Nat.reduceLeDiff, Nat.reduceLT, reduceIte, reduceCtorEq]
  refine seq_assoc (seq_reg ?_)
  simp only [go_sem, binI_lss, binI_leq, binI_gtr, binI_geq, binI_eql, binI_neq, Nat.reduceEqDiff, Nat.reduceAdd, Nat.reduceMul, Nat.reduceSub, Nat.reduceLeDiff, Nat.reduceLT, reduceIte, reduceCtorEq]
  refine seq_block (wpc_loop ?_)
  have hr1 : (4 : Nat) ≠ r := by omega
  have hr2 : (1 : Nat) ≠ r := by omega
  rcases Nat.eq_zero_or_pos n with h0 | h0
  · subst h0
    refine lp_step ?_
    refine seq_assoc (seq_reg ?_)
    simp only [go_sem, binI_lss, binI_leq, binI_gtr, binI_geq, binI_eql, binI_neq, Nat.reduceEqDiff, Nat.reduceAdd, Nat.reduceMul, Nat.reduceSub, Nat.reduceLeDiff, Nat.reduceLT, reduceIte, reduceCtorEq]
    refine seq_cond (t := false) (by simp only [go_sem, binI_lss, binI_leq, binI_gtr, binI_geq, binI_eql, binI_neq, Nat.reduceEqDiff, Nat.reduceAdd, Nat.reduceMul, Nat.reduceSub, Nat.reduceLeDiff, Nat.reduceLT, reduceIte, reduceCtorEq]; rfl) ?_
    simp only [go_sem, binI_lss, binI_leq, binI_gtr, binI_geq, binI_eql, binI_neq, Nat.reduceEqDiff, Nat.reduceAdd, Nat.reduceMul, Nat.reduceSub, Nat.reduceLeDiff, Nat.reduceLT, reduceIte, reduceCtorEq]
    refine seq_exit ?_
    simp only [go_sem, binI_lss, binI_leq, binI_gtr, binI_geq, binI_eql, binI_neq, Nat.reduceEqDiff, Nat.reduceAdd, Nat.reduceMul, Nat.reduceSub, Nat.reduceLeDiff, Nat.reduceLT, reduceIte, reduceCtorEq, thenX_e, out_e, thenX_n]
    refine seq_reg ?_
    simp only [go_sem, binI_lss, binI_leq, binI_gtr, binI_geq, binI_eql, binI_neq, Nat.reduceEqDiff, Nat.reduceAdd, Nat.reduceMul, Nat.reduceSub, Nat.reduceLeDiff, Nat.reduceLT, reduceIte, reduceCtorEq]
    refine wpc_ret ⟨Or.inr rfl, _, (by simp only [go_sem, binI_lss, binI_leq, binI_gtr, binI_geq, binI_eql, binI_neq, Nat.reduceEqDiff, Nat.reduceAdd, Nat.reduceMul, Nat.reduceSub, Nat.reduceLeDiff, Nat.reduceLT, reduceIte, reduceCtorEq]; rfl), ?_, rfl⟩
    simp
  obtain ⟨rfl, hg⟩ : a = some ⟨b, o, none⟩ ∧ getCells H b o (n * w) = some (seqI k (n * w)) := ha.resolve_left (by omega)
  suffices h : ∀ (j i : Nat) (e : Env), i + j = n → e 0 = sli b o n → e 5 = .int .i64 i → e 1 = .int .i64 (k + (i * w : Nat)) → W F H.length _ e H _ from
    h n 0 (putE (putE (ini [.slice (some ⟨b, o, none⟩) n n, .int .i64 k]) (some 4) (.int .i64 0)) (some 5) (.int .i64 0)) (by omega) (by simp only [go_sem, binI_lss, binI_leq, binI_gtr, binI_geq, binI_eql, binI_neq, Nat.reduceEqDiff, Nat.reduceAdd, Nat.reduceMul, Nat.reduceSub, Nat.reduceLeDiff, Nat.reduceLT, reduceIte, reduceCtorEq]; rfl) (by simp only [go_sem, binI_lss, binI_leq, binI_gtr, binI_geq, binI_eql, binI_neq, Nat.reduceEqDiff, Nat.reduceAdd, Nat.reduceMul, Nat.reduceSub, Nat.reduceLeDiff, Nat.reduceLT, reduceIte, reduceCtorEq]; rfl) (by simp only [go_sem, binI_lss, binI_leq, binI_gtr, binI_geq, binI_eql, binI_neq, Nat.reduceEqDiff, Nat.reduceAdd, Nat.reduceMul, Nat.reduceSub, Nat.reduceLeDiff, Nat.reduceLT, reduceIte, reduceCtorEq]; simp)
  intro j
  induction j with
  | zero =>
    intro i e hi e0 e5 e1
    refine lp_step ?_
    refine seq_assoc (seq_reg ?_)
    simp only [go_sem, binI_lss, binI_leq, binI_gtr, binI_geq, binI_eql, binI_neq, Nat.reduceEqDiff, Nat.reduceAdd, Nat.reduceMul, Nat.reduceSub, Nat.reduceLeDiff, Nat.reduceLT, reduceIte, reduceCtorEq, e0, e5]
    refine seq_cond (t := false) (by simp only [go_sem, binI_lss, binI_leq, binI_gtr, binI_geq, binI_eql, binI_neq, Nat.reduceEqDiff, Nat.reduceAdd, Nat.reduceMul, Nat.reduceSub, Nat.reduceLeDiff, Nat.reduceLT, reduceIte, reduceCtorEq]; rw [decide_eq_false (by omega)]) ?_
    simp only [go_sem, binI_lss, binI_leq, binI_gtr, binI_geq, binI_eql, binI_neq, Nat.reduceEqDiff, Nat.reduceAdd, Nat.reduceMul, Nat.reduceSub, Nat.reduceLeDiff, Nat.reduceLT, reduceIte, reduceCtorEq]
    refine seq_exit ?_
    simp only [go_sem, binI_lss, binI_leq, binI_gtr, binI_geq, binI_eql, binI_neq, Nat.reduceEqDiff, Nat.reduceAdd, Nat.reduceMul, Nat.reduceSub, Nat.reduceLeDiff, Nat.reduceLT, reduceIte, reduceCtorEq, thenX_e, out_e, thenX_n]
    refine seq_reg ?_
    simp only [go_sem, binI_lss, binI_leq, binI_gtr, binI_geq, binI_eql, binI_neq, Nat.reduceEqDiff, Nat.reduceAdd, Nat.reduceMul, Nat.reduceSub, Nat.reduceLeDiff, Nat.reduceLT, reduceIte, reduceCtorEq, e1]
    obtain rfl : i = n := by omega
    refine wpc_ret ⟨Or.inr rfl, _, by simp only [go_sem, binI_lss, binI_leq, binI_gtr, binI_geq, binI_eql, binI_neq, Nat.reduceEqDiff, Nat.reduceAdd, Nat.reduceMul, Nat.reduceSub, Nat.reduceLeDiff, Nat.reduceLT, reduceIte, reduceCtorEq], rfl, rfl⟩
  | succ j ih =>
    intro i e hi e0 e5 e1
    refine lp_step ?_
    refine seq_assoc (seq_reg ?_)
    simp only [go_sem, binI_lss, binI_leq, binI_gtr, binI_geq, binI_eql, binI_neq, Nat.reduceEqDiff, Nat.reduceAdd, Nat.reduceMul, Nat.reduceSub, Nat.reduceLeDiff, Nat.reduceLT, reduceIte, reduceCtorEq, e0, e5]
    refine seq_cond (t := true) (by simp only [go_sem, binI_lss, binI_leq, binI_gtr, binI_geq, binI_eql, binI_neq, Nat.reduceEqDiff, Nat.reduceAdd, Nat.reduceMul, Nat.reduceSub, Nat.reduceLeDiff, Nat.reduceLT, reduceIte, reduceCtorEq]; rw [decide_eq_true (by omega)]) ?_
    simp only [go_sem, binI_lss, binI_leq, binI_gtr, binI_geq, binI_eql, binI_neq, Nat.reduceEqDiff, Nat.reduceAdd, Nat.reduceMul, Nat.reduceSub, Nat.reduceLeDiff, Nat.reduceLT, reduceIte, reduceCtorEq]
    refine seq_skip (seq_block ?_)
    refine ht H n b o i k _ H.length _ _ hg (by omega) hk hkn hn rfl (by simp only [go_sem, binI_lss, binI_leq, binI_gtr, binI_geq, binI_eql, binI_neq, Nat.reduceEqDiff, Nat.reduceAdd, Nat.reduceMul, Nat.reduceSub, Nat.reduceLeDiff, Nat.reduceLT, reduceIte, reduceCtorEq, e0]) (by simp only [go_sem, binI_lss, binI_leq, binI_gtr, binI_geq, binI_eql, binI_neq, Nat.reduceEqDiff, Nat.reduceAdd, Nat.reduceMul, Nat.reduceSub, Nat.reduceLeDiff, Nat.reduceLT, reduceIte, reduceCtorEq, e5]) (by simp only [go_sem, binI_lss, binI_leq, binI_gtr, binI_geq, binI_eql, binI_neq, Nat.reduceEqDiff, Nat.reduceAdd, Nat.reduceMul, Nat.reduceSub, Nat.reduceLeDiff, Nat.reduceLT, reduceIte, reduceCtorEq, e1]) ?_
    intro e2 q0 q5 q1
    simp only [go_sem, binI_lss, binI_leq, binI_gtr, binI_geq, binI_eql, binI_neq, Nat.reduceEqDiff, Nat.reduceAdd, Nat.reduceMul, Nat.reduceSub, Nat.reduceLeDiff, Nat.reduceLT, reduceIte, reduceCtorEq, out_n, thenX_n]
    refine wpc_reg ?_
    simp only [go_sem, binI_lss, binI_leq, binI_gtr, binI_geq, binI_eql, binI_neq, Nat.reduceEqDiff, Nat.reduceAdd, Nat.reduceMul, Nat.reduceSub, Nat.reduceLeDiff, Nat.reduceLT, reduceIte, reduceCtorEq, q5]
    have hw1 : IntKind.i64.wrap ((i : Int) + 1) = ((i + 1 : Nat) : Int) := by rw [wrap_id (by omega) (by omega)]; omega
    rw [hw1]
    simp only [go_sem, binI_lss, binI_leq, binI_gtr, binI_geq, binI_eql, binI_neq, Nat.reduceEqDiff, Nat.reduceAdd, Nat.reduceMul, Nat.reduceSub, Nat.reduceLeDiff, Nat.reduceLT, reduceIte, reduceCtorEq, thenX_n]
    exact ih (i + 1) _ (by omega) (by simp only [go_sem, binI_lss, binI_leq, binI_gtr, binI_geq, binI_eql, binI_neq, Nat.reduceEqDiff, Nat.reduceAdd, Nat.reduceMul, Nat.reduceSub, Nat.reduceLeDiff, Nat.reduceLT, reduceIte, reduceCtorEq, q0]) (by simp only [go_sem, binI_lss, binI_leq, binI_gtr, binI_geq, binI_eql, binI_neq, Nat.reduceEqDiff, Nat.reduceAdd, Nat.reduceMul, Nat.reduceSub, Nat.reduceLeDiff, Nat.reduceLT, reduceIte, reduceCtorEq]) (by simp only [go_sem, binI_lss, binI_leq, binI_gtr, binI_geq, binI_eql, binI_neq, Nat.reduceEqDiff, Nat.reduceAdd, Nat.reduceMul, Nat.reduceSub, Nat.reduceLeDiff, Nat.reduceLT, reduceIte, reduceCtorEq, q1])
def markT1 : ICode := (.seq (.reg none [
    ⟨(some 12), none, .mov (.t 0)⟩,
    ⟨(some 13), none, .mov (.t 5)⟩,
    ⟨(some 14), none, .mov (.t 1)⟩,
    ⟨(some 15), none, .iad 1 (.t 12) (.t 13)⟩,
    ⟨none, none, .store 1 (.t 15) (.t 14)⟩])
  (.reg none [
    ⟨(some 16), none, .mov (.t 1)⟩,
    ⟨(some 17), none, .bin .add (.t 16) (.c (.int .i64 1))⟩,
    ⟨(some 1), none, .mov (.t 17)⟩]))
theorem markT1_ok {F : Nat → Option IFn} : MarkTurn F 1 markT1 := by
  intro H n b o i k q lo0 e cs es et ap K hb hcs hi hlo hk hkn hn hq e0 e5 e1 hK
  unfold markT1
  have hin : (i + 1) * 1 ≤ n * 1 := Nat.mul_le_mul_right _ hi
  have hlen : ∀ m, (setL cs o (seqI k m)).length = cs.length := fun m => setL_length _ _ _
  refine seq_reg ?_
  simp only [go_sem, binI_lss, binI_leq, binI_gtr, binI_geq, binI_eql, binI_neq, Nat.reduceEqDiff, Nat.reduceAdd, Nat.reduceMul, Nat.reduceSub, Nat.reduceLeDiff, Nat.reduceLT, reduceIte, reduceCtorEq, e0, e5, e1, markB_get hb, hlen]
  refine ⟨⟨by omega, by omega⟩, ⟨by omega, by omega⟩, ?_⟩
  rw [markB_step hb (i * 1) (by omega) (by omega)]
  refine wpc_reg ?_
  simp only [go_sem, binI_lss, binI_leq, binI_gtr, binI_geq, binI_eql, binI_neq, Nat.reduceEqDiff, Nat.reduceAdd, Nat.reduceMul, Nat.reduceSub, Nat.reduceLeDiff, Nat.reduceLT, reduceIte, reduceCtorEq, e1]
  rw [wrap_id (x := q + 1) (by omega) (by omega)]
  rw [show i * 1 + 1 = (i + 1) * 1 by omega]
  refine hK _ (by simp only [go_sem, binI_lss, binI_leq, binI_gtr, binI_geq, binI_eql, binI_neq, Nat.reduceEqDiff, Nat.reduceAdd, Nat.reduceMul, Nat.reduceSub, Nat.reduceLeDiff, Nat.reduceLT, reduceIte, reduceCtorEq, e0]) (by simp only [go_sem, binI_lss, binI_leq, binI_gtr, binI_geq, binI_eql, binI_neq, Nat.reduceEqDiff, Nat.reduceAdd, Nat.reduceMul, Nat.reduceSub, Nat.reduceLeDiff, Nat.reduceLT, reduceIte, reduceCtorEq, e5]) ?_
  simp only [go_sem, binI_lss, binI_leq, binI_gtr, binI_geq, binI_eql, binI_neq, Nat.reduceEqDiff, Nat.reduceAdd, Nat.reduceMul, Nat.reduceSub, Nat.reduceLeDiff, Nat.reduceLT, reduceIte, reduceCtorEq]
  congr 1
  omega
def c_mark1 : IFn := markH 18 1 markT1 19
theorem mark1_ok {F : Nat → Option IFn} {f : Nat} (hf : F f = some c_mark1) : MarkFlat F 1 f := markFlat_ok hf (by omega) markT1_ok
def heldT1 : ICode := (.seq (.seq (.reg none [
    ⟨(some 12), none, .mov (.t 0)⟩,
    ⟨(some 13), none, .mov (.t 5)⟩,
    ⟨(some 14), none, .iad 1 (.t 12) (.t 13)⟩,
    ⟨(some 15), none, .load false 1 (.t 14)⟩,
    ⟨(some 16), none, .mov (.t 1)⟩,
    ⟨(some 17), none, .bin .neq (.t 15) (.t 16)⟩])
   (.cond (.t 17) (.seq (.reg none [
    ⟨(some 4), none, .mov (.c (.int .i64 (-1)))⟩])
    (.ret)) (.skip)))
  (.reg none [
    ⟨(some 18), none, .mov (.t 1)⟩,
    ⟨(some 19), none, .bin .add (.t 18) (.c (.int .i64 1))⟩,
    ⟨(some 1), none, .mov (.t 19)⟩]))
theorem heldT1_ok {F : Nat → Option IFn} : HeldTurn F 1 heldT1 := by
  intro H n b o i k q lo0 e K hg hi hk hkn hn hq e0 e5 e1 hK
  unfold heldT1
  have hin : (i + 1) * 1 ≤ n * 1 := Nat.mul_le_mul_right _ hi
  have g0 : getCells H b (o + i * 1) 1 = some [.int .i64 (q)] := by
    have := held_at hg (m := i * 1) (by omega)
    rw [show o + i * 1 = o + (i * 1) by omega, this, show k + ((i * 1 : Nat) : Int) = q by omega]
  refine seq_assoc (seq_reg ?_)
  simp only [go_sem, binI_lss, binI_leq, binI_gtr, binI_geq, binI_eql, binI_neq, Nat.reduceEqDiff, Nat.reduceAdd, Nat.reduceMul, Nat.reduceSub, Nat.reduceLeDiff, Nat.reduceLT, reduceIte, reduceCtorEq, e0, e5, e1, g0, bne_self_eq_false]
  refine ⟨⟨by omega, by omega⟩, ?_⟩
  refine seq_cond (t := false) (by simp only [go_sem, binI_lss, binI_leq, binI_gtr, binI_geq, binI_eql, binI_neq, Nat.reduceEqDiff, Nat.reduceAdd, Nat.reduceMul, Nat.reduceSub, Nat.reduceLeDiff, Nat.reduceLT, reduceIte, reduceCtorEq]) ?_
  simp only [go_sem, binI_lss, binI_leq, binI_gtr, binI_geq, binI_eql, binI_neq, Nat.reduceEqDiff, Nat.reduceAdd, Nat.reduceMul, Nat.reduceSub, Nat.reduceLeDiff, Nat.reduceLT, reduceIte, reduceCtorEq]
  refine seq_skip ?_
  refine wpc_reg ?_
  simp only [go_sem, binI_lss, binI_leq, binI_gtr, binI_geq, binI_eql, binI_neq, Nat.reduceEqDiff, Nat.reduceAdd, Nat.reduceMul, Nat.reduceSub, Nat.reduceLeDiff, Nat.reduceLT, reduceIte, reduceCtorEq, e1]
  rw [wrap_id (x := q + 1) (by omega) (by omega)]
  refine hK _ (by simp only [go_sem, binI_lss, binI_leq, binI_gtr, binI_geq, binI_eql, binI_neq, Nat.reduceEqDiff, Nat.reduceAdd, Nat.reduceMul, Nat.reduceSub, Nat.reduceLeDiff, Nat.reduceLT, reduceIte, reduceCtorEq, e0]) (by simp only [go_sem, binI_lss, binI_leq, binI_gtr, binI_geq, binI_eql, binI_neq, Nat.reduceEqDiff, Nat.reduceAdd, Nat.reduceMul, Nat.reduceSub, Nat.reduceLeDiff, Nat.reduceLT, reduceIte, reduceCtorEq, e5]) ?_
  simp only [go_sem, binI_lss, binI_leq, binI_gtr, binI_geq, binI_eql, binI_neq, Nat.reduceEqDiff, Nat.reduceAdd, Nat.reduceMul, Nat.reduceSub, Nat.reduceLeDiff, Nat.reduceLT, reduceIte, reduceCtorEq]
  congr 1
  omega
def c_held1 : IFn := markH 20 1 heldT1 21
theorem held1_ok {F : Nat → Option IFn} {f : Nat} (hf : F f = some c_held1) : HeldFlat F 1 f := heldFlat_ok hf (by omega) heldT1_ok

def markT2 : ICode := (.seq (.reg none [
    ⟨(some 12), none, .mov (.t 0)⟩,
    ⟨(some 13), none, .mov (.t 5)⟩,
    ⟨(some 14), none, .mov (.t 1)⟩,
    ⟨(some 15), none, .iad 2 (.t 12) (.t 13)⟩,
    ⟨(some 16), none, .fad 0 (.t 15)⟩,
    ⟨none, none, .store 1 (.t 16) (.t 14)⟩])
  (.seq (.reg none [
    ⟨(some 17), none, .mov (.t 1)⟩,
    ⟨(some 18), none, .bin .add (.t 17) (.c (.int .i64 1))⟩,
    ⟨(some 1), none, .mov (.t 18)⟩])
  (.seq (.reg none [
    ⟨(some 19), none, .mov (.t 0)⟩,
    ⟨(some 20), none, .mov (.t 5)⟩,
    ⟨(some 21), none, .mov (.t 1)⟩,
    ⟨(some 22), none, .iad 2 (.t 19) (.t 20)⟩,
    ⟨(some 23), none, .fad 1 (.t 22)⟩,
    ⟨none, none, .store 1 (.t 23) (.t 21)⟩])
  (.reg none [
    ⟨(some 24), none, .mov (.t 1)⟩,
    ⟨(some 25), none, .bin .add (.t 24) (.c (.int .i64 1))⟩,
    ⟨(some 1), none, .mov (.t 25)⟩]))))
theorem markT2_ok {F : Nat → Option IFn} : MarkTurn F 2 markT2 := by
  intro H n b o i k q lo0 e cs es et ap K hb hcs hi hlo hk hkn hn hq e0 e5 e1 hK
  unfold markT2
  have hin : (i + 1) * 2 ≤ n * 2 := Nat.mul_le_mul_right _ hi
  have hlen : ∀ m, (setL cs o (seqI k m)).length = cs.length := fun m => setL_length _ _ _
  refine seq_reg ?_
  simp only [go_sem, binI_lss, binI_leq, binI_gtr, binI_geq, binI_eql, binI_neq, Nat.reduceEqDiff, Nat.reduceAdd, Nat.reduceMul, Nat.reduceSub, Nat.reduceLeDiff, Nat.reduceLT, reduceIte, reduceCtorEq, e0, e5, e1, markB_get hb, hlen]
  refine ⟨⟨by omega, by omega⟩, ⟨by omega, by omega⟩, ?_⟩
  rw [markB_step hb (i * 2) (by omega) (by omega)]
  refine seq_reg ?_
  simp only [go_sem, binI_lss, binI_leq, binI_gtr, binI_geq, binI_eql, binI_neq, Nat.reduceEqDiff, Nat.reduceAdd, Nat.reduceMul, Nat.reduceSub, Nat.reduceLeDiff, Nat.reduceLT, reduceIte, reduceCtorEq, e1]
  rw [wrap_id (x := q + 1) (by omega) (by omega)]
  refine seq_reg ?_
  simp only [go_sem, binI_lss, binI_leq, binI_gtr, binI_geq, binI_eql, binI_neq, Nat.reduceEqDiff, Nat.reduceAdd, Nat.reduceMul, Nat.reduceSub, Nat.reduceLeDiff, Nat.reduceLT, reduceIte, reduceCtorEq, e0, e5, e1, markB_get hb, hlen]
  refine ⟨⟨by omega, by omega⟩, ⟨by omega, by omega⟩, ?_⟩
  rw [markB_step hb (i * 2 + 1) (by omega) (by omega)]
  refine wpc_reg ?_
  simp only [go_sem, binI_lss, binI_leq, binI_gtr, binI_geq, binI_eql, binI_neq, Nat.reduceEqDiff, Nat.reduceAdd, Nat.reduceMul, Nat.reduceSub, Nat.reduceLeDiff, Nat.reduceLT, reduceIte, reduceCtorEq, e1]
  rw [wrap_id (x := (q + 1) + 1) (by omega) (by omega)]
  rw [show i * 2 + 2 = (i + 1) * 2 by omega]
  refine hK _ (by simp only [go_sem, binI_lss, binI_leq, binI_gtr, binI_geq, binI_eql, binI_neq, Nat.reduceEqDiff, Nat.reduceAdd, Nat.reduceMul, Nat.reduceSub, Nat.reduceLeDiff, Nat.reduceLT, reduceIte, reduceCtorEq, e0]) (by simp only [go_sem, binI_lss, binI_leq, binI_gtr, binI_geq, binI_eql, binI_neq, Nat.reduceEqDiff, Nat.reduceAdd, Nat.reduceMul, Nat.reduceSub, Nat.reduceLeDiff, Nat.reduceLT, reduceIte, reduceCtorEq, e5]) ?_
  simp only [go_sem, binI_lss, binI_leq, binI_gtr, binI_geq, binI_eql, binI_neq, Nat.reduceEqDiff, Nat.reduceAdd, Nat.reduceMul, Nat.reduceSub, Nat.reduceLeDiff, Nat.reduceLT, reduceIte, reduceCtorEq]
  congr 1
  omega
def c_mark2 : IFn := markH 26 2 markT2 27
theorem mark2_ok {F : Nat → Option IFn} {f : Nat} (hf : F f = some c_mark2) : MarkFlat F 2 f := markFlat_ok hf (by omega) markT2_ok
def heldT2 : ICode := (.seq (.seq (.reg none [
    ⟨(some 12), none, .mov (.t 0)⟩,
    ⟨(some 13), none, .mov (.t 5)⟩,
    ⟨(some 14), none, .iad 2 (.t 12) (.t 13)⟩,
    ⟨(some 15), none, .fad 0 (.t 14)⟩,
    ⟨(some 16), none, .load false 1 (.t 15)⟩,
    ⟨(some 17), none, .mov (.t 1)⟩,
    ⟨(some 18), none, .bin .neq (.t 16) (.t 17)⟩])
   (.cond (.t 18) (.seq (.reg none [
    ⟨(some 4), none, .mov (.c (.int .i64 (-1)))⟩])
    (.ret)) (.skip)))
  (.seq (.reg none [
    ⟨(some 19), none, .mov (.t 1)⟩,
    ⟨(some 20), none, .bin .add (.t 19) (.c (.int .i64 1))⟩,
    ⟨(some 1), none, .mov (.t 20)⟩])
  (.seq (.seq (.reg none [
    ⟨(some 21), none, .mov (.t 0)⟩,
    ⟨(some 22), none, .mov (.t 5)⟩,
    ⟨(some 23), none, .iad 2 (.t 21) (.t 22)⟩,
    ⟨(some 24), none, .fad 1 (.t 23)⟩,
    ⟨(some 25), none, .load false 1 (.t 24)⟩,
    ⟨(some 26), none, .mov (.t 1)⟩,
    ⟨(some 27), none, .bin .neq (.t 25) (.t 26)⟩])
   (.cond (.t 27) (.seq (.reg none [
    ⟨(some 4), none, .mov (.c (.int .i64 (-1)))⟩])
    (.ret)) (.skip)))
  (.reg none [
    ⟨(some 28), none, .mov (.t 1)⟩,
    ⟨(some 29), none, .bin .add (.t 28) (.c (.int .i64 1))⟩,
    ⟨(some 1), none, .mov (.t 29)⟩]))))
theorem heldT2_ok {F : Nat → Option IFn} : HeldTurn F 2 heldT2 := by
  intro H n b o i k q lo0 e K hg hi hk hkn hn hq e0 e5 e1 hK
  unfold heldT2
  have hin : (i + 1) * 2 ≤ n * 2 := Nat.mul_le_mul_right _ hi
  have g0 : getCells H b (o + i * 2) 1 = some [.int .i64 (q)] := by
    have := held_at hg (m := i * 2) (by omega)
    rw [show o + i * 2 = o + (i * 2) by omega, this, show k + ((i * 2 : Nat) : Int) = q by omega]
  refine seq_assoc (seq_reg ?_)
  simp only [go_sem, binI_lss, binI_leq, binI_gtr, binI_geq, binI_eql, binI_neq, Nat.reduceEqDiff, Nat.reduceAdd, Nat.reduceMul, Nat.reduceSub, Nat.reduceLeDiff, Nat.reduceLT, reduceIte, reduceCtorEq, e0, e5, e1, g0, bne_self_eq_false]
  refine ⟨⟨by omega, by omega⟩, ?_⟩
  refine seq_cond (t := false) (by simp only [go_sem, binI_lss, binI_leq, binI_gtr, binI_geq, binI_eql, binI_neq, Nat.reduceEqDiff, Nat.reduceAdd, Nat.reduceMul, Nat.reduceSub, Nat.reduceLeDiff, Nat.reduceLT, reduceIte, reduceCtorEq]) ?_
  simp only [go_sem, binI_lss, binI_leq, binI_gtr, binI_geq, binI_eql, binI_neq, Nat.reduceEqDiff, Nat.reduceAdd, Nat.reduceMul, Nat.reduceSub, Nat.reduceLeDiff, Nat.reduceLT, reduceIte, reduceCtorEq]
  refine seq_skip ?_
  refine seq_reg ?_
  simp only [go_sem, binI_lss, binI_leq, binI_gtr, binI_geq, binI_eql, binI_neq, Nat.reduceEqDiff, Nat.reduceAdd, Nat.reduceMul, Nat.reduceSub, Nat.reduceLeDiff, Nat.reduceLT, reduceIte, reduceCtorEq, e1]
  rw [wrap_id (x := q + 1) (by omega) (by omega)]
  have g1 : getCells H b (o + i * 2 + 1) 1 = some [.int .i64 (q + 1)] := by
    have := held_at hg (m := i * 2 + 1) (by omega)
    rw [show o + i * 2 + 1 = o + (i * 2 + 1) by omega, this, show k + ((i * 2 + 1 : Nat) : Int) = q + 1 by omega]
  refine seq_assoc (seq_reg ?_)
  simp only [go_sem, binI_lss, binI_leq, binI_gtr, binI_geq, binI_eql, binI_neq, Nat.reduceEqDiff, Nat.reduceAdd, Nat.reduceMul, Nat.reduceSub, Nat.reduceLeDiff, Nat.reduceLT, reduceIte, reduceCtorEq, e0, e5, e1, g1, bne_self_eq_false]
  refine ⟨⟨by omega, by omega⟩, ?_⟩
  refine seq_cond (t := false) (by simp only [go_sem, binI_lss, binI_leq, binI_gtr, binI_geq, binI_eql, binI_neq, Nat.reduceEqDiff, Nat.reduceAdd, Nat.reduceMul, Nat.reduceSub, Nat.reduceLeDiff, Nat.reduceLT, reduceIte, reduceCtorEq]) ?_
  simp only [go_sem, binI_lss, binI_leq, binI_gtr, binI_geq, binI_eql, binI_neq, Nat.reduceEqDiff, Nat.reduceAdd, Nat.reduceMul, Nat.reduceSub, Nat.reduceLeDiff, Nat.reduceLT, reduceIte, reduceCtorEq]
  refine seq_skip ?_
  refine wpc_reg ?_
  simp only [go_sem, binI_lss, binI_leq, binI_gtr, binI_geq, binI_eql, binI_neq, Nat.reduceEqDiff, Nat.reduceAdd, Nat.reduceMul, Nat.reduceSub, Nat.reduceLeDiff, Nat.reduceLT, reduceIte, reduceCtorEq, e1]
  rw [wrap_id (x := (q + 1) + 1) (by omega) (by omega)]
  refine hK _ (by simp only [go_sem, binI_lss, binI_leq, binI_gtr, binI_geq, binI_eql, binI_neq, Nat.reduceEqDiff, Nat.reduceAdd, Nat.reduceMul, Nat.reduceSub, Nat.reduceLeDiff, Nat.reduceLT, reduceIte, reduceCtorEq, e0]) (by simp only [go_sem, binI_lss, binI_leq, binI_gtr, binI_geq, binI_eql, binI_neq, Nat.reduceEqDiff, Nat.reduceAdd, Nat.reduceMul, Nat.reduceSub, Nat.reduceLeDiff, Nat.reduceLT, reduceIte, reduceCtorEq, e5]) ?_
  simp only [go_sem, binI_lss, binI_leq, binI_gtr, binI_geq, binI_eql, binI_neq, Nat.reduceEqDiff, Nat.reduceAdd, Nat.reduceMul, Nat.reduceSub, Nat.reduceLeDiff, Nat.reduceLT, reduceIte, reduceCtorEq]
  congr 1
  omega
def c_held2 : IFn := markH 30 2 heldT2 31
theorem held2_ok {F : Nat → Option IFn} {f : Nat} (hf : F f = some c_held2) : HeldFlat F 2 f := heldFlat_ok hf (by omega) heldT2_ok

def markT7 : ICode := (.seq (.reg none [
    ⟨(some 12), none, .mov (.t 0)⟩,
    ⟨(some 13), none, .mov (.t 5)⟩,
    ⟨(some 14), none, .mov (.t 1)⟩,
    ⟨(some 15), none, .iad 7 (.t 12) (.t 13)⟩,
    ⟨(some 16), none, .fad 0 (.t 15)⟩,
    ⟨none, none, .store 1 (.t 16) (.t 14)⟩])
  (.seq (.reg none [
    ⟨(some 17), none, .mov (.t 1)⟩,
    ⟨(some 18), none, .bin .add (.t 17) (.c (.int .i64 1))⟩,
    ⟨(some 1), none, .mov (.t 18)⟩])
  (.seq (.reg none [
    ⟨(some 19), none, .mov (.t 0)⟩,
    ⟨(some 20), none, .mov (.t 5)⟩,
    ⟨(some 21), none, .mov (.t 1)⟩,
    ⟨(some 22), none, .iad 7 (.t 19) (.t 20)⟩,
    ⟨(some 23), none, .fad 1 (.t 22)⟩,
    ⟨none, none, .store 1 (.t 23) (.t 21)⟩])
  (.seq (.reg none [
    ⟨(some 24), none, .mov (.t 1)⟩,
    ⟨(some 25), none, .bin .add (.t 24) (.c (.int .i64 1))⟩,
    ⟨(some 1), none, .mov (.t 25)⟩])
  (.seq (.reg none [
    ⟨(some 26), none, .mov (.t 0)⟩,
    ⟨(some 27), none, .mov (.t 5)⟩,
    ⟨(some 28), none, .mov (.t 1)⟩,
    ⟨(some 29), none, .iad 7 (.t 26) (.t 27)⟩,
    ⟨(some 30), none, .fad 2 (.t 29)⟩,
    ⟨none, none, .store 1 (.t 30) (.t 28)⟩])
  (.seq (.reg none [
    ⟨(some 31), none, .mov (.t 1)⟩,
    ⟨(some 32), none, .bin .add (.t 31) (.c (.int .i64 1))⟩,
    ⟨(some 1), none, .mov (.t 32)⟩])
  (.seq (.reg none [
    ⟨(some 33), none, .mov (.t 0)⟩,
    ⟨(some 34), none, .mov (.t 5)⟩,
    ⟨(some 35), none, .mov (.t 1)⟩,
    ⟨(some 36), none, .iad 7 (.t 33) (.t 34)⟩,
    ⟨(some 37), none, .fad 3 (.t 36)⟩,
    ⟨none, none, .store 1 (.t 37) (.t 35)⟩])
  (.seq (.reg none [
    ⟨(some 38), none, .mov (.t 1)⟩,
    ⟨(some 39), none, .bin .add (.t 38) (.c (.int .i64 1))⟩,
    ⟨(some 1), none, .mov (.t 39)⟩])
  (.seq (.reg none [
    ⟨(some 40), none, .mov (.t 0)⟩,
    ⟨(some 41), none, .mov (.t 5)⟩,
    ⟨(some 42), none, .mov (.t 1)⟩,
    ⟨(some 43), none, .iad 7 (.t 40) (.t 41)⟩,
    ⟨(some 44), none, .fad 4 (.t 43)⟩,
    ⟨none, none, .store 1 (.t 44) (.t 42)⟩])
  (.seq (.reg none [
    ⟨(some 45), none, .mov (.t 1)⟩,
    ⟨(some 46), none, .bin .add (.t 45) (.c (.int .i64 1))⟩,
    ⟨(some 1), none, .mov (.t 46)⟩])
  (.seq (.reg none [
    ⟨(some 47), none, .mov (.t 0)⟩,
    ⟨(some 48), none, .mov (.t 5)⟩,
    ⟨(some 49), none, .mov (.t 1)⟩,
    ⟨(some 50), none, .iad 7 (.t 47) (.t 48)⟩,
    ⟨(some 51), none, .fad 5 (.t 50)⟩,
    ⟨none, none, .store 1 (.t 51) (.t 49)⟩])
  (.seq (.reg none [
    ⟨(some 52), none, .mov (.t 1)⟩,
    ⟨(some 53), none, .bin .add (.t 52) (.c (.int .i64 1))⟩,
    ⟨(some 1), none, .mov (.t 53)⟩])
  (.seq (.reg none [
    ⟨(some 54), none, .mov (.t 0)⟩,
    ⟨(some 55), none, .mov (.t 5)⟩,
    ⟨(some 56), none, .mov (.t 1)⟩,
    ⟨(some 57), none, .iad 7 (.t 54) (.t 55)⟩,
    ⟨(some 58), none, .fad 6 (.t 57)⟩,
    ⟨none, none, .store 1 (.t 58) (.t 56)⟩])
  (.reg none [
    ⟨(some 59), none, .mov (.t 1)⟩,
    ⟨(some 60), none, .bin .add (.t 59) (.c (.int .i64 1))⟩,
    ⟨(some 1), none, .mov (.t 60)⟩]))))))))))))))
theorem markT7_ok {F : Nat → Option IFn} : MarkTurn F 7 markT7 := by
  intro H n b o i k q lo0 e cs es et ap K hb hcs hi hlo hk hkn hn hq e0 e5 e1 hK
  unfold markT7
  have hin : (i + 1) * 7 ≤ n * 7 := Nat.mul_le_mul_right _ hi
  have hlen : ∀ m, (setL cs o (seqI k m)).length = cs.length := fun m => setL_length _ _ _
  refine seq_reg ?_
  simp only [go_sem, binI_lss, binI_leq, binI_gtr, binI_geq, binI_eql, binI_neq, Nat.reduceEqDiff, Nat.reduceAdd, Nat.reduceMul, Nat.reduceSub, Nat.reduceLeDiff, Nat.reduceLT, reduceIte, reduceCtorEq, e0, e5, e1, markB_get hb, hlen]
  refine ⟨⟨by omega, by omega⟩, ⟨by omega, by omega⟩, ?_⟩
  rw [markB_step hb (i * 7) (by omega) (by omega)]
  refine seq_reg ?_
  simp only [go_sem, binI_lss, binI_leq, binI_gtr, binI_geq, binI_eql, binI_neq, Nat.reduceEqDiff, Nat.reduceAdd, Nat.reduceMul, Nat.reduceSub, Nat.reduceLeDiff, Nat.reduceLT, reduceIte, reduceCtorEq, e1]
  rw [wrap_id (x := q + 1) (by omega) (by omega)]
  refine seq_reg ?_
  simp only [go_sem, binI_lss, binI_leq, binI_gtr, binI_geq, binI_eql, binI_neq, Nat.reduceEqDiff, Nat.reduceAdd, Nat.reduceMul, Nat.reduceSub, Nat.reduceLeDiff, Nat.reduceLT, reduceIte, reduceCtorEq, e0, e5, e1, markB_get hb, hlen]
  refine ⟨⟨by omega, by omega⟩, ⟨by omega, by omega⟩, ?_⟩
  rw [markB_step hb (i * 7 + 1) (by omega) (by omega)]
  refine seq_reg ?_
  simp only [go_sem, binI_lss, binI_leq, binI_gtr, binI_geq, binI_eql, binI_neq, Nat.reduceEqDiff, Nat.reduceAdd, Nat.reduceMul, Nat.reduceSub, Nat.reduceLeDiff, Nat.reduceLT, reduceIte, reduceCtorEq, e1]
  rw [wrap_id (x := (q + 1) + 1) (by omega) (by omega)]
  refine seq_reg ?_
  simp only [go_sem, binI_lss, binI_leq, binI_gtr, binI_geq, binI_eql, binI_neq, Nat.reduceEqDiff, Nat.reduceAdd, Nat.reduceMul, Nat.reduceSub, Nat.reduceLeDiff, Nat.reduceLT, reduceIte, reduceCtorEq, e0, e5, e1, markB_get hb, hlen]
  refine ⟨⟨by omega, by omega⟩, ⟨by omega, by omega⟩, ?_⟩
  rw [markB_step hb (i * 7 + 2) (by omega) (by omega)]
  refine seq_reg ?_
  simp only [go_sem, binI_lss, binI_leq, binI_gtr, binI_geq, binI_eql, binI_neq, Nat.reduceEqDiff, Nat.reduceAdd, Nat.reduceMul, Nat.reduceSub, Nat.reduceLeDiff, Nat.reduceLT, reduceIte, reduceCtorEq, e1]
  rw [wrap_id (x := ((q + 1) + 1) + 1) (by omega) (by omega)]
  refine seq_reg ?_
  simp only [go_sem, binI_lss, binI_leq, binI_gtr, binI_geq, binI_eql, binI_neq, Nat.reduceEqDiff, Nat.reduceAdd, Nat.reduceMul, Nat.reduceSub, Nat.reduceLeDiff, Nat.reduceLT, reduceIte, reduceCtorEq, e0, e5, e1, markB_get hb, hlen]
  refine ⟨⟨by omega, by omega⟩, ⟨by omega, by omega⟩, ?_⟩
  rw [markB_step hb (i * 7 + 3) (by omega) (by omega)]
  refine seq_reg ?_
  simp only [go_sem, binI_lss, binI_leq, binI_gtr, binI_geq, binI_eql, binI_neq, Nat.reduceEqDiff, Nat.reduceAdd, Nat.reduceMul, Nat.reduceSub, Nat.reduceLeDiff, Nat.reduceLT, reduceIte, reduceCtorEq, e1]
  rw [wrap_id (x := (((q + 1) + 1) + 1) + 1) (by omega) (by omega)]
  refine seq_reg ?_
  simp only [go_sem, binI_lss, binI_leq, binI_gtr, binI_geq, binI_eql, binI_neq, Nat.reduceEqDiff, Nat.reduceAdd, Nat.reduceMul, Nat.reduceSub, Nat.reduceLeDiff, Nat.reduceLT, reduceIte, reduceCtorEq, e0, e5, e1, markB_get hb, hlen]
  refine ⟨⟨by omega, by omega⟩, ⟨by omega, by omega⟩, ?_⟩
  rw [markB_step hb (i * 7 + 4) (by omega) (by omega)]
  refine seq_reg ?_
  simp only [go_sem, binI_lss, binI_leq, binI_gtr, binI_geq, binI_eql, binI_neq, Nat.reduceEqDiff, Nat.reduceAdd, Nat.reduceMul, Nat.reduceSub, Nat.reduceLeDiff, Nat.reduceLT, reduceIte, reduceCtorEq, e1]
  rw [wrap_id (x := ((((q + 1) + 1) + 1) + 1) + 1) (by omega) (by omega)]
  refine seq_reg ?_
  simp only [go_sem, binI_lss, binI_leq, binI_gtr, binI_geq, binI_eql, binI_neq, Nat.reduceEqDiff, Nat.reduceAdd, Nat.reduceMul, Nat.reduceSub, Nat.reduceLeDiff, Nat.reduceLT, reduceIte, reduceCtorEq, e0, e5, e1, markB_get hb, hlen]
  refine ⟨⟨by omega, by omega⟩, ⟨by omega, by omega⟩, ?_⟩
  rw [markB_step hb (i * 7 + 5) (by omega) (by omega)]
  refine seq_reg ?_
  simp only [go_sem, binI_lss, binI_leq, binI_gtr, binI_geq, binI_eql, binI_neq, Nat.reduceEqDiff, Nat.reduceAdd, Nat.reduceMul, Nat.reduceSub, Nat.reduceLeDiff, Nat.reduceLT, reduceIte, reduceCtorEq, e1]
  rw [wrap_id (x := (((((q + 1) + 1) + 1) + 1) + 1) + 1) (by omega) (by omega)]
  refine seq_reg ?_
  simp only [go_sem, binI_lss, binI_leq, binI_gtr, binI_geq, binI_eql, binI_neq, Nat.reduceEqDiff, Nat.reduceAdd, Nat.reduceMul, Nat.reduceSub, Nat.reduceLeDiff, Nat.reduceLT, reduceIte, reduceCtorEq, e0, e5, e1, markB_get hb, hlen]
  refine ⟨⟨by omega, by omega⟩, ⟨by omega, by omega⟩, ?_⟩
  rw [markB_step hb (i * 7 + 6) (by omega) (by omega)]
  refine wpc_reg ?_
  simp only [go_sem, binI_lss, binI_leq, binI_gtr, binI_geq, binI_eql, binI_neq, Nat.reduceEqDiff, Nat.reduceAdd, Nat.reduceMul, Nat.reduceSub, Nat.reduceLeDiff, Nat.reduceLT, reduceIte, reduceCtorEq, e1]
  rw [wrap_id (x := ((((((q + 1) + 1) + 1) + 1) + 1) + 1) + 1) (by omega) (by omega)]
  rw [show i * 7 + 7 = (i + 1) * 7 by omega]
  refine hK _ (by simp only [go_sem, binI_lss, binI_leq, binI_gtr, binI_geq, binI_eql, binI_neq, Nat.reduceEqDiff, Nat.reduceAdd, Nat.reduceMul, Nat.reduceSub, Nat.reduceLeDiff, Nat.reduceLT, reduceIte, reduceCtorEq, e0]) (by simp only [go_sem, binI_lss, binI_leq, binI_gtr, binI_geq, binI_eql, binI_neq, Nat.reduceEqDiff, Nat.reduceAdd, Nat.reduceMul, Nat.reduceSub, Nat.reduceLeDiff, Nat.reduceLT, reduceIte, reduceCtorEq, e5]) ?_
  simp only [go_sem, binI_lss, binI_leq, binI_gtr, binI_geq, binI_eql, binI_neq, Nat.reduceEqDiff, Nat.reduceAdd, Nat.reduceMul, Nat.reduceSub, Nat.reduceLeDiff, Nat.reduceLT, reduceIte, reduceCtorEq]
  congr 1
  omega
def c_mark7 : IFn := markH 61 7 markT7 62
theorem mark7_ok {F : Nat → Option IFn} {f : Nat} (hf : F f = some c_mark7) : MarkFlat F 7 f := markFlat_ok hf (by omega) markT7_ok
def heldT7 : ICode := (.seq (.seq (.reg none [
    ⟨(some 12), none, .mov (.t 0)⟩,
    ⟨(some 13), none, .mov (.t 5)⟩,
    ⟨(some 14), none, .iad 7 (.t 12) (.t 13)⟩,
    ⟨(some 15), none, .fad 0 (.t 14)⟩,
    ⟨(some 16), none, .load false 1 (.t 15)⟩,
    ⟨(some 17), none, .mov (.t 1)⟩,
    ⟨(some 18), none, .bin .neq (.t 16) (.t 17)⟩])
   (.cond (.t 18) (.seq (.reg none [
    ⟨(some 4), none, .mov (.c (.int .i64 (-1)))⟩])
    (.ret)) (.skip)))
  (.seq (.reg none [
    ⟨(some 19), none, .mov (.t 1)⟩,
    ⟨(some 20), none, .bin .add (.t 19) (.c (.int .i64 1))⟩,
    ⟨(some 1), none, .mov (.t 20)⟩])
  (.seq (.seq (.reg none [
    ⟨(some 21), none, .mov (.t 0)⟩,
    ⟨(some 22), none, .mov (.t 5)⟩,
    ⟨(some 23), none, .iad 7 (.t 21) (.t 22)⟩,
    ⟨(some 24), none, .fad 1 (.t 23)⟩,
    ⟨(some 25), none, .load false 1 (.t 24)⟩,
    ⟨(some 26), none, .mov (.t 1)⟩,
    ⟨(some 27), none, .bin .neq (.t 25) (.t 26)⟩])
   (.cond (.t 27) (.seq (.reg none [
    ⟨(some 4), none, .mov (.c (.int .i64 (-1)))⟩])
    (.ret)) (.skip)))
  (.seq (.reg none [
    ⟨(some 28), none, .mov (.t 1)⟩,
    ⟨(some 29), none, .bin .add (.t 28) (.c (.int .i64 1))⟩,
    ⟨(some 1), none, .mov (.t 29)⟩])
  (.seq (.seq (.reg none [
    ⟨(some 30), none, .mov (.t 0)⟩,
    ⟨(some 31), none, .mov (.t 5)⟩,
    ⟨(some 32), none, .iad 7 (.t 30) (.t 31)⟩,
    ⟨(some 33), none, .fad 2 (.t 32)⟩,
    ⟨(some 34), none, .load false 1 (.t 33)⟩,
    ⟨(some 35), none, .mov (.t 1)⟩,
    ⟨(some 36), none, .bin .neq (.t 34) (.t 35)⟩])
   (.cond (.t 36) (.seq (.reg none [
    ⟨(some 4), none, .mov (.c (.int .i64 (-1)))⟩])
    (.ret)) (.skip)))
  (.seq (.reg none [
    ⟨(some 37), none, .mov (.t 1)⟩,
    ⟨(some 38), none, .bin .add (.t 37) (.c (.int .i64 1))⟩,
    ⟨(some 1), none, .mov (.t 38)⟩])
  (.seq (.seq (.reg none [
    ⟨(some 39), none, .mov (.t 0)⟩,
    ⟨(some 40), none, .mov (.t 5)⟩,
    ⟨(some 41), none, .iad 7 (.t 39) (.t 40)⟩,
    ⟨(some 42), none, .fad 3 (.t 41)⟩,
    ⟨(some 43), none, .load false 1 (.t 42)⟩,
    ⟨(some 44), none, .mov (.t 1)⟩,
    ⟨(some 45), none, .bin .neq (.t 43) (.t 44)⟩])
   (.cond (.t 45) (.seq (.reg none [
    ⟨(some 4), none, .mov (.c (.int .i64 (-1)))⟩])
    (.ret)) (.skip)))
  (.seq (.reg none [
    ⟨(some 46), none, .mov (.t 1)⟩,
    ⟨(some 47), none, .bin .add (.t 46) (.c (.int .i64 1))⟩,
    ⟨(some 1), none, .mov (.t 47)⟩])
  (.seq (.seq (.reg none [
    ⟨(some 48), none, .mov (.t 0)⟩,
    ⟨(some 49), none, .mov (.t 5)⟩,
    ⟨(some 50), none, .iad 7 (.t 48) (.t 49)⟩,
    ⟨(some 51), none, .fad 4 (.t 50)⟩,
    ⟨(some 52), none, .load false 1 (.t 51)⟩,
    ⟨(some 53), none, .mov (.t 1)⟩,
    ⟨(some 54), none, .bin .neq (.t 52) (.t 53)⟩])
   (.cond (.t 54) (.seq (.reg none [
    ⟨(some 4), none, .mov (.c (.int .i64 (-1)))⟩])
    (.ret)) (.skip)))
  (.seq (.reg none [
    ⟨(some 55), none, .mov (.t 1)⟩,
    ⟨(some 56), none, .bin .add (.t 55) (.c (.int .i64 1))⟩,
    ⟨(some 1), none, .mov (.t 56)⟩])
  (.seq (.seq (.reg none [
    ⟨(some 57), none, .mov (.t 0)⟩,
    ⟨(some 58), none, .mov (.t 5)⟩,
    ⟨(some 59), none, .iad 7 (.t 57) (.t 58)⟩,
    ⟨(some 60), none, .fad 5 (.t 59)⟩,
    ⟨(some 61), none, .load false 1 (.t 60)⟩,
    ⟨(some 62), none, .mov (.t 1)⟩,
    ⟨(some 63), none, .bin .neq (.t 61) (.t 62)⟩])
   (.cond (.t 63) (.seq (.reg none [
    ⟨(some 4), none, .mov (.c (.int .i64 (-1)))⟩])
    (.ret)) (.skip)))
  (.seq (.reg none [
    ⟨(some 64), none, .mov (.t 1)⟩,
    ⟨(some 65), none, .bin .add (.t 64) (.c (.int .i64 1))⟩,
    ⟨(some 1), none, .mov (.t 65)⟩])
  (.seq (.seq (.reg none [
    ⟨(some 66), none, .mov (.t 0)⟩,
    ⟨(some 67), none, .mov (.t 5)⟩,
    ⟨(some 68), none, .iad 7 (.t 66) (.t 67)⟩,
    ⟨(some 69), none, .fad 6 (.t 68)⟩,
    ⟨(some 70), none, .load false 1 (.t 69)⟩,
    ⟨(some 71), none, .mov (.t 1)⟩,
    ⟨(some 72), none, .bin .neq (.t 70) (.t 71)⟩])
   (.cond (.t 72) (.seq (.reg none [
    ⟨(some 4), none, .mov (.c (.int .i64 (-1)))⟩])
    (.ret)) (.skip)))
  (.reg none [
    ⟨(some 73), none, .mov (.t 1)⟩,
    ⟨(some 74), none, .bin .add (.t 73) (.c (.int .i64 1))⟩,
    ⟨(some 1), none, .mov (.t 74)⟩]))))))))))))))
theorem heldT7_ok {F : Nat → Option IFn} : HeldTurn F 7 heldT7 := by
  intro H n b o i k q lo0 e K hg hi hk hkn hn hq e0 e5 e1 hK
  unfold heldT7
  have hin : (i + 1) * 7 ≤ n * 7 := Nat.mul_le_mul_right _ hi
  have g0 : getCells H b (o + i * 7) 1 = some [.int .i64 (q)] := by
    have := held_at hg (m := i * 7) (by omega)
    rw [show o + i * 7 = o + (i * 7) by omega, this, show k + ((i * 7 : Nat) : Int) = q by omega]
  refine seq_assoc (seq_reg ?_)
  simp only [go_sem, binI_lss, binI_leq, binI_gtr, binI_geq, binI_eql, binI_neq, Nat.reduceEqDiff, Nat.reduceAdd, Nat.reduceMul, Nat.reduceSub, Nat.reduceLeDiff, Nat.reduceLT, reduceIte, reduceCtorEq, e0, e5, e1, g0, bne_self_eq_false]
  refine ⟨⟨by omega, by omega⟩, ?_⟩
  refine seq_cond (t := false) (by simp only [go_sem, binI_lss, binI_leq, binI_gtr, binI_geq, binI_eql, binI_neq, Nat.reduceEqDiff, Nat.reduceAdd, Nat.reduceMul, Nat.reduceSub, Nat.reduceLeDiff, Nat.reduceLT, reduceIte, reduceCtorEq]) ?_
  simp only [go_sem, binI_lss, binI_leq, binI_gtr, binI_geq, binI_eql, binI_neq, Nat.reduceEqDiff, Nat.reduceAdd, Nat.reduceMul, Nat.reduceSub, Nat.reduceLeDiff, Nat.reduceLT, reduceIte, reduceCtorEq]
  refine seq_skip ?_
  refine seq_reg ?_
  simp only [go_sem, binI_lss, binI_leq, binI_gtr, binI_geq, binI_eql, binI_neq, Nat.reduceEqDiff, Nat.reduceAdd, Nat.reduceMul, Nat.reduceSub, Nat.reduceLeDiff, Nat.reduceLT, reduceIte, reduceCtorEq, e1]
  rw [wrap_id (x := q + 1) (by omega) (by omega)]
  have g1 : getCells H b (o + i * 7 + 1) 1 = some [.int .i64 (q + 1)] := by
    have := held_at hg (m := i * 7 + 1) (by omega)
    rw [show o + i * 7 + 1 = o + (i * 7 + 1) by omega, this, show k + ((i * 7 + 1 : Nat) : Int) = q + 1 by omega]
  refine seq_assoc (seq_reg ?_)
  simp only [go_sem, binI_lss, binI_leq, binI_gtr, binI_geq, binI_eql, binI_neq, Nat.reduceEqDiff, Nat.reduceAdd, Nat.reduceMul, Nat.reduceSub, Nat.reduceLeDiff, Nat.reduceLT, reduceIte, reduceCtorEq, e0, e5, e1, g1, bne_self_eq_false]
  refine ⟨⟨by omega, by omega⟩, ?_⟩
  refine seq_cond (t := false) (by simp only [go_sem, binI_lss, binI_leq, binI_gtr, binI_geq, binI_eql, binI_neq, Nat.reduceEqDiff, Nat.reduceAdd, Nat.reduceMul, Nat.reduceSub, Nat.reduceLeDiff, Nat.reduceLT, reduceIte, reduceCtorEq]) ?_
  simp only [go_sem, binI_lss, binI_leq, binI_gtr, binI_geq, binI_eql, binI_neq, Nat.reduceEqDiff, Nat.reduceAdd, Nat.reduceMul, Nat.reduceSub, Nat.reduceLeDiff, Nat.reduceLT, reduceIte, reduceCtorEq]
  refine seq_skip ?_
  refine seq_reg ?_
  simp only [go_sem, binI_lss, binI_leq, binI_gtr, binI_geq, binI_eql, binI_neq, Nat.reduceEqDiff, Nat.reduceAdd, Nat.reduceMul, Nat.reduceSub, Nat.reduceLeDiff, Nat.reduceLT, reduceIte, reduceCtorEq, e1]
  rw [wrap_id (x := (q + 1) + 1) (by omega) (by omega)]
  have g2 : getCells H b (o + i * 7 + 2) 1 = some [.int .i64 ((q + 1) + 1)] := by
    have := held_at hg (m := i * 7 + 2) (by omega)
    rw [show o + i * 7 + 2 = o + (i * 7 + 2) by omega, this, show k + ((i * 7 + 2 : Nat) : Int) = (q + 1) + 1 by omega]
  refine seq_assoc (seq_reg ?_)
  simp only [go_sem, binI_lss, binI_leq, binI_gtr, binI_geq, binI_eql, binI_neq, Nat.reduceEqDiff, Nat.reduceAdd, Nat.reduceMul, Nat.reduceSub, Nat.reduceLeDiff, Nat.reduceLT, reduceIte, reduceCtorEq, e0, e5, e1, g2, bne_self_eq_false]
  refine ⟨⟨by omega, by omega⟩, ?_⟩
  refine seq_cond (t := false) (by simp only [go_sem, binI_lss, binI_leq, binI_gtr, binI_geq, binI_eql, binI_neq, Nat.reduceEqDiff, Nat.reduceAdd, Nat.reduceMul, Nat.reduceSub, Nat.reduceLeDiff, Nat.reduceLT, reduceIte, reduceCtorEq]) ?_
  simp only [go_sem, binI_lss, binI_leq, binI_gtr, binI_geq, binI_eql, binI_neq, Nat.reduceEqDiff, Nat.reduceAdd, Nat.reduceMul, Nat.reduceSub, Nat.reduceLeDiff, Nat.reduceLT, reduceIte, reduceCtorEq]
  refine seq_skip ?_
  refine seq_reg ?_
  simp only [go_sem, binI_lss, binI_leq, binI_gtr, binI_geq, binI_eql, binI_neq, Nat.reduceEqDiff, Nat.reduceAdd, Nat.reduceMul, Nat.reduceSub, Nat.reduceLeDiff, Nat.reduceLT, reduceIte, reduceCtorEq, e1]
  rw [wrap_id (x := ((q + 1) + 1) + 1) (by omega) (by omega)]
  have g3 : getCells H b (o + i * 7 + 3) 1 = some [.int .i64 (((q + 1) + 1) + 1)] := by
    have := held_at hg (m := i * 7 + 3) (by omega)
    rw [show o + i * 7 + 3 = o + (i * 7 + 3) by omega, this, show k + ((i * 7 + 3 : Nat) : Int) = ((q + 1) + 1) + 1 by omega]
  refine seq_assoc (seq_reg ?_)
  simp only [go_sem, binI_lss, binI_leq, binI_gtr, binI_geq, binI_eql, binI_neq, Nat.reduceEqDiff, Nat.reduceAdd, Nat.reduceMul, Nat.reduceSub, Nat.reduceLeDiff, Nat.reduceLT, reduceIte, reduceCtorEq, e0, e5, e1, g3, bne_self_eq_false]
  refine ⟨⟨by omega, by omega⟩, ?_⟩
  refine seq_cond (t := false) (by simp only [go_sem, binI_lss, binI_leq, binI_gtr, binI_geq, binI_eql, binI_neq, Nat.reduceEqDiff, Nat.reduceAdd, Nat.reduceMul, Nat.reduceSub, Nat.reduceLeDiff, Nat.reduceLT, reduceIte, reduceCtorEq]) ?_
  simp only [go_sem, binI_lss, binI_leq, binI_gtr, binI_geq, binI_eql, binI_neq, Nat.reduceEqDiff, Nat.reduceAdd, Nat.reduceMul, Nat.reduceSub, Nat.reduceLeDiff, Nat.reduceLT, reduceIte, reduceCtorEq]
  refine seq_skip ?_
  refine seq_reg ?_
  simp only [go_sem, binI_lss, binI_leq, binI_gtr, binI_geq, binI_eql, binI_neq, Nat.reduceEqDiff, Nat.reduceAdd, Nat.reduceMul, Nat.reduceSub, Nat.reduceLeDiff, Nat.reduceLT, reduceIte, reduceCtorEq, e1]
  rw [wrap_id (x := (((q + 1) + 1) + 1) + 1) (by omega) (by omega)]
  have g4 : getCells H b (o + i * 7 + 4) 1 = some [.int .i64 ((((q + 1) + 1) + 1) + 1)] := by
    have := held_at hg (m := i * 7 + 4) (by omega)
    rw [show o + i * 7 + 4 = o + (i * 7 + 4) by omega, this, show k + ((i * 7 + 4 : Nat) : Int) = (((q + 1) + 1) + 1) + 1 by omega]
  refine seq_assoc (seq_reg ?_)
  simp only [go_sem, binI_lss, binI_leq, binI_gtr, binI_geq, binI_eql, binI_neq, Nat.reduceEqDiff, Nat.reduceAdd, Nat.reduceMul, Nat.reduceSub, Nat.reduceLeDiff, Nat.reduceLT, reduceIte, reduceCtorEq, e0, e5, e1, g4, bne_self_eq_false]
  refine ⟨⟨by omega, by omega⟩, ?_⟩
  refine seq_cond (t := false) (by simp only [go_sem, binI_lss, binI_leq, binI_gtr, binI_geq, binI_eql, binI_neq, Nat.reduceEqDiff, Nat.reduceAdd, Nat.reduceMul, Nat.reduceSub, Nat.reduceLeDiff, Nat.reduceLT, reduceIte, reduceCtorEq]) ?_
  simp only [go_sem, binI_lss, binI_leq, binI_gtr, binI_geq, binI_eql, binI_neq, Nat.reduceEqDiff, Nat.reduceAdd, Nat.reduceMul, Nat.reduceSub, Nat.reduceLeDiff, Nat.reduceLT, reduceIte, reduceCtorEq]
  refine seq_skip ?_
  refine seq_reg ?_
  simp only [go_sem, binI_lss, binI_leq, binI_gtr, binI_geq, binI_eql, binI_neq, Nat.reduceEqDiff, Nat.reduceAdd, Nat.reduceMul, Nat.reduceSub, Nat.reduceLeDiff, Nat.reduceLT, reduceIte, reduceCtorEq, e1]
  rw [wrap_id (x := ((((q + 1) + 1) + 1) + 1) + 1) (by omega) (by omega)]
  have g5 : getCells H b (o + i * 7 + 5) 1 = some [.int .i64 (((((q + 1) + 1) + 1) + 1) + 1)] := by
    have := held_at hg (m := i * 7 + 5) (by omega)
    rw [show o + i * 7 + 5 = o + (i * 7 + 5) by omega, this, show k + ((i * 7 + 5 : Nat) : Int) = ((((q + 1) + 1) + 1) + 1) + 1 by omega]
  refine seq_assoc (seq_reg ?_)
  simp only [go_sem, binI_lss, binI_leq, binI_gtr, binI_geq, binI_eql, binI_neq, Nat.reduceEqDiff, Nat.reduceAdd, Nat.reduceMul, Nat.reduceSub, Nat.reduceLeDiff, Nat.reduceLT, reduceIte, reduceCtorEq, e0, e5, e1, g5, bne_self_eq_false]
  refine ⟨⟨by omega, by omega⟩, ?_⟩
  refine seq_cond (t := false) (by simp only [go_sem, binI_lss, binI_leq, binI_gtr, binI_geq, binI_eql, binI_neq, Nat.reduceEqDiff, Nat.reduceAdd, Nat.reduceMul, Nat.reduceSub, Nat.reduceLeDiff, Nat.reduceLT, reduceIte, reduceCtorEq]) ?_
  simp only [go_sem, binI_lss, binI_leq, binI_gtr, binI_geq, binI_eql, binI_neq, Nat.reduceEqDiff, Nat.reduceAdd, Nat.reduceMul, Nat.reduceSub, Nat.reduceLeDiff, Nat.reduceLT, reduceIte, reduceCtorEq]
  refine seq_skip ?_
  refine seq_reg ?_
  simp only [go_sem, binI_lss, binI_leq, binI_gtr, binI_geq, binI_eql, binI_neq, Nat.reduceEqDiff, Nat.reduceAdd, Nat.reduceMul, Nat.reduceSub, Nat.reduceLeDiff, Nat.reduceLT, reduceIte, reduceCtorEq, e1]
  rw [wrap_id (x := (((((q + 1) + 1) + 1) + 1) + 1) + 1) (by omega) (by omega)]
  have g6 : getCells H b (o + i * 7 + 6) 1 = some [.int .i64 ((((((q + 1) + 1) + 1) + 1) + 1) + 1)] := by
    have := held_at hg (m := i * 7 + 6) (by omega)
    rw [show o + i * 7 + 6 = o + (i * 7 + 6) by omega, this, show k + ((i * 7 + 6 : Nat) : Int) = (((((q + 1) + 1) + 1) + 1) + 1) + 1 by omega]
  refine seq_assoc (seq_reg ?_)
  simp only [go_sem, binI_lss, binI_leq, binI_gtr, binI_geq, binI_eql, binI_neq, Nat.reduceEqDiff, Nat.reduceAdd, Nat.reduceMul, Nat.reduceSub, Nat.reduceLeDiff, Nat.reduceLT, reduceIte, reduceCtorEq, e0, e5, e1, g6, bne_self_eq_false]
  refine ⟨⟨by omega, by omega⟩, ?_⟩
  refine seq_cond (t := false) (by simp only [go_sem, binI_lss, binI_leq, binI_gtr, binI_geq, binI_eql, binI_neq, Nat.reduceEqDiff, Nat.reduceAdd, Nat.reduceMul, Nat.reduceSub, Nat.reduceLeDiff, Nat.reduceLT, reduceIte, reduceCtorEq]) ?_
  simp only [go_sem, binI_lss, binI_leq, binI_gtr, binI_geq, binI_eql, binI_neq, Nat.reduceEqDiff, Nat.reduceAdd, Nat.reduceMul, Nat.reduceSub, Nat.reduceLeDiff, Nat.reduceLT, reduceIte, reduceCtorEq]
  refine seq_skip ?_
  refine wpc_reg ?_
  simp only [go_sem, binI_lss, binI_leq, binI_gtr, binI_geq, binI_eql, binI_neq, Nat.reduceEqDiff, Nat.reduceAdd, Nat.reduceMul, Nat.reduceSub, Nat.reduceLeDiff, Nat.reduceLT, reduceIte, reduceCtorEq, e1]
  rw [wrap_id (x := ((((((q + 1) + 1) + 1) + 1) + 1) + 1) + 1) (by omega) (by omega)]
  refine hK _ (by simp only [go_sem, binI_lss, binI_leq, binI_gtr, binI_geq, binI_eql, binI_neq, Nat.reduceEqDiff, Nat.reduceAdd, Nat.reduceMul, Nat.reduceSub, Nat.reduceLeDiff, Nat.reduceLT, reduceIte, reduceCtorEq, e0]) (by simp only [go_sem, binI_lss, binI_leq, binI_gtr, binI_geq, binI_eql, binI_neq, Nat.reduceEqDiff, Nat.reduceAdd, Nat.reduceMul, Nat.reduceSub, Nat.reduceLeDiff, Nat.reduceLT, reduceIte, reduceCtorEq, e5]) ?_
  simp only [go_sem, binI_lss, binI_leq, binI_gtr, binI_geq, binI_eql, binI_neq, Nat.reduceEqDiff, Nat.reduceAdd, Nat.reduceMul, Nat.reduceSub, Nat.reduceLeDiff, Nat.reduceLT, reduceIte, reduceCtorEq]
  congr 1
  omega
def c_held7 : IFn := markH 75 7 heldT7 76
theorem held7_ok {F : Nat → Option IFn} {f : Nat} (hf : F f = some c_held7) : HeldFlat F 7 f := heldFlat_ok hf (by omega) heldT7_ok
end Go.Proofs.YtkdhdklggdbgdaaI
