/- Schemas: a copy of a list, of blocks of one's own that may be written. -/
import Derived.Test.YtkdhdklggdbgdaaI13
set_option linter.unusedVariables false
set_option linter.unusedSimpArgs false
namespace Go.Proofs.YtkdhdklggdbgdaaI
open Go Go.RowKit

/-- What is seen from a block on, of blocks that may be written. -/
def vws (lo : Nat) (H : Heap) : Vw := fun b => if lo ≤ b then (H[b]?).bind (fun k => if k.solo = true then some k.cells else none) else none
theorem vws_vw (lo : Nat) (H : Heap) : Sub (vws lo H) (vw lo H) := by
  intro b cs h
  unfold vws at h
  unfold vw
  split at h
  · rename_i hb
    rw [if_pos hb]
    cases hk : H[b]? with
    | none => simp [hk] at h
    | some k =>
      simp only [hk, Option.bind_some] at h
      split at h
      · simpa using h
      · cases h
  · cases h
theorem vws_grow {lo lo' : Nat} {H H1 : Heap} (hl : lo' ≤ lo) (h : ∀ b, lo ≤ b → b < H.length → H1[b]? = H[b]?) : Sub (vws lo H) (vws lo' H1) := by
  intro b cs k
  unfold vws at k ⊢
  split at k
  · rename_i h1
    rw [if_pos (by omega)]
    cases hb : H[b]? with
    | none => simp [hb] at k
    | some kb => rw [h b h1 (List.getElem?_eq_some_iff.1 hb).1, hb]; simpa [hb] using k
  · cases k
theorem vws_app (lo : Nat) (H L : Heap) : Sub (vws lo H) (vws lo (H ++ L)) := vws_grow (Nat.le_refl _) fun b _ h => List.getElem?_append_left h
theorem vws_in {lo lo' : Nat} (base : Nat) {H1 H2 : Heap} (M N : Heap) (h1 : base ≤ lo) (h2 : lo' ≤ base) (e1 : H1.drop base = M) (e2 : H2.drop base = M ++ N) : Sub (vws lo H1) (vws lo' H2) := by
  refine vws_grow (by omega) fun b h3 h4 => ?_
  obtain ⟨k, rfl⟩ : ∃ k, b = base + k := ⟨b - base, by omega⟩
  have hk : k < M.length := by rw [← e1, List.length_drop]; omega
  rw [← List.getElem?_drop, ← List.getElem?_drop, e1, e2, List.getElem?_append_left hk]

def ToOkS (F : Nat → Option IFn) {α : Type} (A : Co α) (agg : Bool) (m : Mode) (f : Nat) : Prop :=
  ∀ (H : Heap) (v : Value) (a : α), Rd A agg (vw 0 H) v a → A.sm a → ∀ (e : Env) (lo : Nat) (args : List Opd) (K : Value → Heap → Prop), args.map (·.ev e) = [v] →
    (∀ v' L, Rd A agg (vws H.length (H ++ L)) v' a → K v' (H ++ L)) → wpOp F lo (.call m (.f f) args) e H K
theorem ToOkS.ofK {F : Nat → Option IFn} {α : Type} {A : Co α} {agg : Bool} {f : Nat} (h : ∀ (H : Heap) (v : Value) (a : α), Rd A agg (vw 0 H) v a → A.sm a → ∃ v' H1, KC F f [v] H v' H1 ∧ ∃ L, H1 = H ++ L ∧ Rd A agg (vws H.length (H ++ L)) v' a) : ToOkS F A agg .k f := by
  intro H v a h1 h2 e lo args K ha hk
  obtain ⟨v', H1, h3, L, rfl, h4⟩ := h H v a h1 h2
  exact op_callK (by rw [ha]; exact h3) (hk v' L h4)
theorem ToOkS.ofQ {F : Nat → Option IFn} {α : Type} {A : Co α} {agg : Bool} {f : Nat} (h : ∀ (H : Heap) (v : Value) (a : α), Rd A agg (vw 0 H) v a → A.sm a → ∃ v', QC F f [v] H v' ∧ Rd A agg (fun _ => none) v' a) : ToOkS F A agg .q f := by
  intro H v a h1 h2 e lo args K ha hk
  obtain ⟨v', h3, h4⟩ := h H v a h1 h2
  have h5 := hk v' [] (h4.mono fun _ _ h => by cases h)
  rw [List.append_nil] at h5
  exact op_callQ (by rw [ha]; exact h3) h5

theorem vws_same (H M : Heap) (x y : Blk) : Sub (vws (H.length + 1) (H ++ x :: M)) (vws (H.length + 1) (H ++ y :: M)) := by
  intro b cs h
  unfold vws at h ⊢
  split at h
  · rename_i hb
    rw [if_pos hb]
    rw [List.getElem?_append_right (by omega)] at h ⊢
    obtain ⟨k, hk⟩ : ∃ k, b - H.length = k + 1 := ⟨b - H.length - 1, by omega⟩
    rw [hk] at h ⊢
    simpa using h
  · cases h
section
variable {F : Nat → Option IFn} {α : Type} {A : Co α} {f g w nt r et bytes : Nat} {agg : Bool} {z : List Value} {b : List IOper}
def InvS (A : Co α) (H : Heap) (w et : Nat) (l : List α) (i : Nat) (H' : Heap) : Prop :=
  ∃ dst M, H' = H ++ ⟨dst, w, et, true, true⟩ :: M ∧ dst.length = l.length * w ∧ ∀ j (h : j < l.length), j < i → A.rd (vws (H.length + 1) H') ((dst.drop (j * w)).take w) l[j]
theorem InvS.step {H : Heap} {l : List α} {i : Nat} {dst cs : List Value} {M N : Heap} (hw : A.w = w) (hi : i < l.length) (hd : dst.length = l.length * w)
    (h : ∀ j (h : j < l.length), j < i → A.rd (vws (H.length + 1) (H ++ ⟨dst, w, et, true, true⟩ :: M)) ((dst.drop (j * w)).take w) l[j])
    (hc : A.rd (vws (H.length + 1) (H ++ ⟨dst, w, et, true, true⟩ :: (M ++ N))) cs l[i]) : InvS A H w et l (i + 1) (H ++ ⟨setL dst (i * w) cs, w, et, true, true⟩ :: (M ++ N)) := by
  have hcl : cs.length = w := by rw [A.len hc, hw]
  have hl : i * w + w ≤ dst.length := by rw [hd, ← Nat.succ_mul]; exact Nat.mul_le_mul_right _ hi
  refine ⟨_, _, rfl, by rw [setL_length, hd], fun j hj hji => ?_⟩
  refine A.mono (vws_same H (M ++ N) ⟨dst, w, et, true, true⟩ _) ?_
  by_cases hij : j = i
  · subst hij; rw [setL_at hcl hl]; exact hc
  · rw [setL_other hcl hl (by omega)]
    refine A.mono ?_ (h j hj (by omega))
    have := vws_app (H.length + 1) (H ++ ⟨dst, w, et, true, true⟩ :: M) N
    rw [List.append_assoc, List.cons_append] at this
    exact this
/-- What one turn of the copy must do. -/
def TurnOkS (F : Nat → Option IFn) (A : Co α) (w et : Nat) (b : List IOper) : Prop := ∀ (H : Heap) (v : Value) (l : List α) (i : Nat) (e : Env) (H' : Heap) (hi : i < l.length), SlR A (vw 0 H) v l → l.length ≤ 1048576 → A.sm l[i] → InvS A H w et l i H' →
  e 0 = v → e 3 = sli H.length 0 l.length → e 4 = .int .i64 i → wpo F H.length b e H' fun e1 H1 => e1 0 = v ∧ e1 3 = sli H.length 0 l.length ∧ e1 4 = .int .i64 i ∧ InvS A H w et l (i + 1) H1
theorem toSlS_ok (hf : F f = some (toSlH nt r w et bytes z b)) (hr : 12 < r) (hz : z.length = w) (hw : A.w = w) (hb : bytes ≤ 1048576) (ht : TurnOkS F A w et b) : ToOkS F (Co.sl A) false .k f := by
  refine ToOkS.ofK ?_
  rintro H v l ⟨cs, hc, v', rfl, hv⟩ ⟨hs1, hs2⟩
  simp only [go_sem, binI_lss, binI_leq, binI_gtr, binI_geq, binI_eql, binI_neq, Nat.reduceEqDiff, Nat.reduceAdd, Nat.reduceMul, Nat.reduceSub, Nat.reduceLeDiff, Nat.reduceLT, reduceIte, reduceCtorEq, Option.some.injEq] at hc
  subst hc
  have hv' := hv
  obtain ⟨h0, a, rfl, h2⟩ := hv
  refine KC.mk hf rfl ?_
  refine seq_reg ?_
  simp only [go_sem, binI_lss, binI_leq, binI_gtr, binI_geq, binI_eql, binI_neq, Nat.reduceEqDiff, Nat.reduceAdd, Nat.reduceMul, Nat.reduceSub, Nat.reduceLeDiff, Nat.reduceLT, reduceIte, reduceCtorEq]
  refine seq_reg ?_
  simp only [go_sem, binI_lss, binI_leq, binI_gtr, binI_geq, binI_eql, binI_neq, Nat.reduceEqDiff, Nat.reduceAdd, Nat.reduceMul, Nat.reduceSub, Nat.reduceLeDiff, Nat.reduceLT, reduceIte, reduceCtorEq]
  have hm : (l.length : Int) * bytes ≤ 140737488355328 := by
    have h1 : l.length * bytes ≤ 1048576 * 1048576 := Nat.mul_le_mul hs1 hb
    have h2 : (l.length : Int) * bytes = ((l.length * bytes : Nat) : Int) := by simp
    rw [h2]; omega
  refine ⟨⟨by omega, hm, by omega⟩, ?_⟩
  refine seq_assoc (seq_reg ?_)
  simp only [go_sem, binI_lss, binI_leq, binI_gtr, binI_geq, binI_eql, binI_neq, Nat.reduceEqDiff, Nat.reduceAdd, Nat.reduceMul, Nat.reduceSub, Nat.reduceLeDiff, Nat.reduceLT, reduceIte, reduceCtorEq]
  refine seq_block (wpc_loop ?_)
  suffices h : ∀ (k i : Nat) (e : Env) (H' : Heap), i + k = l.length → e 0 = .slice a l.length l.length → e 3 = sli H.length 0 l.length → e 4 = .int .i64 i → InvS A H w et l i H' → W F H.length _ e H' _ from
    h l.length 0 _ _ (by omega) (by simp only [go_sem, binI_lss, binI_leq, binI_gtr, binI_geq, binI_eql, binI_neq, Nat.reduceEqDiff, Nat.reduceAdd, Nat.reduceMul, Nat.reduceSub, Nat.reduceLeDiff, Nat.reduceLT, reduceIte, reduceCtorEq]) (by simp only [go_sem, binI_lss, binI_leq, binI_gtr, binI_geq, binI_eql, binI_neq, Nat.reduceEqDiff, Nat.reduceAdd, Nat.reduceMul, Nat.reduceSub, Nat.reduceLeDiff, Nat.reduceLT, reduceIte, reduceCtorEq]) (by simp only [go_sem, binI_lss, binI_leq, binI_gtr, binI_geq, binI_eql, binI_neq, Nat.reduceEqDiff, Nat.reduceAdd, Nat.reduceMul, Nat.reduceSub, Nat.reduceLeDiff, Nat.reduceLT, reduceIte, reduceCtorEq]; rfl) ⟨_, [], rfl, by rw [flatten_rep, hz], fun j _ hj => by omega⟩
  intro k
  induction k with
  | zero =>
    intro i e H' hi e0 e3 e4 hI
    refine lp_step ?_
    refine seq_assoc (seq_reg ?_)
    simp only [go_sem, binI_lss, binI_leq, binI_gtr, binI_geq, binI_eql, binI_neq, Nat.reduceEqDiff, Nat.reduceAdd, Nat.reduceMul, Nat.reduceSub, Nat.reduceLeDiff, Nat.reduceLT, reduceIte, reduceCtorEq, e0, e4]
    refine seq_cond (t := false) (by simp only [go_sem, binI_lss, binI_leq, binI_gtr, binI_geq, binI_eql, binI_neq, Nat.reduceEqDiff, Nat.reduceAdd, Nat.reduceMul, Nat.reduceSub, Nat.reduceLeDiff, Nat.reduceLT, reduceIte, reduceCtorEq]; rw [decide_eq_false (by omega)]) ?_
    simp only [go_sem, binI_lss, binI_leq, binI_gtr, binI_geq, binI_eql, binI_neq, Nat.reduceEqDiff, Nat.reduceAdd, Nat.reduceMul, Nat.reduceSub, Nat.reduceLeDiff, Nat.reduceLT, reduceIte, reduceCtorEq]
    refine seq_exit ?_
    simp only [go_sem, binI_lss, binI_leq, binI_gtr, binI_geq, binI_eql, binI_neq, Nat.reduceEqDiff, Nat.reduceAdd, Nat.reduceMul, Nat.reduceSub, Nat.reduceLeDiff, Nat.reduceLT, reduceIte, reduceCtorEq, thenX_e, out_e, thenX_n]
    refine seq_reg ?_
    have hr1 : (3 : Nat) ≠ r := by omega
    simp only [go_sem, binI_lss, binI_leq, binI_gtr, binI_geq, binI_eql, binI_neq, Nat.reduceEqDiff, Nat.reduceAdd, Nat.reduceMul, Nat.reduceSub, Nat.reduceLeDiff, Nat.reduceLT, reduceIte, reduceCtorEq, e3, hr1]
    refine wpc_ret ⟨Or.inr rfl, sli H.length 0 l.length, by simp only [go_sem, binI_lss, binI_leq, binI_gtr, binI_geq, binI_eql, binI_neq, Nat.reduceEqDiff, Nat.reduceAdd, Nat.reduceMul, Nat.reduceSub, Nat.reduceLeDiff, Nat.reduceLT, reduceIte, reduceCtorEq], ?_⟩
    obtain ⟨dst, M, rfl, hd, hj⟩ := hI
    refine ⟨_, rfl, [_], rfl, Co.rd_sl.2 ⟨h0, _, rfl, Or.inr ⟨_, _, rfl, fun i' hi' => ⟨_, ?_, A.mono (vws_grow (by omega) fun _ _ _ => rfl) (hj i' hi' (by omega))⟩⟩⟩⟩
    have hl : i' * w + w ≤ dst.length := by rw [hd, ← Nat.succ_mul]; exact Nat.mul_le_mul_right _ hi'
    unfold rng vws
    rw [if_pos (Nat.le_refl _), get_new0, hw]
    simp only [List.getElem?_cons_zero, Option.bind_some, if_true, Nat.zero_add]
    rw [if_pos hl]
  | succ k ih =>
    intro i e H' hi e0 e3 e4 hI
    refine lp_step ?_
    refine seq_assoc (seq_reg ?_)
    simp only [go_sem, binI_lss, binI_leq, binI_gtr, binI_geq, binI_eql, binI_neq, Nat.reduceEqDiff, Nat.reduceAdd, Nat.reduceMul, Nat.reduceSub, Nat.reduceLeDiff, Nat.reduceLT, reduceIte, reduceCtorEq, e0, e4]
    refine seq_cond (t := true) (by simp only [go_sem, binI_lss, binI_leq, binI_gtr, binI_geq, binI_eql, binI_neq, Nat.reduceEqDiff, Nat.reduceAdd, Nat.reduceMul, Nat.reduceSub, Nat.reduceLeDiff, Nat.reduceLT, reduceIte, reduceCtorEq]; rw [decide_eq_true (by omega)]) ?_
    simp only [go_sem, binI_lss, binI_leq, binI_gtr, binI_geq, binI_eql, binI_neq, Nat.reduceEqDiff, Nat.reduceAdd, Nat.reduceMul, Nat.reduceSub, Nat.reduceLeDiff, Nat.reduceLT, reduceIte, reduceCtorEq]
    refine seq_skip (seq_block (wpc_reg ?_))
    have hT := ht H _ l i (putE (putE (putE (putE e (some 8) (.int .i64 i)) (some 9) (.slice a l.length l.length)) (some 10) (.int .i64 l.length)) (some 11) (.bool (decide ((i : Int) < l.length)))) H' (by omega) hv' hs1 (hs2 _ (List.getElem_mem _)) hI (by simp only [go_sem, binI_lss, binI_leq, binI_gtr, binI_geq, binI_eql, binI_neq, Nat.reduceEqDiff, Nat.reduceAdd, Nat.reduceMul, Nat.reduceSub, Nat.reduceLeDiff, Nat.reduceLT, reduceIte, reduceCtorEq, e0]) (by simp only [go_sem, binI_lss, binI_leq, binI_gtr, binI_geq, binI_eql, binI_neq, Nat.reduceEqDiff, Nat.reduceAdd, Nat.reduceMul, Nat.reduceSub, Nat.reduceLeDiff, Nat.reduceLT, reduceIte, reduceCtorEq, e3]) (by simp only [go_sem, binI_lss, binI_leq, binI_gtr, binI_geq, binI_eql, binI_neq, Nat.reduceEqDiff, Nat.reduceAdd, Nat.reduceMul, Nat.reduceSub, Nat.reduceLeDiff, Nat.reduceLT, reduceIte, reduceCtorEq, e4])
    refine wpo_mono hT ?_
    rintro e2 H2 ⟨q0, q3, q4, q5⟩
    simp only [go_sem, binI_lss, binI_leq, binI_gtr, binI_geq, binI_eql, binI_neq, Nat.reduceEqDiff, Nat.reduceAdd, Nat.reduceMul, Nat.reduceSub, Nat.reduceLeDiff, Nat.reduceLT, reduceIte, reduceCtorEq, out_n, thenX_n]
    refine wpc_reg ?_
    simp only [go_sem, binI_lss, binI_leq, binI_gtr, binI_geq, binI_eql, binI_neq, Nat.reduceEqDiff, Nat.reduceAdd, Nat.reduceMul, Nat.reduceSub, Nat.reduceLeDiff, Nat.reduceLT, reduceIte, reduceCtorEq, q4]
    have hw1 : IntKind.i64.wrap ((i : Int) + 1) = ((i + 1 : Nat) : Int) := by rw [wrap_id (by omega) (by omega)]; omega
    rw [hw1]
    exact ih (i + 1) _ _ (by omega) (by simp only [go_sem, binI_lss, binI_leq, binI_gtr, binI_geq, binI_eql, binI_neq, Nat.reduceEqDiff, Nat.reduceAdd, Nat.reduceMul, Nat.reduceSub, Nat.reduceLeDiff, Nat.reduceLT, reduceIte, reduceCtorEq, q0]) (by simp only [go_sem, binI_lss, binI_leq, binI_gtr, binI_geq, binI_eql, binI_neq, Nat.reduceEqDiff, Nat.reduceAdd, Nat.reduceMul, Nat.reduceSub, Nat.reduceLeDiff, Nat.reduceLT, reduceIte, reduceCtorEq, q3]) (by simp only [go_sem, binI_lss, binI_leq, binI_gtr, binI_geq, binI_eql, binI_neq, Nat.reduceEqDiff, Nat.reduceAdd, Nat.reduceMul, Nat.reduceSub, Nat.reduceLeDiff, Nat.reduceLT, reduceIte, reduceCtorEq]) q5
theorem toFlatBS_ok : TurnOkS F Co.int 1 et toFlatB := by
  rintro H v l i e H' hi ⟨h0, a, rfl, h2⟩ hs hsm ⟨dst, M, rfl, hd, hj⟩ e0 e3 e4
  rcases h2 with h2 | ⟨b, o, rfl, h2⟩
  · rw [h2] at hi; simp at hi
  obtain ⟨cs, h3, h4⟩ := h2 i hi
  have g3 := rng_gc (rng_sub (vw_app 0 H (⟨dst, 1, et, true, true⟩ :: M)) h3)
  have hcs := h4.1
  simp only [Co.int] at g3
  rw [hcs] at g3
  unfold toFlatB
  simp only [go_sem, binI_lss, binI_leq, binI_gtr, binI_geq, binI_eql, binI_neq, Nat.reduceEqDiff, Nat.reduceAdd, Nat.reduceMul, Nat.reduceSub, Nat.reduceLeDiff, Nat.reduceLT, reduceIte, reduceCtorEq, e0, e3, e4, g3]
  refine ⟨⟨by omega, by omega⟩, ⟨by omega, by omega⟩, by omega, ?_⟩
  have := InvS.step (A := Co.int) (w := 1) (et := et) (N := []) rfl hi hd hj h4
  rw [hcs, List.append_nil] at this
  simp only [go_sem, binI_lss, binI_leq, binI_gtr, binI_geq, binI_eql, binI_neq, Nat.reduceEqDiff, Nat.reduceAdd, Nat.reduceMul, Nat.reduceSub, Nat.reduceLeDiff, Nat.reduceLT, reduceIte, reduceCtorEq, Nat.mul_one] at this ⊢
  exact this
theorem toCallBS_ok {m : Mode} (hg : ToOkS F A agg m g) (hw : A.w = w) (hva : ∀ V cs a, A.rd V cs a → ∃ v, valOf agg cs = some v) : TurnOkS F A w et (toCallB m g w agg) := by
  rintro H v l i e H' hi ⟨h0, a, rfl, h2⟩ hs hsm ⟨dst, M, rfl, hd, hj⟩ e0 e3 e4
  rcases h2 with h2 | ⟨b, o, rfl, h2⟩
  · rw [h2] at hi; simp at hi
  obtain ⟨cs, h3, h4⟩ := h2 i hi
  obtain ⟨x, hx⟩ := hva _ _ _ h4
  have g3 := rng_gc (rng_sub (vw_app 0 H (⟨dst, w, et, true, true⟩ :: M)) h3)
  rw [hw] at g3
  unfold toCallB
  simp only [go_sem, binI_lss, binI_leq, binI_gtr, binI_geq, binI_eql, binI_neq, Nat.reduceEqDiff, Nat.reduceAdd, Nat.reduceMul, Nat.reduceSub, Nat.reduceLeDiff, Nat.reduceLT, reduceIte, reduceCtorEq, e0, e3, e4, g3, hx]
  refine ⟨⟨by omega, by omega⟩, ?_⟩
  refine hg _ x l[i] ⟨cs, hx, A.mono (vw_app 0 H _) h4⟩ hsm _ _ _ _ (by simp only [go_sem, binI_lss, binI_leq, binI_gtr, binI_geq, binI_eql, binI_neq, Nat.reduceEqDiff, Nat.reduceAdd, Nat.reduceMul, Nat.reduceSub, Nat.reduceLeDiff, Nat.reduceLT, reduceIte, reduceCtorEq]) ?_
  rintro v' L ⟨cs', hv', hr⟩
  have hcc := Rd.cells hv' hr
  have hl : i * w + w ≤ dst.length := by rw [hd, ← Nat.succ_mul]; exact Nat.mul_le_mul_right _ hi
  have hol : (v'.cells.toList.all one) = true := by rw [hcc, List.all_eq_true]; exact A.ones hr
  have hr' : A.rd (vws (H.length + 1) (H ++ ⟨dst, w, et, true, true⟩ :: (M ++ L))) cs' l[i] := by
    refine A.mono ?_ hr
    rw [List.append_assoc, List.cons_append]
    exact vws_grow (by simp) fun _ _ _ => rfl
  simp only [go_sem, binI_lss, binI_leq, binI_gtr, binI_geq, binI_eql, binI_neq, Nat.reduceEqDiff, Nat.reduceAdd, Nat.reduceMul, Nat.reduceSub, Nat.reduceLeDiff, Nat.reduceLT, reduceIte, reduceCtorEq, e3, e4]
  refine ⟨⟨by omega, by omega⟩, ⟨by show v'.cells.toList.length = w; rw [hcc, A.len hr, hw], by omega, hol⟩, ?_⟩
  refine ⟨e0, ?_⟩
  show InvS A H w et l (i + 1) (H ++ ⟨setL dst (i * w) v'.cells.toList, w, et, true, true⟩ :: (M ++ L))
  rw [hcc]
  exact InvS.step hw hi hd hj hr'
theorem toFlatS_ok (hf : F f = some (toFlat et)) : ToOkS F (Co.sl Co.int) false .k f := toSlS_ok hf (by omega) rfl rfl (by omega) toFlatBS_ok
theorem toCallS_ok {m : Mode} (hf : F f = some (toCall m g w et bytes z agg)) (hz : z.length = w) (hb : bytes ≤ 1048576) (hg : ToOkS F A agg m g) (hw : A.w = w) (hva : ∀ V cs a, A.rd V cs a → ∃ v, valOf agg cs = some v) : ToOkS F (Co.sl A) false .k f :=
  toSlS_ok hf (by omega) hz hw hb (toCallBS_ok hg hw hva)
end
theorem ToOkS.toOk {F : Nat → Option IFn} {α : Type} {A : Co α} {agg : Bool} {m : Mode} {f : Nat} (h : ToOkS F A agg m f) : ToOk F A agg m f :=
  fun H v a h1 h2 e lo args K h3 h4 => h H v a h1 h2 e lo args K h3 fun v' L hr => h4 v' L (hr.mono (vws_vw _ _))
end Go.Proofs.YtkdhdklggdbgdaaI
