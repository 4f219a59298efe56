/- Codecs: how plain Lean values lie on the ideal heap; and the schemas of the laws' size functions. -/
import Derived.Test.YtkdhdklggdbgdaaI8
set_option linter.unusedVariables false
set_option linter.unusedSimpArgs false
namespace Go.Proofs.YtkdhdklggdbgdaaI
open Go Go.RowKit

/-- What a reader sees of a heap. -/
abbrev Vw := Nat → Option (List Value)
def vw (lo : Nat) (H : Heap) : Vw := fun b => if lo ≤ b then (H[b]?).map (·.cells) else none
def Sub (V V' : Vw) : Prop := ∀ b cs, V b = some cs → V' b = some cs
theorem Sub.refl (V : Vw) : Sub V V := fun _ _ h => h
theorem Sub.trans {V V' V'' : Vw} (h : Sub V V') (h' : Sub V' V'') : Sub V V'' := fun b cs k => h' b cs (h b cs k)
def rng (V : Vw) (b o n : Nat) : Option (List Value) := match V b with
  | some k => if o + n ≤ k.length then some ((k.drop o).take n) else none
  | none => none
theorem rng_sub {V V' : Vw} (h : Sub V V') {b o n : Nat} {cs : List Value} (k : rng V b o n = some cs) : rng V' b o n = some cs := by
  unfold rng at k ⊢
  cases hv : V b with
  | none => simp [hv] at k
  | some c => rw [hv] at k; rw [h b c hv]; exact k
theorem rng_len {V : Vw} {b o n : Nat} {cs : List Value} (k : rng V b o n = some cs) : cs.length = n := by
  unfold rng at k
  split at k
  · split at k
    · simp only [Option.some.injEq] at k; subst k; simp; omega
    · cases k
  · cases k
theorem rng_gc {lo : Nat} {H : Heap} {b o n : Nat} {cs : List Value} (k : rng (vw lo H) b o n = some cs) : getCells H b o n = some cs := by
  unfold rng vw at k
  unfold getCells
  split at k
  · rename_i c hc
    split at hc
    · cases hb : H[b]? with
      | none => simp [hb] at hc
      | some kb => simp only [hb, Option.map_some, Option.some.injEq] at hc; subst hc; exact k
    · cases hc
  · cases k
theorem vw_grow {lo lo' : Nat} {H H1 : Heap} (hl : lo' ≤ lo) (h : ∀ b, lo ≤ b → b < H.length → H1[b]? = H[b]?) : Sub (vw lo H) (vw lo' H1) := by
  intro b cs k
  unfold vw at k ⊢
  split at k
  · rename_i h1
    rw [if_pos (by omega)]
    cases hb : H[b]? with
    | none => simp [hb] at k
    | some kb => rw [h b h1 (List.getElem?_eq_some_iff.1 hb).1, hb]; simpa [hb] using k
  · cases k
theorem vw_app (lo : Nat) (H L : Heap) : Sub (vw lo H) (vw lo (H ++ L)) := vw_grow (Nat.le_refl _) fun b _ h => List.getElem?_append_left h

/-- How values of one type lie. -/
structure Co (α : Type) where
  w : Nat
  rd : Vw → List Value → α → Prop
  sm : α → Prop
  mono : ∀ {V V' : Vw} {cs : List Value} {a : α}, Sub V V' → rd V cs a → rd V' cs a
  len : ∀ {V : Vw} {cs : List Value} {a : α}, rd V cs a → cs.length = w
  ones : ∀ {V : Vw} {cs : List Value} {a : α}, rd V cs a → ∀ c, c ∈ cs → one c = true
def Co.int : Co Int := ⟨1, fun _ cs n => cs = [.int .i64 n] ∧ -9223372036854775808 ≤ n ∧ n ≤ 9223372036854775807, fun _ => True, fun _ h => h, fun h => by rw [h.1]; rfl, fun h c hc => by rw [h.1] at hc; simp only [List.mem_singleton] at hc; subst hc; rfl⟩
def Co.bool : Co Bool := ⟨1, fun _ cs n => cs = [.bool n], fun _ => True, fun _ h => h, fun h => by rw [h]; rfl, fun h c hc => by rw [h] at hc; simp only [List.mem_singleton] at hc; subst hc; rfl⟩
def Co.pair {α β : Type} (A : Co α) (B : Co β) : Co (α × β) := ⟨A.w + B.w, fun V cs p => ∃ x y, cs = x ++ y ∧ A.rd V x p.1 ∧ B.rd V y p.2, fun p => A.sm p.1 ∧ B.sm p.2,
  fun h ⟨x, y, h1, h2, h3⟩ => ⟨x, y, h1, A.mono h h2, B.mono h h3⟩, fun ⟨x, y, h1, h2, h3⟩ => by rw [h1, List.length_append, A.len h2, B.len h3], fun ⟨x, y, h1, h2, h3⟩ c hc => by rw [h1, List.mem_append] at hc; exact hc.elim (A.ones h2 c) (B.ones h3 c)⟩
def SlR {α : Type} (A : Co α) (V : Vw) (v : Value) (l : List α) : Prop :=
  l.length ≤ 9223372036854775807 ∧ ∃ a, v = .slice a l.length l.length ∧ (l = [] ∨ ∃ b o, a = some ⟨b, o, none⟩ ∧ ∀ i (h : i < l.length), ∃ cs, rng V b (o + i * A.w) A.w = some cs ∧ A.rd V cs l[i])
theorem SlR.mono {α : Type} {A : Co α} {V V' : Vw} {v : Value} {l : List α} (h : Sub V V') : SlR A V v l → SlR A V' v l
  | ⟨h0, a, h1, h2⟩ => ⟨h0, a, h1, h2.imp id fun ⟨b, o, h3, h4⟩ => ⟨b, o, h3, fun i hi => let ⟨cs, h5, h6⟩ := h4 i hi; ⟨cs, rng_sub h h5, A.mono h h6⟩⟩⟩
def Co.sl {α : Type} (A : Co α) : Co (List α) := ⟨1, fun V cs l => ∃ v, cs = [v] ∧ SlR A V v l, fun l => l.length ≤ 1048576 ∧ ∀ a ∈ l, A.sm a,
  fun h ⟨v, h1, h2⟩ => ⟨v, h1, h2.mono h⟩, fun ⟨v, h1, _⟩ => by rw [h1]; rfl, fun ⟨v, h1, _, a, h2, _⟩ c hc => by rw [h1] at hc; simp only [List.mem_singleton] at hc; subst hc; rw [h2]; rfl⟩
theorem Co.rd_sl {α : Type} {A : Co α} {V : Vw} {v : Value} {l : List α} : (Co.sl A).rd V [v] l ↔ SlR A V v l := ⟨fun ⟨w, h, k⟩ => by simp only [List.cons.injEq, and_true] at h; subst h; exact k, fun h => ⟨v, rfl, h⟩⟩

/-- One argument: a struct comes as one value, a slice as itself. -/
def Rd {α : Type} (A : Co α) (agg : Bool) (V : Vw) (v : Value) (a : α) : Prop := ∃ cs, valOf agg cs = some v ∧ A.rd V cs a
theorem Rd.mono {α : Type} {A : Co α} {agg : Bool} {V V' : Vw} {v : Value} {a : α} (h : Sub V V') : Rd A agg V v a → Rd A agg V' v a := fun ⟨cs, h1, h2⟩ => ⟨cs, h1, A.mono h h2⟩

theorem i64_small {x : Int} (h1 : -9223372036854775808 ≤ x) (h2 : x ≤ 9223372036854775807) : IntKind.i64.wrap x = x := wrap_id h1 h2

theorem Rd.cells {α : Type} {A : Co α} {agg : Bool} {V : Vw} {v : Value} {cs : List Value} {a : α} (h : valOf agg cs = some v) (h' : A.rd V cs a) : v.cells.toList = cs := by
  cases agg with
  | true => simp only [valOf, if_true, Option.some.injEq] at h; subst h; rfl
  | false =>
    simp only [valOf, Bool.false_eq_true, if_false] at h
    split at h
    · simp only [Option.some.injEq] at h; subst h
      rw [cells_one (A.ones h' _ (by simp))]
    · cases h
theorem wpOp_mono {F : Nat → Option IFn} {lo : Nat} {o : IOp} {e : Env} {H : Heap} {K K' : Value → Heap → Prop} (h : wpOp F lo o e H K) (hk : ∀ v H, K v H → K' v H) : wpOp F lo o e H K' := by
  unfold wpOp at h ⊢
  split at h
  · obtain ⟨g, first, cap, hf, h⟩ := h
    refine ⟨g, first, cap, hf, ?_⟩
    split at h
    · obtain ⟨v, h1, h2⟩ := h; exact ⟨v, h1, hk _ _ h2⟩
    · obtain ⟨v, H1, h1, h2⟩ := h; exact ⟨v, H1, h1, hk _ _ h2⟩
    · obtain ⟨v, H1, h1, h2⟩ := h; exact ⟨v, H1, h1, hk _ _ h2⟩
  · obtain ⟨v, H1, h1, h2⟩ := h; exact ⟨v, H1, h1, hk _ _ h2⟩
theorem wpo_mono {F : Nat → Option IFn} {lo : Nat} : ∀ {l : List IOper} {e : Env} {H : Heap} {K K' : Env → Heap → Prop}, wpo F lo l e H K → (∀ e H, K e H → K' e H) → wpo F lo l e H K'
  | [], _, _, _, _, h, hk => hk _ _ h
  | o :: r, _, _, _, _, h, hk => ⟨fun hr => wpOp_mono (h.1 hr) fun _ _ h' => wpo_mono h' hk, fun hr => wpo_mono (h.2 hr) hk⟩
theorem W_mono {F : Nat → Option IFn} {lo : Nat} {t : Task} {e : Env} {H : Heap} {K K' : X → Env → Heap → Prop} (h : W F lo t e H K) (hk : ∀ x e H, K x e H → K' x e H) : W F lo t e H K' :=
  let ⟨x, e1, H1, h1, h2⟩ := h; ⟨x, e1, H1, h1, hk _ _ _ h2⟩

/-! ### Sizes -/
def SzOk (F : Nat → Option IFn) {α : Type} (A : Co α) (agg : Bool) (f : Nat) : Prop :=
  ∀ (H : Heap) (v : Value) (a : α) (left : Int), Rd A agg (vw 0 H) v a → 0 ≤ left → left ≤ 1048576 → ∃ r : Int, QC F f [v, .int .i64 left] H (.int .i64 r) ∧ r ≤ left ∧ (0 ≤ r → A.sm a)

def szFlat : IFn := ⟨2, 12, [.t 4],
 .seq (.reg none [
    ⟨(some 4), none, .mov (.c (.int .i64 0))⟩])
 (.seq (.reg none [
    ⟨(some 5), none, .mov (.t 1)⟩,
    ⟨(some 6), none, .mov (.t 0)⟩,
    ⟨(some 7), none, .len (.t 6)⟩,
    ⟨(some 8), none, .bin .sub (.t 5) (.t 7)⟩,
    ⟨(some 1), none, .mov (.t 8)⟩])
 (.seq (.seq (.reg none [
     ⟨(some 9), none, .mov (.t 1)⟩,
     ⟨(some 10), none, .bin .lss (.t 9) (.c (.int .i64 0))⟩])
  (.cond (.t 10) (.seq (.reg none [
      ⟨(some 4), none, .mov (.c (.int .i64 (-1)))⟩])
   (.ret)) (.skip)))
 (.seq (.reg none [
    ⟨(some 11), none, .mov (.t 1)⟩,
    ⟨(some 4), none, .mov (.t 11)⟩])
 (.ret))))⟩

section
variable {F : Nat → Option IFn} {α : Type} {A : Co α} {f : Nat}
theorem szFlat_ok (hf : F f = some szFlat) (hs : ∀ a, A.sm a) : SzOk F (Co.sl A) false f := by
  rintro H v l left ⟨cs, hc, w, rfl, h0, a, rfl, h2⟩ hl0 hl1
  simp only [go_sem, binI_lss, binI_leq, binI_gtr, binI_geq, binI_eql, binI_neq, Nat.reduceEqDiff, Nat.reduceAdd, Nat.reduceMul, Nat.reduceSub, Nat.reduceLeDiff, Nat.reduceLT, reduceIte, reduceCtorEq, Option.some.injEq] at hc
  subst hc
  have hw : IntKind.i64.wrap (left - l.length) = left - l.length := wrap_id (by omega) (by omega)
  by_cases hn : left - l.length < 0
  · refine ⟨-1, QC.mk hf rfl ?_, by omega, by omega⟩
    refine seq_reg ?_
    simp only [go_sem, binI_lss, binI_leq, binI_gtr, binI_geq, binI_eql, binI_neq, Nat.reduceEqDiff, Nat.reduceAdd, Nat.reduceMul, Nat.reduceSub, Nat.reduceLeDiff, Nat.reduceLT, reduceIte, reduceCtorEq]
    refine seq_reg ?_
    simp only [go_sem, binI_lss, binI_leq, binI_gtr, binI_geq, binI_eql, binI_neq, Nat.reduceEqDiff, Nat.reduceAdd, Nat.reduceMul, Nat.reduceSub, Nat.reduceLeDiff, Nat.reduceLT, reduceIte, reduceCtorEq]
    rw [hw]
    refine seq_assoc (seq_reg ?_)
    simp only [go_sem, binI_lss, binI_leq, binI_gtr, binI_geq, binI_eql, binI_neq, Nat.reduceEqDiff, Nat.reduceAdd, Nat.reduceMul, Nat.reduceSub, Nat.reduceLeDiff, Nat.reduceLT, reduceIte, reduceCtorEq]
    refine seq_cond (t := true) (by simp only [go_sem, binI_lss, binI_leq, binI_gtr, binI_geq, binI_eql, binI_neq, Nat.reduceEqDiff, Nat.reduceAdd, Nat.reduceMul, Nat.reduceSub, Nat.reduceLeDiff, Nat.reduceLT, reduceIte, reduceCtorEq]; rw [decide_eq_true hn]) ?_
    simp only [go_sem, binI_lss, binI_leq, binI_gtr, binI_geq, binI_eql, binI_neq, Nat.reduceEqDiff, Nat.reduceAdd, Nat.reduceMul, Nat.reduceSub, Nat.reduceLeDiff, Nat.reduceLT, reduceIte, reduceCtorEq]
    refine seq_assoc (seq_reg ?_)
    simp only [go_sem, binI_lss, binI_leq, binI_gtr, binI_geq, binI_eql, binI_neq, Nat.reduceEqDiff, Nat.reduceAdd, Nat.reduceMul, Nat.reduceSub, Nat.reduceLeDiff, Nat.reduceLT, reduceIte, reduceCtorEq]
    refine seq_ret ⟨Or.inr rfl, _, ?_, rfl, rfl⟩
    simp only [go_sem, binI_lss, binI_leq, binI_gtr, binI_geq, binI_eql, binI_neq, Nat.reduceEqDiff, Nat.reduceAdd, Nat.reduceMul, Nat.reduceSub, Nat.reduceLeDiff, Nat.reduceLT, reduceIte, reduceCtorEq]
  · refine ⟨left - l.length, QC.mk hf rfl ?_, by omega, fun _ => ⟨by omega, fun a _ => hs a⟩⟩
    refine seq_reg ?_
    simp only [go_sem, binI_lss, binI_leq, binI_gtr, binI_geq, binI_eql, binI_neq, Nat.reduceEqDiff, Nat.reduceAdd, Nat.reduceMul, Nat.reduceSub, Nat.reduceLeDiff, Nat.reduceLT, reduceIte, reduceCtorEq]
    refine seq_reg ?_
    simp only [go_sem, binI_lss, binI_leq, binI_gtr, binI_geq, binI_eql, binI_neq, Nat.reduceEqDiff, Nat.reduceAdd, Nat.reduceMul, Nat.reduceSub, Nat.reduceLeDiff, Nat.reduceLT, reduceIte, reduceCtorEq]
    rw [hw]
    refine seq_assoc (seq_reg ?_)
    simp only [go_sem, binI_lss, binI_leq, binI_gtr, binI_geq, binI_eql, binI_neq, Nat.reduceEqDiff, Nat.reduceAdd, Nat.reduceMul, Nat.reduceSub, Nat.reduceLeDiff, Nat.reduceLT, reduceIte, reduceCtorEq]
    refine seq_cond (t := false) (by simp only [go_sem, binI_lss, binI_leq, binI_gtr, binI_geq, binI_eql, binI_neq, Nat.reduceEqDiff, Nat.reduceAdd, Nat.reduceMul, Nat.reduceSub, Nat.reduceLeDiff, Nat.reduceLT, reduceIte, reduceCtorEq]; rw [decide_eq_false hn]) ?_
    simp only [go_sem, binI_lss, binI_leq, binI_gtr, binI_geq, binI_eql, binI_neq, Nat.reduceEqDiff, Nat.reduceAdd, Nat.reduceMul, Nat.reduceSub, Nat.reduceLeDiff, Nat.reduceLT, reduceIte, reduceCtorEq]
    refine seq_skip (seq_reg ?_)
    simp only [go_sem, binI_lss, binI_leq, binI_gtr, binI_geq, binI_eql, binI_neq, Nat.reduceEqDiff, Nat.reduceAdd, Nat.reduceMul, Nat.reduceSub, Nat.reduceLeDiff, Nat.reduceLT, reduceIte, reduceCtorEq]
    refine wpc_ret ⟨Or.inr rfl, _, ?_, rfl, rfl⟩
    simp only [go_sem, binI_lss, binI_leq, binI_gtr, binI_geq, binI_eql, binI_neq, Nat.reduceEqDiff, Nat.reduceAdd, Nat.reduceMul, Nat.reduceSub, Nat.reduceLeDiff, Nat.reduceLT, reduceIte, reduceCtorEq]
end
end Go.Proofs.YtkdhdklggdbgdaaI
