/- Marks: numbers that are written into memory of one's own, and what they leave alone. -/
import Derived.Test.YtkdhdklggdbgdaaI20
set_option linter.unusedVariables false
set_option linter.unusedSimpArgs false
namespace Go.Proofs.YtkdhdklggdbgdaaI
open Go Go.RowKit

/-- Numbers from one on. -/
def seqI (k : Int) : Nat → List Value
  | 0 => []
  | n + 1 => .int .i64 k :: seqI (k + 1) n
theorem seqI_length : ∀ (n : Nat) (k : Int), (seqI k n).length = n
  | 0, _ => rfl
  | n + 1, k => by rw [seqI, List.length_cons, seqI_length n]
theorem seqI_at : ∀ (n : Nat) (k : Int) (i : Nat), i < n → (seqI k n)[i]? = some (.int .i64 (k + i))
  | 0, _, _, h => by omega
  | n + 1, k, 0, _ => by simp [seqI]
  | n + 1, k, i + 1, h => by
    rw [seqI, List.getElem?_cons_succ, seqI_at n _ i (by omega)]
    congr 2
    omega
theorem seqI_snoc : ∀ (n : Nat) (k : Int), seqI k (n + 1) = seqI k n ++ [.int .i64 (k + n)]
  | 0, k => by simp [seqI]
  | n + 1, k => by
    rw [seqI, seqI_snoc n, seqI, List.cons_append]
    congr 4
    omega
theorem setL_appendL : ∀ (xs : List Value) (cs ys : List Value) (o : Nat), setL cs o (xs ++ ys) = setL (setL cs o xs) (o + xs.length) ys
  | [], cs, ys, o => rfl
  | x :: xs, cs, ys, o => by
    rw [List.cons_append, setL_cons, setL_appendL xs, setL_cons, List.length_cons]
    congr 1
    omega
theorem setL_get : ∀ (xs cs : List Value) (o i : Nat), o + xs.length ≤ cs.length → (setL cs o xs)[i]? = if o ≤ i ∧ i < o + xs.length then xs[i - o]? else cs[i]?
  | [], cs, o, i, _ => by rw [setL_nil, if_neg (by simp only [List.length_nil]; omega)]
  | x :: xs, cs, o, i, h => by
    simp only [List.length_cons] at h
    rw [setL_cons, setL_get xs _ _ _ (by rw [List.length_set]; omega)]
    by_cases h1 : o + 1 ≤ i ∧ i < o + 1 + xs.length
    · rw [if_pos h1, if_pos (by simp only [List.length_cons]; omega), show i - o = (i - (o + 1)) + 1 by omega, List.getElem?_cons_succ]
    · rw [if_neg h1]
      by_cases h2 : i = o
      · subst h2
        rw [if_pos (by simp only [List.length_cons]; omega), Nat.sub_self, List.getElem?_cons_zero, List.getElem?_set_self (by omega)]
      · rw [if_neg (by simp only [List.length_cons]; omega), List.getElem?_set_ne (by omega)]

/-- A heap with numbers written into a block. -/
def markB (H : Heap) (b o : Nat) (k : Int) (m : Nat) : Heap := match H[b]? with
  | some kb => H.set b { kb with cells := setL kb.cells o (seqI k m) }
  | none => H
theorem markB_zero (H : Heap) (b o : Nat) (k : Int) : markB H b o k 0 = H := by
  unfold markB
  split
  · rename_i kb h
    rw [seqI, setL_nil]
    obtain ⟨h1, h2⟩ := List.getElem?_eq_some_iff.1 h
    subst h2
    exact List.set_getElem_self h1
  · rfl
theorem markB_get {H : Heap} {b : Nat} {cs : List Value} {es et : Nat} {ap so : Bool} (h : H[b]? = some ⟨cs, es, et, ap, so⟩) (o : Nat) (k : Int) (m : Nat) : (markB H b o k m)[b]? = some ⟨setL cs o (seqI k m), es, et, ap, so⟩ := by
  unfold markB
  rw [h]
  exact List.getElem?_set_self (List.getElem?_eq_some_iff.1 h).1
theorem markB_ne (H : Heap) {b b' : Nat} (o : Nat) (k : Int) (m : Nat) (hb : b' ≠ b) : (markB H b o k m)[b']? = H[b']? := by
  unfold markB
  split
  · exact List.getElem?_set_ne (fun h => hb h.symm)
  · rfl
theorem markB_len (H : Heap) (b o : Nat) (k : Int) (m : Nat) : (markB H b o k m).length = H.length := by
  unfold markB
  split
  · exact List.length_set
  · rfl
theorem markB_step {H : Heap} {b : Nat} {cs : List Value} {es et : Nat} {ap so : Bool} (h : H[b]? = some ⟨cs, es, et, ap, so⟩) {o : Nat} {k : Int} (m : Nat) {x : Nat} {kk : Int} (hx : x = o + m) (hk : kk = k + m) :
    (markB H b o k m).set b ⟨(setL cs o (seqI k m)).set x (.int .i64 kk), es, et, ap, so⟩ = markB H b o k (m + 1) := by
  subst hx; subst hk
  unfold markB
  rw [h]
  show (H.set b _).set b _ = H.set b ⟨setL cs o (seqI k (m + 1)), es, et, ap, so⟩
  rw [List.set_set, seqI_snoc, setL_appendL, seqI_length, setL_cons, setL_nil]

/-- A slice of n elements of w cells, in a block of one's own. -/
def FlatB (lo hi : Nat) (H : Heap) (w : Nat) (v : Value) (n : Nat) (b o : Nat) : Prop := n ≤ 9223372036854775807 ∧ ∃ a, v = .slice a n n ∧ (n = 0 ∨ a = some ⟨b, o, none⟩ ∧ lo ≤ b ∧ b < hi ∧ ∃ cs es et ap, H[b]? = some ⟨cs, es, et, ap, true⟩ ∧ o + n * w ≤ cs.length)
def MarkFlat (F : Nat → Option IFn) (w f : Nat) : Prop := ∀ (H : Heap) (v : Value) (n b o lo hi lo0 : Nat) (k : Int), FlatB lo hi H w v n b o → lo0 ≤ lo → 0 ≤ k → k + (n * w : Nat) ≤ 9223372036854775807 →
  NC F lo0 f [v, .int .i64 k] H (.int .i64 (k + (n * w : Nat))) (if n = 0 then H else markB H b o k (n * w))

theorem NC.mkE {F : Nat → Option IFn} {lo : Nat} {H : Heap} {f np nt : Nat} {rs : List IRes} {body : ICode} {args : List Value} {v : Value} {H1 : Heap} (hf : F f = some ⟨np, nt, rs, body⟩) (hl : args.length = np) (h : wpc F lo body (ini args) H (fin rs fun w H2 => w = v ∧ H2 = H1)) : NC F lo f args H v H1 := by
  obtain ⟨x, e1, H1', h1, h2, w, h3, rfl, rfl⟩ := h
  exact ⟨_, x, e1, hf, hl, h1, h2, h3⟩

/-! ### The schema of a mark of a flat slice -/
def markH (r w : Nat) (b : ICode) (nt : Nat) : IFn := ⟨2, nt, [.t 4],
 .seq (.reg none [
    ⟨(some 4), none, .mov (.c (.int .i64 0))⟩])
 (.seq (.seq (.reg none [
     ⟨(some 5), none, .mov (.c (.int .i64 0))⟩])
  (.block 0 (.loop (.seq (.seq (.reg none [
        ⟨(some 6), none, .mov (.t 5)⟩,
        ⟨(some 7), none, .mov (.t 0)⟩,
        ⟨(some 8), none, .len (.t 7)⟩,
        ⟨(some 9), none, .bin .lss (.t 6) (.t 8)⟩])
     (.cond (.t 9) (.skip) (.exit 0)))
    (.seq (.block 1 b)
    (.reg none [
      ⟨(some 10), none, .mov (.t 5)⟩,
      ⟨(some 11), none, .bin .add (.t 10) (.c (.int .i64 1))⟩,
      ⟨(some 5), none, .mov (.t 11)⟩]))))))
 (.seq (.reg none [
    ⟨(some r), none, .mov (.t 1)⟩,
    ⟨(some 4), none, .mov (.t r)⟩])
 (.ret)))⟩
/-- One turn of a mark. -/
def MarkTurn (F : Nat → Option IFn) (w : Nat) (body : ICode) : Prop := ∀ (H : Heap) (n b o i : Nat) (k q : Int) (lo0 : Nat) (e : Env) (cs : List Value) (es et : Nat) (ap : Bool) (K : X → Env → Heap → Prop),
  H[b]? = some ⟨cs, es, et, ap, true⟩ → o + n * w ≤ cs.length → i < n → lo0 ≤ b → 0 ≤ k → k + (n * w : Nat) ≤ 9223372036854775807 → n ≤ 9223372036854775807 → q = k + (i * w : Nat) →
  e 0 = sli b o n → e 5 = .int .i64 i → e 1 = .int .i64 q →
  (∀ e1, e1 0 = sli b o n → e1 5 = .int .i64 i → e1 1 = .int .i64 (k + ((i + 1) * w : Nat)) → K .n e1 (markB H b o k ((i + 1) * w))) → wpc F lo0 body e (markB H b o k (i * w)) K
theorem markFlat_ok {F : Nat → Option IFn} {f r w nt : Nat} {body : ICode} (hf : F f = some (markH r w body nt)) (hr : 12 < r) (ht : MarkTurn F w body) : MarkFlat F w f := by
  rintro H v n b o lo hi lo0 k ⟨hn, a, rfl, ha⟩ hlo hk hkn
  refine NC.mkE hf rfl ?_
  refine seq_reg ?_
  simp only [go_sem, binI_lss, binI_leq, binI_gtr, binI_geq, binI_eql, binI_neq, Nat.reduceEqDiff, Nat.reduceAdd, Nat.reduceMul, Nat.reduceSub, Nat.reduceLeDiff, Nat.reduceLT, reduceIte, reduceCtorEq]
  refine seq_assoc (seq_reg ?_)
  simp only [go_sem, binI_lss, binI_leq, binI_gtr, binI_geq, binI_eql, binI_neq, Nat.reduceEqDiff, Nat.reduceAdd, Nat.reduceMul, Nat.reduceSub, Nat.reduceLeDiff, Nat.reduceLT, reduceIte, reduceCtorEq]
  refine seq_block (wpc_loop ?_)
  have hr1 : (4 : Nat) ≠ r := by omega
  have hr2 : (1 : Nat) ≠ r := by omega
  rcases Nat.eq_zero_or_pos n with h0 | h0
  · subst h0
    refine lp_step ?_
    refine seq_assoc (seq_reg ?_)
    simp only [go_sem, binI_lss, binI_leq, binI_gtr, binI_geq, binI_eql, binI_neq, Nat.reduceEqDiff, Nat.reduceAdd, Nat.reduceMul, Nat.reduceSub, Nat.reduceLeDiff, Nat.reduceLT, reduceIte, reduceCtorEq]
    refine seq_cond (t := false) (by simp only [go_sem, binI_lss, binI_leq, binI_gtr, binI_geq, binI_eql, binI_neq, Nat.reduceEqDiff, Nat.reduceAdd, Nat.reduceMul, Nat.reduceSub, Nat.reduceLeDiff, Nat.reduceLT, reduceIte, reduceCtorEq]; rfl) ?_
    simp only [go_sem, binI_lss, binI_leq, binI_gtr, binI_geq, binI_eql, binI_neq, Nat.reduceEqDiff, Nat.reduceAdd, Nat.reduceMul, Nat.reduceSub, Nat.reduceLeDiff, Nat.reduceLT, reduceIte, reduceCtorEq]
    refine seq_exit ?_
    simp only [go_sem, binI_lss, binI_leq, binI_gtr, binI_geq, binI_eql, binI_neq, Nat.reduceEqDiff, Nat.reduceAdd, Nat.reduceMul, Nat.reduceSub, Nat.reduceLeDiff, Nat.reduceLT, reduceIte, reduceCtorEq, thenX_e, out_e, thenX_n]
    refine seq_reg ?_
    simp only [go_sem, binI_lss, binI_leq, binI_gtr, binI_geq, binI_eql, binI_neq, Nat.reduceEqDiff, Nat.reduceAdd, Nat.reduceMul, Nat.reduceSub, Nat.reduceLeDiff, Nat.reduceLT, reduceIte, reduceCtorEq]
    refine wpc_ret ⟨Or.inr rfl, _, (by simp only [go_sem, binI_lss, binI_leq, binI_gtr, binI_geq, binI_eql, binI_neq, Nat.reduceEqDiff, Nat.reduceAdd, Nat.reduceMul, Nat.reduceSub, Nat.reduceLeDiff, Nat.reduceLT, reduceIte, reduceCtorEq]; rfl), ?_, ?_⟩
    · simp
    · rfl
  obtain ⟨rfl, hb1, hb2, cs, es, et, ap, hb, hcs⟩ : a = some ⟨b, o, none⟩ ∧ lo ≤ b ∧ b < hi ∧ ∃ cs es et ap, H[b]? = some ⟨cs, es, et, ap, true⟩ ∧ o + n * w ≤ cs.length := ha.resolve_left (by omega)
  suffices h : ∀ (j i : Nat) (e : Env), i + j = n → e 0 = sli b o n → e 5 = .int .i64 i → e 1 = .int .i64 (k + (i * w : Nat)) → W F lo0 _ e (markB H b o k (i * w)) _ from by
    have := h n 0 (putE (putE (ini [.slice (some ⟨b, o, none⟩) n n, .int .i64 k]) (some 4) (.int .i64 0)) (some 5) (.int .i64 0)) (by omega) (by simp only [go_sem, binI_lss, binI_leq, binI_gtr, binI_geq, binI_eql, binI_neq, Nat.reduceEqDiff, Nat.reduceAdd, Nat.reduceMul, Nat.reduceSub, Nat.reduceLeDiff, Nat.reduceLT, reduceIte, reduceCtorEq]; rfl) (by simp only [go_sem, binI_lss, binI_leq, binI_gtr, binI_geq, binI_eql, binI_neq, Nat.reduceEqDiff, Nat.reduceAdd, Nat.reduceMul, Nat.reduceSub, Nat.reduceLeDiff, Nat.reduceLT, reduceIte, reduceCtorEq]; rfl) (by simp only [go_sem, binI_lss, binI_leq, binI_gtr, binI_geq, binI_eql, binI_neq, Nat.reduceEqDiff, Nat.reduceAdd, Nat.reduceMul, Nat.reduceSub, Nat.reduceLeDiff, Nat.reduceLT, reduceIte, reduceCtorEq]; simp)
    rw [Nat.zero_mul, markB_zero] at this
    exact this
  intro j
  induction j with
  | zero =>
    intro i e hi e0 e5 e1
    refine lp_step ?_
    refine seq_assoc (seq_reg ?_)
    simp only [go_sem, binI_lss, binI_leq, binI_gtr, binI_geq, binI_eql, binI_neq, Nat.reduceEqDiff, Nat.reduceAdd, Nat.reduceMul, Nat.reduceSub, Nat.reduceLeDiff, Nat.reduceLT, reduceIte, reduceCtorEq, e0, e5]
    refine seq_cond (t := false) (by simp only [go_sem, binI_lss, binI_leq, binI_gtr, binI_geq, binI_eql, binI_neq, Nat.reduceEqDiff, Nat.reduceAdd, Nat.reduceMul, Nat.reduceSub, Nat.reduceLeDiff, Nat.reduceLT, reduceIte, reduceCtorEq]; rw [decide_eq_false (by omega)]) ?_
    simp only [go_sem, binI_lss, binI_leq, binI_gtr, binI_geq, binI_eql, binI_neq, Nat.reduceEqDiff, Nat.reduceAdd, Nat.reduceMul, Nat.reduceSub, Nat.reduceLeDiff, Nat.reduceLT, reduceIte, reduceCtorEq]
    refine seq_exit ?_
    simp only [go_sem, binI_lss, binI_leq, binI_gtr, binI_geq, binI_eql, binI_neq, Nat.reduceEqDiff, Nat.reduceAdd, Nat.reduceMul, Nat.reduceSub, Nat.reduceLeDiff, Nat.reduceLT, reduceIte, reduceCtorEq, thenX_e, out_e, thenX_n]
    refine seq_reg ?_
    simp only [go_sem, binI_lss, binI_leq, binI_gtr, binI_geq, binI_eql, binI_neq, Nat.reduceEqDiff, Nat.reduceAdd, Nat.reduceMul, Nat.reduceSub, Nat.reduceLeDiff, Nat.reduceLT, reduceIte, reduceCtorEq, e1]
    obtain rfl : i = n := by omega
    refine wpc_ret ⟨Or.inr rfl, _, (by simp only [go_sem, binI_lss, binI_leq, binI_gtr, binI_geq, binI_eql, binI_neq, Nat.reduceEqDiff, Nat.reduceAdd, Nat.reduceMul, Nat.reduceSub, Nat.reduceLeDiff, Nat.reduceLT, reduceIte, reduceCtorEq]; rfl), ?_, ?_⟩
    · rfl
    · rw [if_neg (by omega)]
  | succ j ih =>
    intro i e hi e0 e5 e1
    refine lp_step ?_
    refine seq_assoc (seq_reg ?_)
    simp only [go_sem, binI_lss, binI_leq, binI_gtr, binI_geq, binI_eql, binI_neq, Nat.reduceEqDiff, Nat.reduceAdd, Nat.reduceMul, Nat.reduceSub, Nat.reduceLeDiff, Nat.reduceLT, reduceIte, reduceCtorEq, e0, e5]
    refine seq_cond (t := true) (by simp only [go_sem, binI_lss, binI_leq, binI_gtr, binI_geq, binI_eql, binI_neq, Nat.reduceEqDiff, Nat.reduceAdd, Nat.reduceMul, Nat.reduceSub, Nat.reduceLeDiff, Nat.reduceLT, reduceIte, reduceCtorEq]; rw [decide_eq_true (by omega)]) ?_
    simp only [go_sem, binI_lss, binI_leq, binI_gtr, binI_geq, binI_eql, binI_neq, Nat.reduceEqDiff, Nat.reduceAdd, Nat.reduceMul, Nat.reduceSub, Nat.reduceLeDiff, Nat.reduceLT, reduceIte, reduceCtorEq]
    refine seq_skip (seq_block ?_)
    refine ht H n b o i k _ lo0 _ cs es et ap _ hb hcs (by omega) (by omega) hk hkn hn rfl (by simp only [go_sem, binI_lss, binI_leq, binI_gtr, binI_geq, binI_eql, binI_neq, Nat.reduceEqDiff, Nat.reduceAdd, Nat.reduceMul, Nat.reduceSub, Nat.reduceLeDiff, Nat.reduceLT, reduceIte, reduceCtorEq, e0]) (by simp only [go_sem, binI_lss, binI_leq, binI_gtr, binI_geq, binI_eql, binI_neq, Nat.reduceEqDiff, Nat.reduceAdd, Nat.reduceMul, Nat.reduceSub, Nat.reduceLeDiff, Nat.reduceLT, reduceIte, reduceCtorEq, e5]) (by simp only [go_sem, binI_lss, binI_leq, binI_gtr, binI_geq, binI_eql, binI_neq, Nat.reduceEqDiff, Nat.reduceAdd, Nat.reduceMul, Nat.reduceSub, Nat.reduceLeDiff, Nat.reduceLT, reduceIte, reduceCtorEq, e1]) ?_
    intro e2 q0 q5 q1
    simp only [go_sem, binI_lss, binI_leq, binI_gtr, binI_geq, binI_eql, binI_neq, Nat.reduceEqDiff, Nat.reduceAdd, Nat.reduceMul, Nat.reduceSub, Nat.reduceLeDiff, Nat.reduceLT, reduceIte, reduceCtorEq, out_n, thenX_n]
    refine wpc_reg ?_
    simp only [go_sem, binI_lss, binI_leq, binI_gtr, binI_geq, binI_eql, binI_neq, Nat.reduceEqDiff, Nat.reduceAdd, Nat.reduceMul, Nat.reduceSub, Nat.reduceLeDiff, Nat.reduceLT, reduceIte, reduceCtorEq, q5]
    have hw1 : IntKind.i64.wrap ((i : Int) + 1) = ((i + 1 : Nat) : Int) := by rw [wrap_id (by omega) (by omega)]; omega
    rw [hw1]
    simp only [go_sem, binI_lss, binI_leq, binI_gtr, binI_geq, binI_eql, binI_neq, Nat.reduceEqDiff, Nat.reduceAdd, Nat.reduceMul, Nat.reduceSub, Nat.reduceLeDiff, Nat.reduceLT, reduceIte, reduceCtorEq, thenX_n]
    exact ih (i + 1) _ (by omega) (by simp only [go_sem, binI_lss, binI_leq, binI_gtr, binI_geq, binI_eql, binI_neq, Nat.reduceEqDiff, Nat.reduceAdd, Nat.reduceMul, Nat.reduceSub, Nat.reduceLeDiff, Nat.reduceLT, reduceIte, reduceCtorEq, q0]) (by simp only [go_sem, binI_lss, binI_leq, binI_gtr, binI_geq, binI_eql, binI_neq, Nat.reduceEqDiff, Nat.reduceAdd, Nat.reduceMul, Nat.reduceSub, Nat.reduceLeDiff, Nat.reduceLT, reduceIte, reduceCtorEq]) (by simp only [go_sem, binI_lss, binI_leq, binI_gtr, binI_geq, binI_eql, binI_neq, Nat.reduceEqDiff, Nat.reduceAdd, Nat.reduceMul, Nat.reduceSub, Nat.reduceLeDiff, Nat.reduceLT, reduceIte, reduceCtorEq, q1])
end Go.Proofs.YtkdhdklggdbgdaaI
