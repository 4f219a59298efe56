/- Steps and programs as plain values; the rules that a walk by itself takes. -/
import Derived.Test.YtkdhdklggdbgdaaI15
set_option linter.unusedVariables false
set_option linter.unusedSimpArgs false
namespace Go.Proofs.YtkdhdklggdbgdaaI
open Go Go.RowKit

def Co.val : Co (Int × Int × Int) := Co.pair Co.int (Co.pair Co.int Co.int)
def TStep : Nat → Type
  | 0 => Empty
  | n + 1 => Int × Int × (Int × Int × Int) × Int × List (TStep n) × List (TStep n)
def Co.step : (n : Nat) → Co (TStep n)
  | 0 => ⟨8, fun _ _ _ => False, fun _ => True, fun _ h => h, fun h => h.elim, fun h => h.elim⟩
  | n + 1 => Co.pair Co.int (Co.pair Co.int (Co.pair Co.val (Co.pair Co.int (Co.pair (Co.sl (Co.step n)) (Co.sl (Co.step n))))))
theorem step_w : ∀ n, (Co.step n).w = 8
  | 0 => rfl
  | n + 1 => rfl
def TProg (n : Nat) := List (Int × Int) × List (TStep n)
def Co.prog (n : Nat) : Co (TProg n) := Co.pair (Co.sl Co.p2) (Co.sl (Co.step n))

section
variable {F : Nat → Option IFn} {lo : Nat} {e : Env} {H : Heap} {K : Value → Prop} {k : IntKind} {x y : Int}
theorem cmp_lss (h1 : x < y → K (.bool true)) (h2 : ¬ x < y → K (.bool false)) : optP (binI .lss k x y) K := by
  show K (.bool (decide (x < y)))
  by_cases h : x < y
  · rw [decide_eq_true h]; exact h1 h
  · rw [decide_eq_false h]; exact h2 h
theorem cmp_leq (h1 : x ≤ y → K (.bool true)) (h2 : ¬ x ≤ y → K (.bool false)) : optP (binI .leq k x y) K := by
  show K (.bool (decide (x ≤ y)))
  by_cases h : x ≤ y
  · rw [decide_eq_true h]; exact h1 h
  · rw [decide_eq_false h]; exact h2 h
theorem cmp_gtr (h1 : y < x → K (.bool true)) (h2 : ¬ y < x → K (.bool false)) : optP (binI .gtr k x y) K := by
  show K (.bool (decide (y < x)))
  by_cases h : y < x
  · rw [decide_eq_true h]; exact h1 h
  · rw [decide_eq_false h]; exact h2 h
theorem cmp_geq (h1 : y ≤ x → K (.bool true)) (h2 : ¬ y ≤ x → K (.bool false)) : optP (binI .geq k x y) K := by
  show K (.bool (decide (y ≤ x)))
  by_cases h : y ≤ x
  · rw [decide_eq_true h]; exact h1 h
  · rw [decide_eq_false h]; exact h2 h
theorem cmp_eql (h1 : x = y → K (.bool true)) (h2 : ¬ x = y → K (.bool false)) : optP (binI .eql k x y) K := by
  show K (.bool (x == y))
  by_cases h : x = y
  · rw [beq_iff_eq.2 h]; exact h1 h
  · rw [beq_eq_false_iff_ne.2 h]; exact h2 h
theorem cmp_neq (h1 : x = y → K (.bool false)) (h2 : ¬ x = y → K (.bool true)) : optP (binI .neq k x y) K := by
  show K (.bool (x != y))
  by_cases h : x = y
  · have : (x != y) = false := by simp [h]
    rw [this]; exact h1 h
  · have : (x != y) = true := by simp [h]
    rw [this]; exact h2 h
theorem op_callB {g : Nat} {args : List Opd} {b : Bool} {K : Value → Heap → Prop} (h : QC F g (args.map (·.ev e)) H (.bool b)) (k1 : b = true → K (.bool true) H) (k2 : b = false → K (.bool false) H) : wpOp F lo (.call .q (.f g) args) e H K :=
  op_callQ h (by cases b; exact k2 rfl; exact k1 rfl)
theorem fin_t {n : Nat} {K : Value → Heap → Prop} {X : X} (hx : X = .r) (h : K (e n) H) : fin [.t n] K X e H := ⟨.inr hx, _, rfl, h⟩
end
end Go.Proofs.YtkdhdklggdbgdaaI
