/- A law of several arguments; programs opened. -/
import Derived.Test.YtkdhdklggdbgdaaI15
import Derived.Test.YtkdhdklggdbgdaaI16
set_option linter.unusedVariables false
set_option linter.unusedSimpArgs false
namespace Go.Proofs.YtkdhdklggdbgdaaI
open Go Go.RowKit
theorem law_core {P : Program} {F : Nat → Option IFn} {cm : Nat → CM} {n : Nat} (hF : ∀ g fn, F g = some fn → cFn P cm g = some fn) (hm : P.follows .mixedOrders = true) {W : World} {L : Heap} {m : MM} (s : SL m L W.heap) {vals : List Value} {args : Array Value}
    (hv : All2 (VR m) vals args.toList) (hq : QC F n vals L (.bool true)) : Calls P n args W fun e w' => e = .returned (.bool true) ∧ Below W.heap.size W w' := by
  obtain ⟨fn, x, e1, H1, h1, h2, h3, h4, h5, h6⟩ := hq
  refine call_core (hF _ _ h1) h2 (sound hF hm h3) h4 h5 s.sim hv _ ?_
  intro v' w' m' _ _ q3 q4
  exact ⟨by rw [q3.bool], q4⟩
theorem VR.int_mk {m : MM} {k : IntKind} {n : Int} : VR m (.int k n) (.int k n) := .inl (.inl (.inl rfl))
theorem VR.agg_mk {m : MM} {cs0 : List Value} {cs : Array Value} (h : All2 (VR1 m) cs0 cs.toList) : VR m (.agg cs0.toArray) (.agg cs) := .inl (.inr ⟨_, _, rfl, rfl, h⟩)
theorem VR.one_mk {m : MM} {v v' : Value} (h : All2 (VR1 m) [v] [v']) : VR m v v' := by
  obtain ⟨y, hy, hr⟩ := h.2 0 v rfl
  simp only [List.getElem?_cons_zero, Option.some.injEq] at hy
  subst hy
  exact .inl (.inl hr)
end Go.Proofs.YtkdhdklggdbgdaaI
