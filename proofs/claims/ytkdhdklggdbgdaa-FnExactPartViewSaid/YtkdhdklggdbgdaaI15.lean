/- A law of the ideal machine is a law of the program. -/
import Derived.Test.YtkdhdklggdbgdaaI14
import Derived.Below
set_option linter.unusedVariables false
set_option linter.unusedSimpArgs false
namespace Go.Proofs.YtkdhdklggdbgdaaI
open Go Go.RowKit
theorem law_calls {P : Program} {F : Nat → Option IFn} {cm : Nat → CM} {n : Nat} (hF : ∀ g fn, F g = some fn → cFn P cm g = some fn) (hm : P.follows .mixedOrders = true) {α : Type} {A : Co α}
    (hlaw : ∀ (H : Heap) (v : Value) a, Rd A true (vw 0 H) v a → QC F n [v] H (.bool true)) {W : World} {cs : Array Value} (g : Good A W cs.toList) :
    Calls P n #[.agg cs] W fun e w' => e = .returned (.bool true) ∧ Below W.heap.size W w' := by
  obtain ⟨a, L, m, cs0, s, _, r, e⟩ := g [] (fun _ => none) (SL.none _)
  rw [List.nil_append] at s r
  obtain ⟨fn, x, e1, H1, h1, h2, h3, h4, h5, h6⟩ := hlaw L (.agg cs0.toArray) a ⟨cs0, rfl, r⟩
  have hv : All2 (VR m) [.agg cs0.toArray] #[Value.agg cs].toList := All2.cons (.inl (.inr ⟨_, _, rfl, rfl, e⟩)) All2.nil
  refine call_core (hF _ _ h1) h2 (sound hF hm h3) h4 h5 s.sim hv _ ?_
  intro v' w' m' _ _ q3 q4
  exact ⟨by rw [q3.bool], q4⟩
end Go.Proofs.YtkdhdklggdbgdaaI
