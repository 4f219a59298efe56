/- The law FnExactPlanHome, called in the model. -/
import Derived.Test.YtkdhdklggdbgdaaQ14
import Derived.Test.YtkdhdklggdbgdaaQ15
set_option linter.unusedVariables false
set_option linter.unusedSimpArgs false
namespace Go.Proofs.YtkdhdklggdbgdaaI
open Go Go.RowKit
theorem lawPH_calls {W : World} {c0 : Array Value} {a : Option Addr} {l c : Nat} {x y : Int} (g0 : ∃ d, Good (Co.prog d) W c0.toList) (g1 : Good (Co.sl Co.int) W [.slice a l c]) :
    Calls Try.prog 4 #[.agg c0, .slice a l c, .int .i64 x, .int .i64 y] W fun e w' => e = .returned (.bool true) ∧ Below W.heap.size W w' := by
  obtain ⟨d, g0⟩ := g0
  obtain ⟨p, L, m, cs0, s, q, r, e⟩ := g0 [] (fun _ => none) (SL.none _)
  rw [List.nil_append] at s r
  obtain ⟨ts, L2, m2, cs1, s2, q2, r2, e2⟩ := g1 L m s
  obtain ⟨u, rfl, hu⟩ := r2
  exact law_core hF hMixed s2 (vals := [.agg cs0.toArray, u, .int .i64 x, .int .i64 y]) (All2.cons (VR.agg_mk (e.mono fun _ _ _ h => VR1.mono q2 h)) (All2.cons (VR.one_mk e2) (All2.cons VR.int_mk (All2.cons VR.int_mk All2.nil))))
    (ok_law _ d _ _ p ts x y ⟨cs0, rfl, (Co.prog d).mono (vw_app 0 L L2) r⟩ hu)
end Go.Proofs.YtkdhdklggdbgdaaI
