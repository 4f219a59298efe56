/- A guard that is told nothing. -/
import Derived.Test.YtkdhdklggdbgdaaI16
set_option linter.unusedVariables false
set_option linter.unusedSimpArgs false
namespace Go.Proofs.YtkdhdklggdbgdaaI
open Go Go.RowKit
section
variable (F : Nat → Option IFn) (lo : Nat) (e : Env) (H : Heap)
theorem runs_undef {d : Option Nat} {op : IOp} {g : Nat} {w : Bool} (hg : e g = undef) : IOper.runs ⟨d, some (g, w), op⟩ e = false := by
  simp [IOper.runs, hg, undef]
@[go_sem] theorem wpo_offU (d : Option Nat) (op : IOp) (r : List IOper) (K : Env → Heap → Prop) (g : Nat) (w : Bool) (hg : e g = undef) : wpo F lo (⟨d, some (g, w), op⟩ :: r) e H K = wpo F lo r (putE e d undef) H K :=
  propext ⟨fun h => h.2 (runs_undef e hg), fun h => ⟨fun h' => (by rw [runs_undef e hg] at h'; cases h'), fun _ => h⟩⟩
@[go_sem] theorem wpp_offU (p : Nat) (d : Option Nat) (op : IOp) (r : List IOper) (K : Env → Heap → Prop) (g : Nat) (w : Bool) (hg : e g = undef) : wpp F lo (p + 1) (⟨d, some (g, w), op⟩ :: r) e H K = wpp F lo p r (putE e d undef) H K :=
  propext ⟨fun h => h.2 (runs_undef e hg), fun h => ⟨fun h' => (by rw [runs_undef e hg] at h'; cases h'), fun _ => h⟩⟩
end
end Go.Proofs.YtkdhdklggdbgdaaI
