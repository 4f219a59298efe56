/-
  NARROWER THAN 'FOR EVERY INPUT', by the rows' own cells (each row's printed sentence says how): FnExactPlanHome: loops.
  DERIVED. THE GIVEN ROWS OF THIS SEAT. 3 by the template 'for every input the law returns true; each argument reads behind the call as it read before'; 0 by the template 'total and deterministic' (their statements: YtkdhdklggdbgdaaTotals.lean).
  GIVEN WITH THE SEED: the statements are not yours to turn. If you find one false, say at which input.
  Laid BY PROGRAM, IN A SANDBOX (cutbox-rows.mjs): the forced cells as the released guide's own fill.sh prints them over the translation b3a1f5b13aebe09d… (all of the seat's roots in one cut). By AI agents, Wed Nov 11 2026. No macro, syntax, notation, axiom, sorry.
-/
import Derived.Test.YtkdhdklggdbgdaaChecked
import GoSem.Claim
import GoSem.ClaimJoined
import GoSem.ClaimMapViews
import Derived.JoinedTies
import Derived.KernelRfl
namespace Go.Proofs.Ytkdhdklggdbgdaa
/- THE CELL 'sum', in the pinned program and in every row, IS THE sha256 OF THE DUMP (.gsa) THAT YtkdhdklggdbgdaaProg.lean LOADS. Nothing in Lean hashes anything: it is a label: what it is worth is what the hold of that sum in a sandbox is worth. -/
noncomputable def Try.pinned : Pinned := { name := "ytkdhdklggdbgdaa", sum := "b3a1f5b13aebe09d6baf572aaca6c58806672ec557eb49016edeca8542cd30fa", checked := Try.checked }
namespace Rows
def none {H : Type} : Left H := { results := [], args := [] }

/-- 'laws.FnExactPartCount': WHATEVER THE INPUT: true; the input reads as it did. -/
def fnExactPartCountSpec : ChangeSpec := { name := "fnExactPartCount", fn := fun _ => fun
  | [d] => { results := [.lit (.bool true)], args := [d] }
  | _ => none }
def fnExactPartCountRow : OpenClaim := { program := "ytkdhdklggdbgdaa", sum := "b3a1f5b13aebe09d6baf572aaca6c58806672ec557eb49016edeca8542cd30fa", func := "loop.example/cloison/laws.FnExactPartCount", spec := "fnExactPartCount", apart := false }
def FnExactPartCountSaid : Prop := fnExactPartCountRow.holds Try.pinned (OpenSpec.ofChange fnExactPartCountSpec)

/-- ITS FALSE NEIGHBOUR: 'it returns false'. Refute it at one input. -/
def fnExactPartCountWrong : ChangeSpec := { name := "fnExactPartCount", fn := fun _ => fun
  | [d] => { results := [.lit (.bool false)], args := [d] }
  | _ => none }
def FnExactPartCountWrongFalsely : Prop := fnExactPartCountRow.holds Try.pinned (OpenSpec.ofChange fnExactPartCountWrong)

/-- 'laws.FnExactPlanHome': WHATEVER THE INPUT: true; the input reads as it did. -/
def fnExactPlanHomeSpec : ChangeSpec := { name := "fnExactPlanHome", fn := fun _ => fun
  | [d1, d2, d3, d4] => { results := [.lit (.bool true)], args := [d1, d2, d3, d4] }
  | _ => none }
def fnExactPlanHomeRow : OpenClaim := { program := "ytkdhdklggdbgdaa", sum := "b3a1f5b13aebe09d6baf572aaca6c58806672ec557eb49016edeca8542cd30fa", func := "loop.example/cloison/laws.FnExactPlanHome", spec := "fnExactPlanHome", unfollowed := true, recurses := true, loops := true, apart := false }
def FnExactPlanHomeSaid : Prop := fnExactPlanHomeRow.holds Try.pinned (OpenSpec.ofChange fnExactPlanHomeSpec)

/-- ITS FALSE NEIGHBOUR: 'it returns false'. Refute it at one input. -/
def fnExactPlanHomeWrong : ChangeSpec := { name := "fnExactPlanHome", fn := fun _ => fun
  | [d1, d2, d3, d4] => { results := [.lit (.bool false)], args := [d1, d2, d3, d4] }
  | _ => none }
def FnExactPlanHomeWrongFalsely : Prop := fnExactPlanHomeRow.holds Try.pinned (OpenSpec.ofChange fnExactPlanHomeWrong)

/-- 'laws.FnExactPartView': WHATEVER THE INPUT: true; the input reads as it did. -/
def fnExactPartViewSpec : ChangeSpec := { name := "fnExactPartView", fn := fun _ => fun
  | [d1, d2] => { results := [.lit (.bool true)], args := [d1, d2] }
  | _ => none }
def fnExactPartViewRow : OpenClaim := { program := "ytkdhdklggdbgdaa", sum := "b3a1f5b13aebe09d6baf572aaca6c58806672ec557eb49016edeca8542cd30fa", func := "loop.example/cloison/laws.FnExactPartView", spec := "fnExactPartView", apart := false }
def FnExactPartViewSaid : Prop := fnExactPartViewRow.holds Try.pinned (OpenSpec.ofChange fnExactPartViewSpec)

/-- ITS FALSE NEIGHBOUR: 'it returns false'. Refute it at one input. -/
def fnExactPartViewWrong : ChangeSpec := { name := "fnExactPartView", fn := fun _ => fun
  | [d1, d2] => { results := [.lit (.bool false)], args := [d1, d2] }
  | _ => none }
def FnExactPartViewWrongFalsely : Prop := fnExactPartViewRow.holds Try.pinned (OpenSpec.ofChange fnExactPartViewWrong)

/- THE SECOND FORM. 'bulk': how many values and letters a reading holds, each counted each time it is reached (what is shared counts as often as it is met; a slice's spare places count too). A statement '..UptoSaid' is the law's where the arguments, and the package variables that the reading takes, are together of bulk at most 1048576: NARROWER than '..Said'. Prove '..Said' where nothing that the law and all that it calls make is longer than what came in: it says more and counts as full. Else prove '..UptoSaid'. A law counts once. -/
mutual
def uptoBulk {H : Type} : DataW H → Nat
  | .lit (.string bytes) => bytes.length + 1
  | .lit _ => 1
  | .nil => 1
  | .ptr d => uptoBulk d + 1
  | .slice elems spare => uptoBulkAll elems + uptoBulkAll spare + 1
  | .agg parts => uptoBulkAll parts + 1
  | .iface _ d => uptoBulk d + 1
  | .map entries => uptoBulkEntries entries + 1
  | .held _ => 1
def uptoBulkAll {H : Type} : List (DataW H) → Nat
  | [] => 0
  | d :: r => uptoBulk d + uptoBulkAll r
def uptoBulkEntries {H : Type} : List (Lit × DataW H) → Nat
  | [] => 0
  | x :: r => uptoBulkEntry x + uptoBulkEntries r
def uptoBulkEntry {H : Type} : Lit × DataW H → Nat
  | (.string bytes, d) => bytes.length + uptoBulk d + 1
  | (_, d) => uptoBulk d + 1
 end
def uptoSmall : (H : Type) → List (DataW H) → Bool := fun _ ds => decide (uptoBulkAll ds ≤ 1048576)
def OpenSpec.upto (s : _root_.Go.ChangeSpec) : _root_.Go.OpenSpec := { _root_.Go.OpenSpec.ofChange s with cond := some uptoSmall }

/-- 'laws.FnExactPartCount', WHERE WHAT IT READS IS OF BULK AT MOST 1048576: true; the input reads as it did. -/
def fnExactPartCountUptoRow : OpenClaim := { program := "ytkdhdklggdbgdaa", sum := "b3a1f5b13aebe09d6baf572aaca6c58806672ec557eb49016edeca8542cd30fa", func := "loop.example/cloison/laws.FnExactPartCount", spec := "fnExactPartCount", apart := false, narrowed := true }
def FnExactPartCountUptoSaid : Prop := fnExactPartCountUptoRow.holds Try.pinned (OpenSpec.upto fnExactPartCountSpec)

/-- 'laws.FnExactPlanHome', WHERE WHAT IT READS IS OF BULK AT MOST 1048576: true; the input reads as it did. -/
def fnExactPlanHomeUptoRow : OpenClaim := { program := "ytkdhdklggdbgdaa", sum := "b3a1f5b13aebe09d6baf572aaca6c58806672ec557eb49016edeca8542cd30fa", func := "loop.example/cloison/laws.FnExactPlanHome", spec := "fnExactPlanHome", unfollowed := true, recurses := true, loops := true, apart := false, narrowed := true }
def FnExactPlanHomeUptoSaid : Prop := fnExactPlanHomeUptoRow.holds Try.pinned (OpenSpec.upto fnExactPlanHomeSpec)

/-- 'laws.FnExactPartView', WHERE WHAT IT READS IS OF BULK AT MOST 1048576: true; the input reads as it did. -/
def fnExactPartViewUptoRow : OpenClaim := { program := "ytkdhdklggdbgdaa", sum := "b3a1f5b13aebe09d6baf572aaca6c58806672ec557eb49016edeca8542cd30fa", func := "loop.example/cloison/laws.FnExactPartView", spec := "fnExactPartView", apart := false, narrowed := true }
def FnExactPartViewUptoSaid : Prop := fnExactPartViewUptoRow.holds Try.pinned (OpenSpec.upto fnExactPartViewSpec)

end Rows
end Go.Proofs.Ytkdhdklggdbgdaa
