/-
  NARROWER THAN 'FOR EVERY INPUT', by the rows' own cells (each row's printed sentence says how): FnExactTurnVars: loops · FnExactTurnProg: loops · FnExactRunOf: loops.
  DERIVED. THE GIVEN ROWS OF THIS SEAT. 4 by the template 'for every input the law returns true; each argument reads behind the call as it read before'; 0 by the template 'total and deterministic' (their statements: YtmakdcbpohlacaaTotals.lean).
  GIVEN WITH THE SEED: the statements are not yours to turn. If you find one false, say at which input.
  Laid BY PROGRAM, IN A SANDBOX (cutbox-rows.mjs): the forced cells as the released guide's own fill.sh prints them over the translation c427da06c1c0cc3f… (all of the seat's roots in one cut). By AI agents, Wed Nov 11 2026. No macro, syntax, notation, axiom, sorry.
-/
import Derived.Test.YtmakdcbpohlacaaChecked
import GoSem.Claim
import GoSem.ClaimJoined
import GoSem.ClaimMapViews
import Derived.JoinedTies
import Derived.KernelRfl
namespace Go.Proofs.Ytmakdcbpohlacaa
/- THE CELL 'sum', in the pinned program and in every row, IS THE sha256 OF THE DUMP (.gsa) THAT YtmakdcbpohlacaaProg.lean LOADS. Nothing in Lean hashes anything: it is a label: what it is worth is what the hold of that sum in a sandbox is worth. -/
noncomputable def Try.pinned : Pinned := { name := "ytmakdcbpohlacaa", sum := "c427da06c1c0cc3f871bc99d3ffc875c63296de21e005aca98cbcaadcff6fe23", checked := Try.checked }
namespace Rows
def none {H : Type} : Left H := { results := [], args := [] }

/-- 'laws.FnExactTurnVars': WHATEVER THE INPUT: true; the input reads as it did. -/
def fnExactTurnVarsSpec : ChangeSpec := { name := "fnExactTurnVars", fn := fun _ => fun
  | [d1, d2] => { results := [.lit (.bool true)], args := [d1, d2] }
  | _ => none }
def fnExactTurnVarsRow : OpenClaim := { program := "ytmakdcbpohlacaa", sum := "c427da06c1c0cc3f871bc99d3ffc875c63296de21e005aca98cbcaadcff6fe23", func := "loop.example/cloison/laws.FnExactTurnVars", spec := "fnExactTurnVars", unfollowed := true, recurses := true, loops := true, apart := false }
def FnExactTurnVarsSaid : Prop := fnExactTurnVarsRow.holds Try.pinned (OpenSpec.ofChange fnExactTurnVarsSpec)

/-- ITS FALSE NEIGHBOUR: 'it returns false'. Refute it at one input. -/
def fnExactTurnVarsWrong : ChangeSpec := { name := "fnExactTurnVars", fn := fun _ => fun
  | [d1, d2] => { results := [.lit (.bool false)], args := [d1, d2] }
  | _ => none }
def FnExactTurnVarsWrongFalsely : Prop := fnExactTurnVarsRow.holds Try.pinned (OpenSpec.ofChange fnExactTurnVarsWrong)

/-- 'laws.FnExactTurnProg': WHATEVER THE INPUT: true; the input reads as it did. -/
def fnExactTurnProgSpec : ChangeSpec := { name := "fnExactTurnProg", fn := fun _ => fun
  | [d1, d2] => { results := [.lit (.bool true)], args := [d1, d2] }
  | _ => none }
def fnExactTurnProgRow : OpenClaim := { program := "ytmakdcbpohlacaa", sum := "c427da06c1c0cc3f871bc99d3ffc875c63296de21e005aca98cbcaadcff6fe23", func := "loop.example/cloison/laws.FnExactTurnProg", spec := "fnExactTurnProg", unfollowed := true, recurses := true, loops := true, apart := false }
def FnExactTurnProgSaid : Prop := fnExactTurnProgRow.holds Try.pinned (OpenSpec.ofChange fnExactTurnProgSpec)

/-- ITS FALSE NEIGHBOUR: 'it returns false'. Refute it at one input. -/
def fnExactTurnProgWrong : ChangeSpec := { name := "fnExactTurnProg", fn := fun _ => fun
  | [d1, d2] => { results := [.lit (.bool false)], args := [d1, d2] }
  | _ => none }
def FnExactTurnProgWrongFalsely : Prop := fnExactTurnProgRow.holds Try.pinned (OpenSpec.ofChange fnExactTurnProgWrong)

/-- 'laws.FnRunCut': WHATEVER THE INPUT: true; the input reads as it did. -/
def fnRunCutSpec : ChangeSpec := { name := "fnRunCut", fn := fun _ => fun
  | [d1, d2] => { results := [.lit (.bool true)], args := [d1, d2] }
  | _ => none }
def fnRunCutRow : OpenClaim := { program := "ytmakdcbpohlacaa", sum := "c427da06c1c0cc3f871bc99d3ffc875c63296de21e005aca98cbcaadcff6fe23", func := "loop.example/cloison/laws.FnRunCut", spec := "fnRunCut", unfollowed := true, recurses := true, apart := false }
def FnRunCutSaid : Prop := fnRunCutRow.holds Try.pinned (OpenSpec.ofChange fnRunCutSpec)

/-- ITS FALSE NEIGHBOUR: 'it returns false'. Refute it at one input. -/
def fnRunCutWrong : ChangeSpec := { name := "fnRunCut", fn := fun _ => fun
  | [d1, d2] => { results := [.lit (.bool false)], args := [d1, d2] }
  | _ => none }
def FnRunCutWrongFalsely : Prop := fnRunCutRow.holds Try.pinned (OpenSpec.ofChange fnRunCutWrong)

/-- 'laws.FnExactRunOf': WHATEVER THE INPUT: true; the input reads as it did. -/
def fnExactRunOfSpec : ChangeSpec := { name := "fnExactRunOf", fn := fun _ => fun
  | [d1, d2] => { results := [.lit (.bool true)], args := [d1, d2] }
  | _ => none }
def fnExactRunOfRow : OpenClaim := { program := "ytmakdcbpohlacaa", sum := "c427da06c1c0cc3f871bc99d3ffc875c63296de21e005aca98cbcaadcff6fe23", func := "loop.example/cloison/laws.FnExactRunOf", spec := "fnExactRunOf", unfollowed := true, recurses := true, loops := true, apart := false }
def FnExactRunOfSaid : Prop := fnExactRunOfRow.holds Try.pinned (OpenSpec.ofChange fnExactRunOfSpec)

/-- ITS FALSE NEIGHBOUR: 'it returns false'. Refute it at one input. -/
def fnExactRunOfWrong : ChangeSpec := { name := "fnExactRunOf", fn := fun _ => fun
  | [d1, d2] => { results := [.lit (.bool false)], args := [d1, d2] }
  | _ => none }
def FnExactRunOfWrongFalsely : Prop := fnExactRunOfRow.holds Try.pinned (OpenSpec.ofChange fnExactRunOfWrong)

/- THE SECOND FORM. 'bulk': how many values and letters a reading holds, each counted each time it is reached (what is shared counts as often as it is met; a slice's spare places count too). A statement '..UptoSaid' is the law's where the arguments, and the package variables that the reading takes, are together of bulk at most 1048576: NARROWER than '..Said'. Prove '..Said' where nothing that the law and all that it calls make is longer than what came in: it says more and counts as full. Else prove '..UptoSaid'. A law counts once. -/
mutual
def uptoBulk {H : Type} : DataW H → Nat
  | .lit (.string bytes) => bytes.length + 1
  | .lit _ => 1
  | .nil => 1
  | .ptr d => uptoBulk d + 1
  | .slice elems spare => uptoBulkAll elems + uptoBulkAll spare + 1
  | .agg parts => uptoBulkAll parts + 1
  | .iface _ d => uptoBulk d + 1
  | .map entries => uptoBulkEntries entries + 1
  | .held _ => 1
def uptoBulkAll {H : Type} : List (DataW H) → Nat
  | [] => 0
  | d :: r => uptoBulk d + uptoBulkAll r
def uptoBulkEntries {H : Type} : List (Lit × DataW H) → Nat
  | [] => 0
  | x :: r => uptoBulkEntry x + uptoBulkEntries r
def uptoBulkEntry {H : Type} : Lit × DataW H → Nat
  | (.string bytes, d) => bytes.length + uptoBulk d + 1
  | (_, d) => uptoBulk d + 1
 end
def uptoSmall : (H : Type) → List (DataW H) → Bool := fun _ ds => decide (uptoBulkAll ds ≤ 1048576)
def OpenSpec.upto (s : _root_.Go.ChangeSpec) : _root_.Go.OpenSpec := { _root_.Go.OpenSpec.ofChange s with cond := some uptoSmall }

/-- 'laws.FnExactTurnVars', WHERE WHAT IT READS IS OF BULK AT MOST 1048576: true; the input reads as it did. -/
def fnExactTurnVarsUptoRow : OpenClaim := { program := "ytmakdcbpohlacaa", sum := "c427da06c1c0cc3f871bc99d3ffc875c63296de21e005aca98cbcaadcff6fe23", func := "loop.example/cloison/laws.FnExactTurnVars", spec := "fnExactTurnVars", unfollowed := true, recurses := true, loops := true, apart := false, narrowed := true }
def FnExactTurnVarsUptoSaid : Prop := fnExactTurnVarsUptoRow.holds Try.pinned (OpenSpec.upto fnExactTurnVarsSpec)

/-- 'laws.FnExactTurnProg', WHERE WHAT IT READS IS OF BULK AT MOST 1048576: true; the input reads as it did. -/
def fnExactTurnProgUptoRow : OpenClaim := { program := "ytmakdcbpohlacaa", sum := "c427da06c1c0cc3f871bc99d3ffc875c63296de21e005aca98cbcaadcff6fe23", func := "loop.example/cloison/laws.FnExactTurnProg", spec := "fnExactTurnProg", unfollowed := true, recurses := true, loops := true, apart := false, narrowed := true }
def FnExactTurnProgUptoSaid : Prop := fnExactTurnProgUptoRow.holds Try.pinned (OpenSpec.upto fnExactTurnProgSpec)

/-- 'laws.FnRunCut', WHERE WHAT IT READS IS OF BULK AT MOST 1048576: true; the input reads as it did. -/
def fnRunCutUptoRow : OpenClaim := { program := "ytmakdcbpohlacaa", sum := "c427da06c1c0cc3f871bc99d3ffc875c63296de21e005aca98cbcaadcff6fe23", func := "loop.example/cloison/laws.FnRunCut", spec := "fnRunCut", unfollowed := true, recurses := true, apart := false, narrowed := true }
def FnRunCutUptoSaid : Prop := fnRunCutUptoRow.holds Try.pinned (OpenSpec.upto fnRunCutSpec)

/-- 'laws.FnExactRunOf', WHERE WHAT IT READS IS OF BULK AT MOST 1048576: true; the input reads as it did. -/
def fnExactRunOfUptoRow : OpenClaim := { program := "ytmakdcbpohlacaa", sum := "c427da06c1c0cc3f871bc99d3ffc875c63296de21e005aca98cbcaadcff6fe23", func := "loop.example/cloison/laws.FnExactRunOf", spec := "fnExactRunOf", unfollowed := true, recurses := true, loops := true, apart := false, narrowed := true }
def FnExactRunOfUptoSaid : Prop := fnExactRunOfUptoRow.holds Try.pinned (OpenSpec.upto fnExactRunOfSpec)

end Rows
end Go.Proofs.Ytmakdcbpohlacaa
