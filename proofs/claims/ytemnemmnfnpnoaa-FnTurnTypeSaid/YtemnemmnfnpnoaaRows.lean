/-
  NARROWER THAN 'FOR EVERY INPUT', by the rows' own cells (each row's printed sentence says how): FnExactTurnVars: loops · FnExactTurnProg: loops.
  DERIVED. THE GIVEN ROWS OF THIS SEAT. 8 by the template 'for every input the law returns true; each argument reads behind the call as it read before'; 0 by the template 'total and deterministic' (their statements: YtemnemmnfnpnoaaTotals.lean).
  GIVEN WITH THE SEED: the statements are not yours to turn. If you find one false, say at which input.
  Laid BY PROGRAM, IN A SANDBOX (cutbox-rows.mjs): the forced cells as the released guide's own fill.sh prints them over the translation a76c848e468a835d… (all of the seat's roots in one cut). By AI agents, Wed Nov 11 2026. No macro, syntax, notation, axiom, sorry.
-/
import Derived.Test.YtemnemmnfnpnoaaChecked
import GoSem.Claim
import GoSem.ClaimJoined
import GoSem.ClaimMapViews
import Derived.JoinedTies
import Derived.KernelRfl
namespace Go.Proofs.Ytemnemmnfnpnoaa
/- THE CELL 'sum', in the pinned program and in every row, IS THE sha256 OF THE DUMP (.gsa) THAT YtemnemmnfnpnoaaProg.lean LOADS. Nothing in Lean hashes anything: it is a label: what it is worth is what the hold of that sum in a sandbox is worth. -/
noncomputable def Try.pinned : Pinned := { name := "ytemnemmnfnpnoaa", sum := "a76c848e468a835dc38a15389feff5194adabb3d6ab9995be2ea092666d56b58", checked := Try.checked }
namespace Rows
def none {H : Type} : Left H := { results := [], args := [] }

/-- 'laws.FnExactTurnVars': WHATEVER THE INPUT: true; the input reads as it did. -/
def fnExactTurnVarsSpec : ChangeSpec := { name := "fnExactTurnVars", fn := fun _ => fun
  | [d1, d2] => { results := [.lit (.bool true)], args := [d1, d2] }
  | _ => none }
def fnExactTurnVarsRow : OpenClaim := { program := "ytemnemmnfnpnoaa", sum := "a76c848e468a835dc38a15389feff5194adabb3d6ab9995be2ea092666d56b58", func := "loop.example/cloison/laws.FnExactTurnVars", spec := "fnExactTurnVars", unfollowed := true, recurses := true, loops := true, apart := false }
def FnExactTurnVarsSaid : Prop := fnExactTurnVarsRow.holds Try.pinned (OpenSpec.ofChange fnExactTurnVarsSpec)

/-- ITS FALSE NEIGHBOUR: 'it returns false'. Refute it at one input. -/
def fnExactTurnVarsWrong : ChangeSpec := { name := "fnExactTurnVars", fn := fun _ => fun
  | [d1, d2] => { results := [.lit (.bool false)], args := [d1, d2] }
  | _ => none }
def FnExactTurnVarsWrongFalsely : Prop := fnExactTurnVarsRow.holds Try.pinned (OpenSpec.ofChange fnExactTurnVarsWrong)

/-- 'laws.FnTurnVars': WHATEVER THE INPUT: true; the input reads as it did. -/
def fnTurnVarsSpec : ChangeSpec := { name := "fnTurnVars", fn := fun _ => fun
  | [d] => { results := [.lit (.bool true)], args := [d] }
  | _ => none }
def fnTurnVarsRow : OpenClaim := { program := "ytemnemmnfnpnoaa", sum := "a76c848e468a835dc38a15389feff5194adabb3d6ab9995be2ea092666d56b58", func := "loop.example/cloison/laws.FnTurnVars", spec := "fnTurnVars", unfollowed := true, recurses := true, apart := false }
def FnTurnVarsSaid : Prop := fnTurnVarsRow.holds Try.pinned (OpenSpec.ofChange fnTurnVarsSpec)

/-- ITS FALSE NEIGHBOUR: 'it returns false'. Refute it at one input. -/
def fnTurnVarsWrong : ChangeSpec := { name := "fnTurnVars", fn := fun _ => fun
  | [d] => { results := [.lit (.bool false)], args := [d] }
  | _ => none }
def FnTurnVarsWrongFalsely : Prop := fnTurnVarsRow.holds Try.pinned (OpenSpec.ofChange fnTurnVarsWrong)

/-- 'laws.FnExactTurnProg': WHATEVER THE INPUT: true; the input reads as it did. -/
def fnExactTurnProgSpec : ChangeSpec := { name := "fnExactTurnProg", fn := fun _ => fun
  | [d1, d2] => { results := [.lit (.bool true)], args := [d1, d2] }
  | _ => none }
def fnExactTurnProgRow : OpenClaim := { program := "ytemnemmnfnpnoaa", sum := "a76c848e468a835dc38a15389feff5194adabb3d6ab9995be2ea092666d56b58", func := "loop.example/cloison/laws.FnExactTurnProg", spec := "fnExactTurnProg", unfollowed := true, recurses := true, loops := true, apart := false }
def FnExactTurnProgSaid : Prop := fnExactTurnProgRow.holds Try.pinned (OpenSpec.ofChange fnExactTurnProgSpec)

/-- ITS FALSE NEIGHBOUR: 'it returns false'. Refute it at one input. -/
def fnExactTurnProgWrong : ChangeSpec := { name := "fnExactTurnProg", fn := fun _ => fun
  | [d1, d2] => { results := [.lit (.bool false)], args := [d1, d2] }
  | _ => none }
def FnExactTurnProgWrongFalsely : Prop := fnExactTurnProgRow.holds Try.pinned (OpenSpec.ofChange fnExactTurnProgWrong)

/-- 'laws.FnTurnProg': WHATEVER THE INPUT: true; the input reads as it did. -/
def fnTurnProgSpec : ChangeSpec := { name := "fnTurnProg", fn := fun _ => fun
  | [d] => { results := [.lit (.bool true)], args := [d] }
  | _ => none }
def fnTurnProgRow : OpenClaim := { program := "ytemnemmnfnpnoaa", sum := "a76c848e468a835dc38a15389feff5194adabb3d6ab9995be2ea092666d56b58", func := "loop.example/cloison/laws.FnTurnProg", spec := "fnTurnProg", unfollowed := true, recurses := true, apart := false }
def FnTurnProgSaid : Prop := fnTurnProgRow.holds Try.pinned (OpenSpec.ofChange fnTurnProgSpec)

/-- ITS FALSE NEIGHBOUR: 'it returns false'. Refute it at one input. -/
def fnTurnProgWrong : ChangeSpec := { name := "fnTurnProg", fn := fun _ => fun
  | [d] => { results := [.lit (.bool false)], args := [d] }
  | _ => none }
def FnTurnProgWrongFalsely : Prop := fnTurnProgRow.holds Try.pinned (OpenSpec.ofChange fnTurnProgWrong)

/-- 'laws.FnTurnSame': WHATEVER THE INPUT: true; the input reads as it did. -/
def fnTurnSameSpec : ChangeSpec := { name := "fnTurnSame", fn := fun _ => fun
  | [d] => { results := [.lit (.bool true)], args := [d] }
  | _ => none }
def fnTurnSameRow : OpenClaim := { program := "ytemnemmnfnpnoaa", sum := "a76c848e468a835dc38a15389feff5194adabb3d6ab9995be2ea092666d56b58", func := "loop.example/cloison/laws.FnTurnSame", spec := "fnTurnSame", unfollowed := true, recurses := true, apart := false }
def FnTurnSameSaid : Prop := fnTurnSameRow.holds Try.pinned (OpenSpec.ofChange fnTurnSameSpec)

/-- ITS FALSE NEIGHBOUR: 'it returns false'. Refute it at one input. -/
def fnTurnSameWrong : ChangeSpec := { name := "fnTurnSame", fn := fun _ => fun
  | [d] => { results := [.lit (.bool false)], args := [d] }
  | _ => none }
def FnTurnSameWrongFalsely : Prop := fnTurnSameRow.holds Try.pinned (OpenSpec.ofChange fnTurnSameWrong)

/-- 'laws.FnTurnType': WHATEVER THE INPUT: true; the input reads as it did. -/
def fnTurnTypeSpec : ChangeSpec := { name := "fnTurnType", fn := fun _ => fun
  | [d] => { results := [.lit (.bool true)], args := [d] }
  | _ => none }
def fnTurnTypeRow : OpenClaim := { program := "ytemnemmnfnpnoaa", sum := "a76c848e468a835dc38a15389feff5194adabb3d6ab9995be2ea092666d56b58", func := "loop.example/cloison/laws.FnTurnType", spec := "fnTurnType", unfollowed := true, recurses := true, apart := false }
def FnTurnTypeSaid : Prop := fnTurnTypeRow.holds Try.pinned (OpenSpec.ofChange fnTurnTypeSpec)

/-- ITS FALSE NEIGHBOUR: 'it returns false'. Refute it at one input. -/
def fnTurnTypeWrong : ChangeSpec := { name := "fnTurnType", fn := fun _ => fun
  | [d] => { results := [.lit (.bool false)], args := [d] }
  | _ => none }
def FnTurnTypeWrongFalsely : Prop := fnTurnTypeRow.holds Try.pinned (OpenSpec.ofChange fnTurnTypeWrong)

/-- 'laws.FnTurnVarsRun': WHATEVER THE INPUT: true; the input reads as it did. -/
def fnTurnVarsRunSpec : ChangeSpec := { name := "fnTurnVarsRun", fn := fun _ => fun
  | [d1, d2] => { results := [.lit (.bool true)], args := [d1, d2] }
  | _ => none }
def fnTurnVarsRunRow : OpenClaim := { program := "ytemnemmnfnpnoaa", sum := "a76c848e468a835dc38a15389feff5194adabb3d6ab9995be2ea092666d56b58", func := "loop.example/cloison/laws.FnTurnVarsRun", spec := "fnTurnVarsRun", unfollowed := true, recurses := true, apart := false }
def FnTurnVarsRunSaid : Prop := fnTurnVarsRunRow.holds Try.pinned (OpenSpec.ofChange fnTurnVarsRunSpec)

/-- ITS FALSE NEIGHBOUR: 'it returns false'. Refute it at one input. -/
def fnTurnVarsRunWrong : ChangeSpec := { name := "fnTurnVarsRun", fn := fun _ => fun
  | [d1, d2] => { results := [.lit (.bool false)], args := [d1, d2] }
  | _ => none }
def FnTurnVarsRunWrongFalsely : Prop := fnTurnVarsRunRow.holds Try.pinned (OpenSpec.ofChange fnTurnVarsRunWrong)

/-- 'laws.FnTurnRun': WHATEVER THE INPUT: true; the input reads as it did. -/
def fnTurnRunSpec : ChangeSpec := { name := "fnTurnRun", fn := fun _ => fun
  | [d1, d2] => { results := [.lit (.bool true)], args := [d1, d2] }
  | _ => none }
def fnTurnRunRow : OpenClaim := { program := "ytemnemmnfnpnoaa", sum := "a76c848e468a835dc38a15389feff5194adabb3d6ab9995be2ea092666d56b58", func := "loop.example/cloison/laws.FnTurnRun", spec := "fnTurnRun", unfollowed := true, recurses := true, apart := false }
def FnTurnRunSaid : Prop := fnTurnRunRow.holds Try.pinned (OpenSpec.ofChange fnTurnRunSpec)

/-- ITS FALSE NEIGHBOUR: 'it returns false'. Refute it at one input. -/
def fnTurnRunWrong : ChangeSpec := { name := "fnTurnRun", fn := fun _ => fun
  | [d1, d2] => { results := [.lit (.bool false)], args := [d1, d2] }
  | _ => none }
def FnTurnRunWrongFalsely : Prop := fnTurnRunRow.holds Try.pinned (OpenSpec.ofChange fnTurnRunWrong)

/- THE SECOND FORM. 'bulk': how many values and letters a reading holds, each counted each time it is reached (what is shared counts as often as it is met; a slice's spare places count too). A statement '..UptoSaid' is the law's where the arguments, and the package variables that the reading takes, are together of bulk at most 1048576: NARROWER than '..Said'. Prove '..Said' where nothing that the law and all that it calls make is longer than what came in: it says more and counts as full. Else prove '..UptoSaid'. A law counts once. -/
mutual
def uptoBulk {H : Type} : DataW H → Nat
  | .lit (.string bytes) => bytes.length + 1
  | .lit _ => 1
  | .nil => 1
  | .ptr d => uptoBulk d + 1
  | .slice elems spare => uptoBulkAll elems + uptoBulkAll spare + 1
  | .agg parts => uptoBulkAll parts + 1
  | .iface _ d => uptoBulk d + 1
  | .map entries => uptoBulkEntries entries + 1
  | .held _ => 1
def uptoBulkAll {H : Type} : List (DataW H) → Nat
  | [] => 0
  | d :: r => uptoBulk d + uptoBulkAll r
def uptoBulkEntries {H : Type} : List (Lit × DataW H) → Nat
  | [] => 0
  | x :: r => uptoBulkEntry x + uptoBulkEntries r
def uptoBulkEntry {H : Type} : Lit × DataW H → Nat
  | (.string bytes, d) => bytes.length + uptoBulk d + 1
  | (_, d) => uptoBulk d + 1
 end
def uptoSmall : (H : Type) → List (DataW H) → Bool := fun _ ds => decide (uptoBulkAll ds ≤ 1048576)
def OpenSpec.upto (s : _root_.Go.ChangeSpec) : _root_.Go.OpenSpec := { _root_.Go.OpenSpec.ofChange s with cond := some uptoSmall }

/-- 'laws.FnExactTurnVars', WHERE WHAT IT READS IS OF BULK AT MOST 1048576: true; the input reads as it did. -/
def fnExactTurnVarsUptoRow : OpenClaim := { program := "ytemnemmnfnpnoaa", sum := "a76c848e468a835dc38a15389feff5194adabb3d6ab9995be2ea092666d56b58", func := "loop.example/cloison/laws.FnExactTurnVars", spec := "fnExactTurnVars", unfollowed := true, recurses := true, loops := true, apart := false, narrowed := true }
def FnExactTurnVarsUptoSaid : Prop := fnExactTurnVarsUptoRow.holds Try.pinned (OpenSpec.upto fnExactTurnVarsSpec)

/-- 'laws.FnTurnVars', WHERE WHAT IT READS IS OF BULK AT MOST 1048576: true; the input reads as it did. -/
def fnTurnVarsUptoRow : OpenClaim := { program := "ytemnemmnfnpnoaa", sum := "a76c848e468a835dc38a15389feff5194adabb3d6ab9995be2ea092666d56b58", func := "loop.example/cloison/laws.FnTurnVars", spec := "fnTurnVars", unfollowed := true, recurses := true, apart := false, narrowed := true }
def FnTurnVarsUptoSaid : Prop := fnTurnVarsUptoRow.holds Try.pinned (OpenSpec.upto fnTurnVarsSpec)

/-- 'laws.FnExactTurnProg', WHERE WHAT IT READS IS OF BULK AT MOST 1048576: true; the input reads as it did. -/
def fnExactTurnProgUptoRow : OpenClaim := { program := "ytemnemmnfnpnoaa", sum := "a76c848e468a835dc38a15389feff5194adabb3d6ab9995be2ea092666d56b58", func := "loop.example/cloison/laws.FnExactTurnProg", spec := "fnExactTurnProg", unfollowed := true, recurses := true, loops := true, apart := false, narrowed := true }
def FnExactTurnProgUptoSaid : Prop := fnExactTurnProgUptoRow.holds Try.pinned (OpenSpec.upto fnExactTurnProgSpec)

/-- 'laws.FnTurnProg', WHERE WHAT IT READS IS OF BULK AT MOST 1048576: true; the input reads as it did. -/
def fnTurnProgUptoRow : OpenClaim := { program := "ytemnemmnfnpnoaa", sum := "a76c848e468a835dc38a15389feff5194adabb3d6ab9995be2ea092666d56b58", func := "loop.example/cloison/laws.FnTurnProg", spec := "fnTurnProg", unfollowed := true, recurses := true, apart := false, narrowed := true }
def FnTurnProgUptoSaid : Prop := fnTurnProgUptoRow.holds Try.pinned (OpenSpec.upto fnTurnProgSpec)

/-- 'laws.FnTurnSame', WHERE WHAT IT READS IS OF BULK AT MOST 1048576: true; the input reads as it did. -/
def fnTurnSameUptoRow : OpenClaim := { program := "ytemnemmnfnpnoaa", sum := "a76c848e468a835dc38a15389feff5194adabb3d6ab9995be2ea092666d56b58", func := "loop.example/cloison/laws.FnTurnSame", spec := "fnTurnSame", unfollowed := true, recurses := true, apart := false, narrowed := true }
def FnTurnSameUptoSaid : Prop := fnTurnSameUptoRow.holds Try.pinned (OpenSpec.upto fnTurnSameSpec)

/-- 'laws.FnTurnType', WHERE WHAT IT READS IS OF BULK AT MOST 1048576: true; the input reads as it did. -/
def fnTurnTypeUptoRow : OpenClaim := { program := "ytemnemmnfnpnoaa", sum := "a76c848e468a835dc38a15389feff5194adabb3d6ab9995be2ea092666d56b58", func := "loop.example/cloison/laws.FnTurnType", spec := "fnTurnType", unfollowed := true, recurses := true, apart := false, narrowed := true }
def FnTurnTypeUptoSaid : Prop := fnTurnTypeUptoRow.holds Try.pinned (OpenSpec.upto fnTurnTypeSpec)

/-- 'laws.FnTurnVarsRun', WHERE WHAT IT READS IS OF BULK AT MOST 1048576: true; the input reads as it did. -/
def fnTurnVarsRunUptoRow : OpenClaim := { program := "ytemnemmnfnpnoaa", sum := "a76c848e468a835dc38a15389feff5194adabb3d6ab9995be2ea092666d56b58", func := "loop.example/cloison/laws.FnTurnVarsRun", spec := "fnTurnVarsRun", unfollowed := true, recurses := true, apart := false, narrowed := true }
def FnTurnVarsRunUptoSaid : Prop := fnTurnVarsRunUptoRow.holds Try.pinned (OpenSpec.upto fnTurnVarsRunSpec)

/-- 'laws.FnTurnRun', WHERE WHAT IT READS IS OF BULK AT MOST 1048576: true; the input reads as it did. -/
def fnTurnRunUptoRow : OpenClaim := { program := "ytemnemmnfnpnoaa", sum := "a76c848e468a835dc38a15389feff5194adabb3d6ab9995be2ea092666d56b58", func := "loop.example/cloison/laws.FnTurnRun", spec := "fnTurnRun", unfollowed := true, recurses := true, apart := false, narrowed := true }
def FnTurnRunUptoSaid : Prop := fnTurnRunUptoRow.holds Try.pinned (OpenSpec.upto fnTurnRunSpec)

end Rows
end Go.Proofs.Ytemnemmnfnpnoaa
