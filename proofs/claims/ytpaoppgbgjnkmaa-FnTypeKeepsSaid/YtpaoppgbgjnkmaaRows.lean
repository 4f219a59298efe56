/-
  NARROWER THAN 'FOR EVERY INPUT', by the rows' own cells (each row's printed sentence says how): FnExactRunOf: loops.
  DERIVED. THE GIVEN ROWS OF THIS SEAT. 9 by the template 'for every input the law returns true; each argument reads behind the call as it read before'; 0 by the template 'total and deterministic' (their statements: YtpaoppgbgjnkmaaTotals.lean).
  GIVEN WITH THE SEED: the statements are not yours to turn. If you find one false, say at which input.
  Laid BY PROGRAM, IN A SANDBOX (cutbox-rows.mjs): the forced cells as the released guide's own fill.sh prints them over the translation b62e34368ddc3cf7… (all of the seat's roots in one cut). By AI agents, Wed Nov 11 2026. No macro, syntax, notation, axiom, sorry.
-/
import Derived.Test.YtpaoppgbgjnkmaaChecked
import GoSem.Claim
import GoSem.ClaimJoined
import GoSem.ClaimMapViews
import Derived.JoinedTies
import Derived.KernelRfl
namespace Go.Proofs.Ytpaoppgbgjnkmaa
/- THE CELL 'sum', in the pinned program and in every row, IS THE sha256 OF THE DUMP (.gsa) THAT YtpaoppgbgjnkmaaProg.lean LOADS. Nothing in Lean hashes anything: it is a label: what it is worth is what the hold of that sum in a sandbox is worth. -/
noncomputable def Try.pinned : Pinned := { name := "ytpaoppgbgjnkmaa", sum := "b62e34368ddc3cf7444a885386890e635605ddb0ba6346dcbe7e8b09246bcf15", checked := Try.checked }
namespace Rows
def none {H : Type} : Left H := { results := [], args := [] }

/-- 'laws.FnRunNums': WHATEVER THE INPUT: true; the input reads as it did. -/
def fnRunNumsSpec : ChangeSpec := { name := "fnRunNums", fn := fun _ => fun
  | [d] => { results := [.lit (.bool true)], args := [d] }
  | _ => none }
def fnRunNumsRow : OpenClaim := { program := "ytpaoppgbgjnkmaa", sum := "b62e34368ddc3cf7444a885386890e635605ddb0ba6346dcbe7e8b09246bcf15", func := "loop.example/cloison/laws.FnRunNums", spec := "fnRunNums", unfollowed := true, recurses := true, apart := false }
def FnRunNumsSaid : Prop := fnRunNumsRow.holds Try.pinned (OpenSpec.ofChange fnRunNumsSpec)

/-- ITS FALSE NEIGHBOUR: 'it returns false'. Refute it at one input. -/
def fnRunNumsWrong : ChangeSpec := { name := "fnRunNums", fn := fun _ => fun
  | [d] => { results := [.lit (.bool false)], args := [d] }
  | _ => none }
def FnRunNumsWrongFalsely : Prop := fnRunNumsRow.holds Try.pinned (OpenSpec.ofChange fnRunNumsWrong)

/-- 'laws.FnRunVal': WHATEVER THE INPUT: true; the input reads as it did. -/
def fnRunValSpec : ChangeSpec := { name := "fnRunVal", fn := fun _ => fun
  | [d1, d2] => { results := [.lit (.bool true)], args := [d1, d2] }
  | _ => none }
def fnRunValRow : OpenClaim := { program := "ytpaoppgbgjnkmaa", sum := "b62e34368ddc3cf7444a885386890e635605ddb0ba6346dcbe7e8b09246bcf15", func := "loop.example/cloison/laws.FnRunVal", spec := "fnRunVal", unfollowed := true, recurses := true, apart := false }
def FnRunValSaid : Prop := fnRunValRow.holds Try.pinned (OpenSpec.ofChange fnRunValSpec)

/-- ITS FALSE NEIGHBOUR: 'it returns false'. Refute it at one input. -/
def fnRunValWrong : ChangeSpec := { name := "fnRunVal", fn := fun _ => fun
  | [d1, d2] => { results := [.lit (.bool false)], args := [d1, d2] }
  | _ => none }
def FnRunValWrongFalsely : Prop := fnRunValRow.holds Try.pinned (OpenSpec.ofChange fnRunValWrong)

/-- 'laws.FnRunSwap': WHATEVER THE INPUT: true; the input reads as it did. -/
def fnRunSwapSpec : ChangeSpec := { name := "fnRunSwap", fn := fun _ => fun
  | [d1, d2] => { results := [.lit (.bool true)], args := [d1, d2] }
  | _ => none }
def fnRunSwapRow : OpenClaim := { program := "ytpaoppgbgjnkmaa", sum := "b62e34368ddc3cf7444a885386890e635605ddb0ba6346dcbe7e8b09246bcf15", func := "loop.example/cloison/laws.FnRunSwap", spec := "fnRunSwap", unfollowed := true, recurses := true, apart := false }
def FnRunSwapSaid : Prop := fnRunSwapRow.holds Try.pinned (OpenSpec.ofChange fnRunSwapSpec)

/-- ITS FALSE NEIGHBOUR: 'it returns false'. Refute it at one input. -/
def fnRunSwapWrong : ChangeSpec := { name := "fnRunSwap", fn := fun _ => fun
  | [d1, d2] => { results := [.lit (.bool false)], args := [d1, d2] }
  | _ => none }
def FnRunSwapWrongFalsely : Prop := fnRunSwapRow.holds Try.pinned (OpenSpec.ofChange fnRunSwapWrong)

/-- 'laws.FnRunCut': WHATEVER THE INPUT: true; the input reads as it did. -/
def fnRunCutSpec : ChangeSpec := { name := "fnRunCut", fn := fun _ => fun
  | [d1, d2] => { results := [.lit (.bool true)], args := [d1, d2] }
  | _ => none }
def fnRunCutRow : OpenClaim := { program := "ytpaoppgbgjnkmaa", sum := "b62e34368ddc3cf7444a885386890e635605ddb0ba6346dcbe7e8b09246bcf15", func := "loop.example/cloison/laws.FnRunCut", spec := "fnRunCut", unfollowed := true, recurses := true, apart := false }
def FnRunCutSaid : Prop := fnRunCutRow.holds Try.pinned (OpenSpec.ofChange fnRunCutSpec)

/-- ITS FALSE NEIGHBOUR: 'it returns false'. Refute it at one input. -/
def fnRunCutWrong : ChangeSpec := { name := "fnRunCut", fn := fun _ => fun
  | [d1, d2] => { results := [.lit (.bool false)], args := [d1, d2] }
  | _ => none }
def FnRunCutWrongFalsely : Prop := fnRunCutRow.holds Try.pinned (OpenSpec.ofChange fnRunCutWrong)

/-- 'laws.FnRunIf': WHATEVER THE INPUT: true; the input reads as it did. -/
def fnRunIfSpec : ChangeSpec := { name := "fnRunIf", fn := fun _ => fun
  | [d1, d2] => { results := [.lit (.bool true)], args := [d1, d2] }
  | _ => none }
def fnRunIfRow : OpenClaim := { program := "ytpaoppgbgjnkmaa", sum := "b62e34368ddc3cf7444a885386890e635605ddb0ba6346dcbe7e8b09246bcf15", func := "loop.example/cloison/laws.FnRunIf", spec := "fnRunIf", unfollowed := true, recurses := true, apart := false }
def FnRunIfSaid : Prop := fnRunIfRow.holds Try.pinned (OpenSpec.ofChange fnRunIfSpec)

/-- ITS FALSE NEIGHBOUR: 'it returns false'. Refute it at one input. -/
def fnRunIfWrong : ChangeSpec := { name := "fnRunIf", fn := fun _ => fun
  | [d1, d2] => { results := [.lit (.bool false)], args := [d1, d2] }
  | _ => none }
def FnRunIfWrongFalsely : Prop := fnRunIfRow.holds Try.pinned (OpenSpec.ofChange fnRunIfWrong)

/-- 'laws.FnRunOf': WHATEVER THE INPUT: true; the input reads as it did. -/
def fnRunOfSpec : ChangeSpec := { name := "fnRunOf", fn := fun _ => fun
  | [d] => { results := [.lit (.bool true)], args := [d] }
  | _ => none }
def fnRunOfRow : OpenClaim := { program := "ytpaoppgbgjnkmaa", sum := "b62e34368ddc3cf7444a885386890e635605ddb0ba6346dcbe7e8b09246bcf15", func := "loop.example/cloison/laws.FnRunOf", spec := "fnRunOf", unfollowed := true, recurses := true, apart := false }
def FnRunOfSaid : Prop := fnRunOfRow.holds Try.pinned (OpenSpec.ofChange fnRunOfSpec)

/-- ITS FALSE NEIGHBOUR: 'it returns false'. Refute it at one input. -/
def fnRunOfWrong : ChangeSpec := { name := "fnRunOf", fn := fun _ => fun
  | [d] => { results := [.lit (.bool false)], args := [d] }
  | _ => none }
def FnRunOfWrongFalsely : Prop := fnRunOfRow.holds Try.pinned (OpenSpec.ofChange fnRunOfWrong)

/-- 'laws.FnExactRunOf': WHATEVER THE INPUT: true; the input reads as it did. -/
def fnExactRunOfSpec : ChangeSpec := { name := "fnExactRunOf", fn := fun _ => fun
  | [d1, d2] => { results := [.lit (.bool true)], args := [d1, d2] }
  | _ => none }
def fnExactRunOfRow : OpenClaim := { program := "ytpaoppgbgjnkmaa", sum := "b62e34368ddc3cf7444a885386890e635605ddb0ba6346dcbe7e8b09246bcf15", func := "loop.example/cloison/laws.FnExactRunOf", spec := "fnExactRunOf", unfollowed := true, recurses := true, loops := true, apart := false }
def FnExactRunOfSaid : Prop := fnExactRunOfRow.holds Try.pinned (OpenSpec.ofChange fnExactRunOfSpec)

/-- ITS FALSE NEIGHBOUR: 'it returns false'. Refute it at one input. -/
def fnExactRunOfWrong : ChangeSpec := { name := "fnExactRunOf", fn := fun _ => fun
  | [d1, d2] => { results := [.lit (.bool false)], args := [d1, d2] }
  | _ => none }
def FnExactRunOfWrongFalsely : Prop := fnExactRunOfRow.holds Try.pinned (OpenSpec.ofChange fnExactRunOfWrong)

/-- 'laws.FnTypeKeeps': WHATEVER THE INPUT: true; the input reads as it did. -/
def fnTypeKeepsSpec : ChangeSpec := { name := "fnTypeKeeps", fn := fun _ => fun
  | [d1, d2] => { results := [.lit (.bool true)], args := [d1, d2] }
  | _ => none }
def fnTypeKeepsRow : OpenClaim := { program := "ytpaoppgbgjnkmaa", sum := "b62e34368ddc3cf7444a885386890e635605ddb0ba6346dcbe7e8b09246bcf15", func := "loop.example/cloison/laws.FnTypeKeeps", spec := "fnTypeKeeps", unfollowed := true, recurses := true, apart := false }
def FnTypeKeepsSaid : Prop := fnTypeKeepsRow.holds Try.pinned (OpenSpec.ofChange fnTypeKeepsSpec)

/-- ITS FALSE NEIGHBOUR: 'it returns false'. Refute it at one input. -/
def fnTypeKeepsWrong : ChangeSpec := { name := "fnTypeKeeps", fn := fun _ => fun
  | [d1, d2] => { results := [.lit (.bool false)], args := [d1, d2] }
  | _ => none }
def FnTypeKeepsWrongFalsely : Prop := fnTypeKeepsRow.holds Try.pinned (OpenSpec.ofChange fnTypeKeepsWrong)

/-- 'laws.FnTypeHides': WHATEVER THE INPUT: true; the input reads as it did. -/
def fnTypeHidesSpec : ChangeSpec := { name := "fnTypeHides", fn := fun _ => fun
  | [d1, d2] => { results := [.lit (.bool true)], args := [d1, d2] }
  | _ => none }
def fnTypeHidesRow : OpenClaim := { program := "ytpaoppgbgjnkmaa", sum := "b62e34368ddc3cf7444a885386890e635605ddb0ba6346dcbe7e8b09246bcf15", func := "loop.example/cloison/laws.FnTypeHides", spec := "fnTypeHides", unfollowed := true, recurses := true, apart := false }
def FnTypeHidesSaid : Prop := fnTypeHidesRow.holds Try.pinned (OpenSpec.ofChange fnTypeHidesSpec)

/-- ITS FALSE NEIGHBOUR: 'it returns false'. Refute it at one input. -/
def fnTypeHidesWrong : ChangeSpec := { name := "fnTypeHides", fn := fun _ => fun
  | [d1, d2] => { results := [.lit (.bool false)], args := [d1, d2] }
  | _ => none }
def FnTypeHidesWrongFalsely : Prop := fnTypeHidesRow.holds Try.pinned (OpenSpec.ofChange fnTypeHidesWrong)

/- THE SECOND FORM. 'bulk': how many values and letters a reading holds, each counted each time it is reached (what is shared counts as often as it is met; a slice's spare places count too). A statement '..UptoSaid' is the law's where the arguments, and the package variables that the reading takes, are together of bulk at most 1048576: NARROWER than '..Said'. Prove '..Said' where nothing that the law and all that it calls make is longer than what came in: it says more and counts as full. Else prove '..UptoSaid'. A law counts once. -/
mutual
def uptoBulk {H : Type} : DataW H → Nat
  | .lit (.string bytes) => bytes.length + 1
  | .lit _ => 1
  | .nil => 1
  | .ptr d => uptoBulk d + 1
  | .slice elems spare => uptoBulkAll elems + uptoBulkAll spare + 1
  | .agg parts => uptoBulkAll parts + 1
  | .iface _ d => uptoBulk d + 1
  | .map entries => uptoBulkEntries entries + 1
  | .held _ => 1
def uptoBulkAll {H : Type} : List (DataW H) → Nat
  | [] => 0
  | d :: r => uptoBulk d + uptoBulkAll r
def uptoBulkEntries {H : Type} : List (Lit × DataW H) → Nat
  | [] => 0
  | x :: r => uptoBulkEntry x + uptoBulkEntries r
def uptoBulkEntry {H : Type} : Lit × DataW H → Nat
  | (.string bytes, d) => bytes.length + uptoBulk d + 1
  | (_, d) => uptoBulk d + 1
 end
def uptoSmall : (H : Type) → List (DataW H) → Bool := fun _ ds => decide (uptoBulkAll ds ≤ 1048576)
def OpenSpec.upto (s : _root_.Go.ChangeSpec) : _root_.Go.OpenSpec := { _root_.Go.OpenSpec.ofChange s with cond := some uptoSmall }

/-- 'laws.FnRunNums', WHERE WHAT IT READS IS OF BULK AT MOST 1048576: true; the input reads as it did. -/
def fnRunNumsUptoRow : OpenClaim := { program := "ytpaoppgbgjnkmaa", sum := "b62e34368ddc3cf7444a885386890e635605ddb0ba6346dcbe7e8b09246bcf15", func := "loop.example/cloison/laws.FnRunNums", spec := "fnRunNums", unfollowed := true, recurses := true, apart := false, narrowed := true }
def FnRunNumsUptoSaid : Prop := fnRunNumsUptoRow.holds Try.pinned (OpenSpec.upto fnRunNumsSpec)

/-- 'laws.FnRunVal', WHERE WHAT IT READS IS OF BULK AT MOST 1048576: true; the input reads as it did. -/
def fnRunValUptoRow : OpenClaim := { program := "ytpaoppgbgjnkmaa", sum := "b62e34368ddc3cf7444a885386890e635605ddb0ba6346dcbe7e8b09246bcf15", func := "loop.example/cloison/laws.FnRunVal", spec := "fnRunVal", unfollowed := true, recurses := true, apart := false, narrowed := true }
def FnRunValUptoSaid : Prop := fnRunValUptoRow.holds Try.pinned (OpenSpec.upto fnRunValSpec)

/-- 'laws.FnRunSwap', WHERE WHAT IT READS IS OF BULK AT MOST 1048576: true; the input reads as it did. -/
def fnRunSwapUptoRow : OpenClaim := { program := "ytpaoppgbgjnkmaa", sum := "b62e34368ddc3cf7444a885386890e635605ddb0ba6346dcbe7e8b09246bcf15", func := "loop.example/cloison/laws.FnRunSwap", spec := "fnRunSwap", unfollowed := true, recurses := true, apart := false, narrowed := true }
def FnRunSwapUptoSaid : Prop := fnRunSwapUptoRow.holds Try.pinned (OpenSpec.upto fnRunSwapSpec)

/-- 'laws.FnRunCut', WHERE WHAT IT READS IS OF BULK AT MOST 1048576: true; the input reads as it did. -/
def fnRunCutUptoRow : OpenClaim := { program := "ytpaoppgbgjnkmaa", sum := "b62e34368ddc3cf7444a885386890e635605ddb0ba6346dcbe7e8b09246bcf15", func := "loop.example/cloison/laws.FnRunCut", spec := "fnRunCut", unfollowed := true, recurses := true, apart := false, narrowed := true }
def FnRunCutUptoSaid : Prop := fnRunCutUptoRow.holds Try.pinned (OpenSpec.upto fnRunCutSpec)

/-- 'laws.FnRunIf', WHERE WHAT IT READS IS OF BULK AT MOST 1048576: true; the input reads as it did. -/
def fnRunIfUptoRow : OpenClaim := { program := "ytpaoppgbgjnkmaa", sum := "b62e34368ddc3cf7444a885386890e635605ddb0ba6346dcbe7e8b09246bcf15", func := "loop.example/cloison/laws.FnRunIf", spec := "fnRunIf", unfollowed := true, recurses := true, apart := false, narrowed := true }
def FnRunIfUptoSaid : Prop := fnRunIfUptoRow.holds Try.pinned (OpenSpec.upto fnRunIfSpec)

/-- 'laws.FnRunOf', WHERE WHAT IT READS IS OF BULK AT MOST 1048576: true; the input reads as it did. -/
def fnRunOfUptoRow : OpenClaim := { program := "ytpaoppgbgjnkmaa", sum := "b62e34368ddc3cf7444a885386890e635605ddb0ba6346dcbe7e8b09246bcf15", func := "loop.example/cloison/laws.FnRunOf", spec := "fnRunOf", unfollowed := true, recurses := true, apart := false, narrowed := true }
def FnRunOfUptoSaid : Prop := fnRunOfUptoRow.holds Try.pinned (OpenSpec.upto fnRunOfSpec)

/-- 'laws.FnExactRunOf', WHERE WHAT IT READS IS OF BULK AT MOST 1048576: true; the input reads as it did. -/
def fnExactRunOfUptoRow : OpenClaim := { program := "ytpaoppgbgjnkmaa", sum := "b62e34368ddc3cf7444a885386890e635605ddb0ba6346dcbe7e8b09246bcf15", func := "loop.example/cloison/laws.FnExactRunOf", spec := "fnExactRunOf", unfollowed := true, recurses := true, loops := true, apart := false, narrowed := true }
def FnExactRunOfUptoSaid : Prop := fnExactRunOfUptoRow.holds Try.pinned (OpenSpec.upto fnExactRunOfSpec)

/-- 'laws.FnTypeKeeps', WHERE WHAT IT READS IS OF BULK AT MOST 1048576: true; the input reads as it did. -/
def fnTypeKeepsUptoRow : OpenClaim := { program := "ytpaoppgbgjnkmaa", sum := "b62e34368ddc3cf7444a885386890e635605ddb0ba6346dcbe7e8b09246bcf15", func := "loop.example/cloison/laws.FnTypeKeeps", spec := "fnTypeKeeps", unfollowed := true, recurses := true, apart := false, narrowed := true }
def FnTypeKeepsUptoSaid : Prop := fnTypeKeepsUptoRow.holds Try.pinned (OpenSpec.upto fnTypeKeepsSpec)

/-- 'laws.FnTypeHides', WHERE WHAT IT READS IS OF BULK AT MOST 1048576: true; the input reads as it did. -/
def fnTypeHidesUptoRow : OpenClaim := { program := "ytpaoppgbgjnkmaa", sum := "b62e34368ddc3cf7444a885386890e635605ddb0ba6346dcbe7e8b09246bcf15", func := "loop.example/cloison/laws.FnTypeHides", spec := "fnTypeHides", unfollowed := true, recurses := true, apart := false, narrowed := true }
def FnTypeHidesUptoSaid : Prop := fnTypeHidesUptoRow.holds Try.pinned (OpenSpec.upto fnTypeHidesSpec)

end Rows
end Go.Proofs.Ytpaoppgbgjnkmaa
