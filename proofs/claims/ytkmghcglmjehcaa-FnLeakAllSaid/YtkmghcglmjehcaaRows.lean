/-
  NARROWER THAN 'FOR EVERY INPUT', by the rows' own cells (each row's printed sentence says how): FnExactInferOf: loops · FnExactLeakOf: loops · FnExactSwayOf: loops.
  DERIVED. THE GIVEN ROWS OF THIS SEAT. 12 by the template 'for every input the law returns true; each argument reads behind the call as it read before'; 0 by the template 'total and deterministic' (their statements: YtkmghcglmjehcaaTotals.lean).
  GIVEN WITH THE SEED: the statements are not yours to turn. If you find one false, say at which input.
  Laid BY PROGRAM, IN A SANDBOX (cutbox-rows.mjs): the forced cells as the released guide's own fill.sh prints them over the translation 0e240c33fd94ea93… (all of the seat's roots in one cut). By AI agents, Wed Nov 11 2026. No macro, syntax, notation, axiom, sorry.
-/
import Derived.Test.YtkmghcglmjehcaaChecked
import GoSem.Claim
import GoSem.ClaimJoined
import GoSem.ClaimMapViews
import Derived.JoinedTies
import Derived.KernelRfl
namespace Go.Proofs.Ytkmghcglmjehcaa
/- THE CELL 'sum', in the pinned program and in every row, IS THE sha256 OF THE DUMP (.gsa) THAT YtkmghcglmjehcaaProg.lean LOADS. Nothing in Lean hashes anything: it is a label: what it is worth is what the hold of that sum in a sandbox is worth. -/
noncomputable def Try.pinned : Pinned := { name := "ytkmghcglmjehcaa", sum := "0e240c33fd94ea935d09a4babd16a40e855468cbd01f6c6d2a5d265bcda2afc8", checked := Try.checked }
namespace Rows
def none {H : Type} : Left H := { results := [], args := [] }

/-- 'laws.FnInferMore': WHATEVER THE INPUT: true; the input reads as it did. -/
def fnInferMoreSpec : ChangeSpec := { name := "fnInferMore", fn := fun _ => fun
  | [d] => { results := [.lit (.bool true)], args := [d] }
  | _ => none }
def fnInferMoreRow : OpenClaim := { program := "ytkmghcglmjehcaa", sum := "0e240c33fd94ea935d09a4babd16a40e855468cbd01f6c6d2a5d265bcda2afc8", func := "loop.example/cloison/laws.FnInferMore", spec := "fnInferMore", unfollowed := true, recurses := true, apart := false }
def FnInferMoreSaid : Prop := fnInferMoreRow.holds Try.pinned (OpenSpec.ofChange fnInferMoreSpec)

/-- ITS FALSE NEIGHBOUR: 'it returns false'. Refute it at one input. -/
def fnInferMoreWrong : ChangeSpec := { name := "fnInferMore", fn := fun _ => fun
  | [d] => { results := [.lit (.bool false)], args := [d] }
  | _ => none }
def FnInferMoreWrongFalsely : Prop := fnInferMoreRow.holds Try.pinned (OpenSpec.ofChange fnInferMoreWrong)

/-- 'laws.FnInferNone': WHATEVER THE INPUT: true; the input reads as it did. -/
def fnInferNoneSpec : ChangeSpec := { name := "fnInferNone", fn := fun _ => fun
  | [d] => { results := [.lit (.bool true)], args := [d] }
  | _ => none }
def fnInferNoneRow : OpenClaim := { program := "ytkmghcglmjehcaa", sum := "0e240c33fd94ea935d09a4babd16a40e855468cbd01f6c6d2a5d265bcda2afc8", func := "loop.example/cloison/laws.FnInferNone", spec := "fnInferNone", unfollowed := true, recurses := true, apart := false }
def FnInferNoneSaid : Prop := fnInferNoneRow.holds Try.pinned (OpenSpec.ofChange fnInferNoneSpec)

/-- ITS FALSE NEIGHBOUR: 'it returns false'. Refute it at one input. -/
def fnInferNoneWrong : ChangeSpec := { name := "fnInferNone", fn := fun _ => fun
  | [d] => { results := [.lit (.bool false)], args := [d] }
  | _ => none }
def FnInferNoneWrongFalsely : Prop := fnInferNoneRow.holds Try.pinned (OpenSpec.ofChange fnInferNoneWrong)

/-- 'laws.FnInferOf': WHATEVER THE INPUT: true; the input reads as it did. -/
def fnInferOfSpec : ChangeSpec := { name := "fnInferOf", fn := fun _ => fun
  | [d] => { results := [.lit (.bool true)], args := [d] }
  | _ => none }
def fnInferOfRow : OpenClaim := { program := "ytkmghcglmjehcaa", sum := "0e240c33fd94ea935d09a4babd16a40e855468cbd01f6c6d2a5d265bcda2afc8", func := "loop.example/cloison/laws.FnInferOf", spec := "fnInferOf", unfollowed := true, recurses := true, apart := false }
def FnInferOfSaid : Prop := fnInferOfRow.holds Try.pinned (OpenSpec.ofChange fnInferOfSpec)

/-- ITS FALSE NEIGHBOUR: 'it returns false'. Refute it at one input. -/
def fnInferOfWrong : ChangeSpec := { name := "fnInferOf", fn := fun _ => fun
  | [d] => { results := [.lit (.bool false)], args := [d] }
  | _ => none }
def FnInferOfWrongFalsely : Prop := fnInferOfRow.holds Try.pinned (OpenSpec.ofChange fnInferOfWrong)

/-- 'laws.FnInferTwice': WHATEVER THE INPUT: true; the input reads as it did. -/
def fnInferTwiceSpec : ChangeSpec := { name := "fnInferTwice", fn := fun _ => fun
  | [d] => { results := [.lit (.bool true)], args := [d] }
  | _ => none }
def fnInferTwiceRow : OpenClaim := { program := "ytkmghcglmjehcaa", sum := "0e240c33fd94ea935d09a4babd16a40e855468cbd01f6c6d2a5d265bcda2afc8", func := "loop.example/cloison/laws.FnInferTwice", spec := "fnInferTwice", unfollowed := true, recurses := true, apart := false }
def FnInferTwiceSaid : Prop := fnInferTwiceRow.holds Try.pinned (OpenSpec.ofChange fnInferTwiceSpec)

/-- ITS FALSE NEIGHBOUR: 'it returns false'. Refute it at one input. -/
def fnInferTwiceWrong : ChangeSpec := { name := "fnInferTwice", fn := fun _ => fun
  | [d] => { results := [.lit (.bool false)], args := [d] }
  | _ => none }
def FnInferTwiceWrongFalsely : Prop := fnInferTwiceRow.holds Try.pinned (OpenSpec.ofChange fnInferTwiceWrong)

/-- 'laws.FnInferAll': WHATEVER THE INPUT: true; the input reads as it did. -/
def fnInferAllSpec : ChangeSpec := { name := "fnInferAll", fn := fun _ => fun
  | [d] => { results := [.lit (.bool true)], args := [d] }
  | _ => none }
def fnInferAllRow : OpenClaim := { program := "ytkmghcglmjehcaa", sum := "0e240c33fd94ea935d09a4babd16a40e855468cbd01f6c6d2a5d265bcda2afc8", func := "loop.example/cloison/laws.FnInferAll", spec := "fnInferAll", unfollowed := true, recurses := true, apart := false }
def FnInferAllSaid : Prop := fnInferAllRow.holds Try.pinned (OpenSpec.ofChange fnInferAllSpec)

/-- ITS FALSE NEIGHBOUR: 'it returns false'. Refute it at one input. -/
def fnInferAllWrong : ChangeSpec := { name := "fnInferAll", fn := fun _ => fun
  | [d] => { results := [.lit (.bool false)], args := [d] }
  | _ => none }
def FnInferAllWrongFalsely : Prop := fnInferAllRow.holds Try.pinned (OpenSpec.ofChange fnInferAllWrong)

/-- 'laws.FnInferMost': WHATEVER THE INPUT: true; the input reads as it did. -/
def fnInferMostSpec : ChangeSpec := { name := "fnInferMost", fn := fun _ => fun
  | [d1, d2] => { results := [.lit (.bool true)], args := [d1, d2] }
  | _ => none }
def fnInferMostRow : OpenClaim := { program := "ytkmghcglmjehcaa", sum := "0e240c33fd94ea935d09a4babd16a40e855468cbd01f6c6d2a5d265bcda2afc8", func := "loop.example/cloison/laws.FnInferMost", spec := "fnInferMost", unfollowed := true, recurses := true, apart := false }
def FnInferMostSaid : Prop := fnInferMostRow.holds Try.pinned (OpenSpec.ofChange fnInferMostSpec)

/-- ITS FALSE NEIGHBOUR: 'it returns false'. Refute it at one input. -/
def fnInferMostWrong : ChangeSpec := { name := "fnInferMost", fn := fun _ => fun
  | [d1, d2] => { results := [.lit (.bool false)], args := [d1, d2] }
  | _ => none }
def FnInferMostWrongFalsely : Prop := fnInferMostRow.holds Try.pinned (OpenSpec.ofChange fnInferMostWrong)

/-- 'laws.FnInferRun': WHATEVER THE INPUT: true; the input reads as it did. -/
def fnInferRunSpec : ChangeSpec := { name := "fnInferRun", fn := fun _ => fun
  | [d] => { results := [.lit (.bool true)], args := [d] }
  | _ => none }
def fnInferRunRow : OpenClaim := { program := "ytkmghcglmjehcaa", sum := "0e240c33fd94ea935d09a4babd16a40e855468cbd01f6c6d2a5d265bcda2afc8", func := "loop.example/cloison/laws.FnInferRun", spec := "fnInferRun", unfollowed := true, recurses := true, apart := false }
def FnInferRunSaid : Prop := fnInferRunRow.holds Try.pinned (OpenSpec.ofChange fnInferRunSpec)

/-- ITS FALSE NEIGHBOUR: 'it returns false'. Refute it at one input. -/
def fnInferRunWrong : ChangeSpec := { name := "fnInferRun", fn := fun _ => fun
  | [d] => { results := [.lit (.bool false)], args := [d] }
  | _ => none }
def FnInferRunWrongFalsely : Prop := fnInferRunRow.holds Try.pinned (OpenSpec.ofChange fnInferRunWrong)

/-- 'laws.FnExactInferOf': WHATEVER THE INPUT: true; the input reads as it did. -/
def fnExactInferOfSpec : ChangeSpec := { name := "fnExactInferOf", fn := fun _ => fun
  | [d1, d2] => { results := [.lit (.bool true)], args := [d1, d2] }
  | _ => none }
def fnExactInferOfRow : OpenClaim := { program := "ytkmghcglmjehcaa", sum := "0e240c33fd94ea935d09a4babd16a40e855468cbd01f6c6d2a5d265bcda2afc8", func := "loop.example/cloison/laws.FnExactInferOf", spec := "fnExactInferOf", unfollowed := true, recurses := true, loops := true, apart := false }
def FnExactInferOfSaid : Prop := fnExactInferOfRow.holds Try.pinned (OpenSpec.ofChange fnExactInferOfSpec)

/-- ITS FALSE NEIGHBOUR: 'it returns false'. Refute it at one input. -/
def fnExactInferOfWrong : ChangeSpec := { name := "fnExactInferOf", fn := fun _ => fun
  | [d1, d2] => { results := [.lit (.bool false)], args := [d1, d2] }
  | _ => none }
def FnExactInferOfWrongFalsely : Prop := fnExactInferOfRow.holds Try.pinned (OpenSpec.ofChange fnExactInferOfWrong)

/-- 'laws.FnLeakAll': WHATEVER THE INPUT: true; the input reads as it did. -/
def fnLeakAllSpec : ChangeSpec := { name := "fnLeakAll", fn := fun _ => fun
  | [d1, d2] => { results := [.lit (.bool true)], args := [d1, d2] }
  | _ => none }
def fnLeakAllRow : OpenClaim := { program := "ytkmghcglmjehcaa", sum := "0e240c33fd94ea935d09a4babd16a40e855468cbd01f6c6d2a5d265bcda2afc8", func := "loop.example/cloison/laws.FnLeakAll", spec := "fnLeakAll", unfollowed := true, recurses := true, apart := false }
def FnLeakAllSaid : Prop := fnLeakAllRow.holds Try.pinned (OpenSpec.ofChange fnLeakAllSpec)

/-- ITS FALSE NEIGHBOUR: 'it returns false'. Refute it at one input. -/
def fnLeakAllWrong : ChangeSpec := { name := "fnLeakAll", fn := fun _ => fun
  | [d1, d2] => { results := [.lit (.bool false)], args := [d1, d2] }
  | _ => none }
def FnLeakAllWrongFalsely : Prop := fnLeakAllRow.holds Try.pinned (OpenSpec.ofChange fnLeakAllWrong)

/-- 'laws.FnLeakKnows': WHATEVER THE INPUT: true; the input reads as it did. -/
def fnLeakKnowsSpec : ChangeSpec := { name := "fnLeakKnows", fn := fun _ => fun
  | [d] => { results := [.lit (.bool true)], args := [d] }
  | _ => none }
def fnLeakKnowsRow : OpenClaim := { program := "ytkmghcglmjehcaa", sum := "0e240c33fd94ea935d09a4babd16a40e855468cbd01f6c6d2a5d265bcda2afc8", func := "loop.example/cloison/laws.FnLeakKnows", spec := "fnLeakKnows", unfollowed := true, recurses := true, apart := false }
def FnLeakKnowsSaid : Prop := fnLeakKnowsRow.holds Try.pinned (OpenSpec.ofChange fnLeakKnowsSpec)

/-- ITS FALSE NEIGHBOUR: 'it returns false'. Refute it at one input. -/
def fnLeakKnowsWrong : ChangeSpec := { name := "fnLeakKnows", fn := fun _ => fun
  | [d] => { results := [.lit (.bool false)], args := [d] }
  | _ => none }
def FnLeakKnowsWrongFalsely : Prop := fnLeakKnowsRow.holds Try.pinned (OpenSpec.ofChange fnLeakKnowsWrong)

/-- 'laws.FnExactLeakOf': WHATEVER THE INPUT: true; the input reads as it did. -/
def fnExactLeakOfSpec : ChangeSpec := { name := "fnExactLeakOf", fn := fun _ => fun
  | [d1, d2] => { results := [.lit (.bool true)], args := [d1, d2] }
  | _ => none }
def fnExactLeakOfRow : OpenClaim := { program := "ytkmghcglmjehcaa", sum := "0e240c33fd94ea935d09a4babd16a40e855468cbd01f6c6d2a5d265bcda2afc8", func := "loop.example/cloison/laws.FnExactLeakOf", spec := "fnExactLeakOf", unfollowed := true, recurses := true, loops := true, apart := false }
def FnExactLeakOfSaid : Prop := fnExactLeakOfRow.holds Try.pinned (OpenSpec.ofChange fnExactLeakOfSpec)

/-- ITS FALSE NEIGHBOUR: 'it returns false'. Refute it at one input. -/
def fnExactLeakOfWrong : ChangeSpec := { name := "fnExactLeakOf", fn := fun _ => fun
  | [d1, d2] => { results := [.lit (.bool false)], args := [d1, d2] }
  | _ => none }
def FnExactLeakOfWrongFalsely : Prop := fnExactLeakOfRow.holds Try.pinned (OpenSpec.ofChange fnExactLeakOfWrong)

/-- 'laws.FnExactSwayOf': WHATEVER THE INPUT: true; the input reads as it did. -/
def fnExactSwayOfSpec : ChangeSpec := { name := "fnExactSwayOf", fn := fun _ => fun
  | [d1, d2] => { results := [.lit (.bool true)], args := [d1, d2] }
  | _ => none }
def fnExactSwayOfRow : OpenClaim := { program := "ytkmghcglmjehcaa", sum := "0e240c33fd94ea935d09a4babd16a40e855468cbd01f6c6d2a5d265bcda2afc8", func := "loop.example/cloison/laws.FnExactSwayOf", spec := "fnExactSwayOf", unfollowed := true, recurses := true, loops := true, apart := false }
def FnExactSwayOfSaid : Prop := fnExactSwayOfRow.holds Try.pinned (OpenSpec.ofChange fnExactSwayOfSpec)

/-- ITS FALSE NEIGHBOUR: 'it returns false'. Refute it at one input. -/
def fnExactSwayOfWrong : ChangeSpec := { name := "fnExactSwayOf", fn := fun _ => fun
  | [d1, d2] => { results := [.lit (.bool false)], args := [d1, d2] }
  | _ => none }
def FnExactSwayOfWrongFalsely : Prop := fnExactSwayOfRow.holds Try.pinned (OpenSpec.ofChange fnExactSwayOfWrong)

/- THE SECOND FORM. 'bulk': how many values and letters a reading holds, each counted each time it is reached (what is shared counts as often as it is met; a slice's spare places count too). A statement '..UptoSaid' is the law's where the arguments, and the package variables that the reading takes, are together of bulk at most 1048576: NARROWER than '..Said'. Prove '..Said' where nothing that the law and all that it calls make is longer than what came in: it says more and counts as full. Else prove '..UptoSaid'. A law counts once. -/
mutual
def uptoBulk {H : Type} : DataW H → Nat
  | .lit (.string bytes) => bytes.length + 1
  | .lit _ => 1
  | .nil => 1
  | .ptr d => uptoBulk d + 1
  | .slice elems spare => uptoBulkAll elems + uptoBulkAll spare + 1
  | .agg parts => uptoBulkAll parts + 1
  | .iface _ d => uptoBulk d + 1
  | .map entries => uptoBulkEntries entries + 1
  | .held _ => 1
def uptoBulkAll {H : Type} : List (DataW H) → Nat
  | [] => 0
  | d :: r => uptoBulk d + uptoBulkAll r
def uptoBulkEntries {H : Type} : List (Lit × DataW H) → Nat
  | [] => 0
  | x :: r => uptoBulkEntry x + uptoBulkEntries r
def uptoBulkEntry {H : Type} : Lit × DataW H → Nat
  | (.string bytes, d) => bytes.length + uptoBulk d + 1
  | (_, d) => uptoBulk d + 1
 end
def uptoSmall : (H : Type) → List (DataW H) → Bool := fun _ ds => decide (uptoBulkAll ds ≤ 1048576)
def OpenSpec.upto (s : _root_.Go.ChangeSpec) : _root_.Go.OpenSpec := { _root_.Go.OpenSpec.ofChange s with cond := some uptoSmall }

/-- 'laws.FnInferMore', WHERE WHAT IT READS IS OF BULK AT MOST 1048576: true; the input reads as it did. -/
def fnInferMoreUptoRow : OpenClaim := { program := "ytkmghcglmjehcaa", sum := "0e240c33fd94ea935d09a4babd16a40e855468cbd01f6c6d2a5d265bcda2afc8", func := "loop.example/cloison/laws.FnInferMore", spec := "fnInferMore", unfollowed := true, recurses := true, apart := false, narrowed := true }
def FnInferMoreUptoSaid : Prop := fnInferMoreUptoRow.holds Try.pinned (OpenSpec.upto fnInferMoreSpec)

/-- 'laws.FnInferNone', WHERE WHAT IT READS IS OF BULK AT MOST 1048576: true; the input reads as it did. -/
def fnInferNoneUptoRow : OpenClaim := { program := "ytkmghcglmjehcaa", sum := "0e240c33fd94ea935d09a4babd16a40e855468cbd01f6c6d2a5d265bcda2afc8", func := "loop.example/cloison/laws.FnInferNone", spec := "fnInferNone", unfollowed := true, recurses := true, apart := false, narrowed := true }
def FnInferNoneUptoSaid : Prop := fnInferNoneUptoRow.holds Try.pinned (OpenSpec.upto fnInferNoneSpec)

/-- 'laws.FnInferOf', WHERE WHAT IT READS IS OF BULK AT MOST 1048576: true; the input reads as it did. -/
def fnInferOfUptoRow : OpenClaim := { program := "ytkmghcglmjehcaa", sum := "0e240c33fd94ea935d09a4babd16a40e855468cbd01f6c6d2a5d265bcda2afc8", func := "loop.example/cloison/laws.FnInferOf", spec := "fnInferOf", unfollowed := true, recurses := true, apart := false, narrowed := true }
def FnInferOfUptoSaid : Prop := fnInferOfUptoRow.holds Try.pinned (OpenSpec.upto fnInferOfSpec)

/-- 'laws.FnInferTwice', WHERE WHAT IT READS IS OF BULK AT MOST 1048576: true; the input reads as it did. -/
def fnInferTwiceUptoRow : OpenClaim := { program := "ytkmghcglmjehcaa", sum := "0e240c33fd94ea935d09a4babd16a40e855468cbd01f6c6d2a5d265bcda2afc8", func := "loop.example/cloison/laws.FnInferTwice", spec := "fnInferTwice", unfollowed := true, recurses := true, apart := false, narrowed := true }
def FnInferTwiceUptoSaid : Prop := fnInferTwiceUptoRow.holds Try.pinned (OpenSpec.upto fnInferTwiceSpec)

/-- 'laws.FnInferAll', WHERE WHAT IT READS IS OF BULK AT MOST 1048576: true; the input reads as it did. -/
def fnInferAllUptoRow : OpenClaim := { program := "ytkmghcglmjehcaa", sum := "0e240c33fd94ea935d09a4babd16a40e855468cbd01f6c6d2a5d265bcda2afc8", func := "loop.example/cloison/laws.FnInferAll", spec := "fnInferAll", unfollowed := true, recurses := true, apart := false, narrowed := true }
def FnInferAllUptoSaid : Prop := fnInferAllUptoRow.holds Try.pinned (OpenSpec.upto fnInferAllSpec)

/-- 'laws.FnInferMost', WHERE WHAT IT READS IS OF BULK AT MOST 1048576: true; the input reads as it did. -/
def fnInferMostUptoRow : OpenClaim := { program := "ytkmghcglmjehcaa", sum := "0e240c33fd94ea935d09a4babd16a40e855468cbd01f6c6d2a5d265bcda2afc8", func := "loop.example/cloison/laws.FnInferMost", spec := "fnInferMost", unfollowed := true, recurses := true, apart := false, narrowed := true }
def FnInferMostUptoSaid : Prop := fnInferMostUptoRow.holds Try.pinned (OpenSpec.upto fnInferMostSpec)

/-- 'laws.FnInferRun', WHERE WHAT IT READS IS OF BULK AT MOST 1048576: true; the input reads as it did. -/
def fnInferRunUptoRow : OpenClaim := { program := "ytkmghcglmjehcaa", sum := "0e240c33fd94ea935d09a4babd16a40e855468cbd01f6c6d2a5d265bcda2afc8", func := "loop.example/cloison/laws.FnInferRun", spec := "fnInferRun", unfollowed := true, recurses := true, apart := false, narrowed := true }
def FnInferRunUptoSaid : Prop := fnInferRunUptoRow.holds Try.pinned (OpenSpec.upto fnInferRunSpec)

/-- 'laws.FnExactInferOf', WHERE WHAT IT READS IS OF BULK AT MOST 1048576: true; the input reads as it did. -/
def fnExactInferOfUptoRow : OpenClaim := { program := "ytkmghcglmjehcaa", sum := "0e240c33fd94ea935d09a4babd16a40e855468cbd01f6c6d2a5d265bcda2afc8", func := "loop.example/cloison/laws.FnExactInferOf", spec := "fnExactInferOf", unfollowed := true, recurses := true, loops := true, apart := false, narrowed := true }
def FnExactInferOfUptoSaid : Prop := fnExactInferOfUptoRow.holds Try.pinned (OpenSpec.upto fnExactInferOfSpec)

/-- 'laws.FnLeakAll', WHERE WHAT IT READS IS OF BULK AT MOST 1048576: true; the input reads as it did. -/
def fnLeakAllUptoRow : OpenClaim := { program := "ytkmghcglmjehcaa", sum := "0e240c33fd94ea935d09a4babd16a40e855468cbd01f6c6d2a5d265bcda2afc8", func := "loop.example/cloison/laws.FnLeakAll", spec := "fnLeakAll", unfollowed := true, recurses := true, apart := false, narrowed := true }
def FnLeakAllUptoSaid : Prop := fnLeakAllUptoRow.holds Try.pinned (OpenSpec.upto fnLeakAllSpec)

/-- 'laws.FnLeakKnows', WHERE WHAT IT READS IS OF BULK AT MOST 1048576: true; the input reads as it did. -/
def fnLeakKnowsUptoRow : OpenClaim := { program := "ytkmghcglmjehcaa", sum := "0e240c33fd94ea935d09a4babd16a40e855468cbd01f6c6d2a5d265bcda2afc8", func := "loop.example/cloison/laws.FnLeakKnows", spec := "fnLeakKnows", unfollowed := true, recurses := true, apart := false, narrowed := true }
def FnLeakKnowsUptoSaid : Prop := fnLeakKnowsUptoRow.holds Try.pinned (OpenSpec.upto fnLeakKnowsSpec)

/-- 'laws.FnExactLeakOf', WHERE WHAT IT READS IS OF BULK AT MOST 1048576: true; the input reads as it did. -/
def fnExactLeakOfUptoRow : OpenClaim := { program := "ytkmghcglmjehcaa", sum := "0e240c33fd94ea935d09a4babd16a40e855468cbd01f6c6d2a5d265bcda2afc8", func := "loop.example/cloison/laws.FnExactLeakOf", spec := "fnExactLeakOf", unfollowed := true, recurses := true, loops := true, apart := false, narrowed := true }
def FnExactLeakOfUptoSaid : Prop := fnExactLeakOfUptoRow.holds Try.pinned (OpenSpec.upto fnExactLeakOfSpec)

/-- 'laws.FnExactSwayOf', WHERE WHAT IT READS IS OF BULK AT MOST 1048576: true; the input reads as it did. -/
def fnExactSwayOfUptoRow : OpenClaim := { program := "ytkmghcglmjehcaa", sum := "0e240c33fd94ea935d09a4babd16a40e855468cbd01f6c6d2a5d265bcda2afc8", func := "loop.example/cloison/laws.FnExactSwayOf", spec := "fnExactSwayOf", unfollowed := true, recurses := true, loops := true, apart := false, narrowed := true }
def FnExactSwayOfUptoSaid : Prop := fnExactSwayOfUptoRow.holds Try.pinned (OpenSpec.upto fnExactSwayOfSpec)

end Rows
end Go.Proofs.Ytkmghcglmjehcaa
