/-
  NARROWER THAN 'FOR EVERY INPUT', by the rows' own cells (each row's printed sentence says how): FnExactPlanFind: loops · FnExactPlanStep: loops · FnExactPlanOk: loops.
  DERIVED. THE GIVEN ROWS OF THIS SEAT. 11 by the template 'for every input the law returns true; each argument reads behind the call as it read before'; 0 by the template 'total and deterministic' (their statements: YtbjeldblaclpnaaTotals.lean).
  GIVEN WITH THE SEED: the statements are not yours to turn. If you find one false, say at which input.
  Laid BY PROGRAM, IN A SANDBOX (cutbox-rows.mjs): the forced cells as the released guide's own fill.sh prints them over the translation 122f0f1156a7faf7… (all of the seat's roots in one cut). By AI agents, Wed Nov 11 2026. No macro, syntax, notation, axiom, sorry.
-/
import Derived.Test.YtbjeldblaclpnaaChecked
import GoSem.Claim
import GoSem.ClaimJoined
import GoSem.ClaimMapViews
import Derived.JoinedTies
import Derived.KernelRfl
namespace Go.Proofs.Ytbjeldblaclpnaa
/- THE CELL 'sum', in the pinned program and in every row, IS THE sha256 OF THE DUMP (.gsa) THAT YtbjeldblaclpnaaProg.lean LOADS. Nothing in Lean hashes anything: it is a label: what it is worth is what the hold of that sum in a sandbox is worth. -/
noncomputable def Try.pinned : Pinned := { name := "ytbjeldblaclpnaa", sum := "122f0f1156a7faf749ce7b13650a493b6d9cf0b5c13e6605071fa3a01b873fe9", checked := Try.checked }
namespace Rows
def none {H : Type} : Left H := { results := [], args := [] }

/-- 'laws.FnPlanAlone': WHATEVER THE INPUT: true; the input reads as it did. -/
def fnPlanAloneSpec : ChangeSpec := { name := "fnPlanAlone", fn := fun _ => fun
  | [d] => { results := [.lit (.bool true)], args := [d] }
  | _ => none }
def fnPlanAloneRow : OpenClaim := { program := "ytbjeldblaclpnaa", sum := "122f0f1156a7faf749ce7b13650a493b6d9cf0b5c13e6605071fa3a01b873fe9", func := "loop.example/cloison/laws.FnPlanAlone", spec := "fnPlanAlone", unfollowed := true, recurses := true, apart := false }
def FnPlanAloneSaid : Prop := fnPlanAloneRow.holds Try.pinned (OpenSpec.ofChange fnPlanAloneSpec)

/-- ITS FALSE NEIGHBOUR: 'it returns false'. Refute it at one input. -/
def fnPlanAloneWrong : ChangeSpec := { name := "fnPlanAlone", fn := fun _ => fun
  | [d] => { results := [.lit (.bool false)], args := [d] }
  | _ => none }
def FnPlanAloneWrongFalsely : Prop := fnPlanAloneRow.holds Try.pinned (OpenSpec.ofChange fnPlanAloneWrong)

/-- 'laws.FnExactPlanFind': WHATEVER THE INPUT: true; the input reads as it did. -/
def fnExactPlanFindSpec : ChangeSpec := { name := "fnExactPlanFind", fn := fun _ => fun
  | [d1, d2] => { results := [.lit (.bool true)], args := [d1, d2] }
  | _ => none }
def fnExactPlanFindRow : OpenClaim := { program := "ytbjeldblaclpnaa", sum := "122f0f1156a7faf749ce7b13650a493b6d9cf0b5c13e6605071fa3a01b873fe9", func := "loop.example/cloison/laws.FnExactPlanFind", spec := "fnExactPlanFind", unfollowed := true, recurses := true, loops := true, apart := false }
def FnExactPlanFindSaid : Prop := fnExactPlanFindRow.holds Try.pinned (OpenSpec.ofChange fnExactPlanFindSpec)

/-- ITS FALSE NEIGHBOUR: 'it returns false'. Refute it at one input. -/
def fnExactPlanFindWrong : ChangeSpec := { name := "fnExactPlanFind", fn := fun _ => fun
  | [d1, d2] => { results := [.lit (.bool false)], args := [d1, d2] }
  | _ => none }
def FnExactPlanFindWrongFalsely : Prop := fnExactPlanFindRow.holds Try.pinned (OpenSpec.ofChange fnExactPlanFindWrong)

/-- 'laws.FnPlanFindAll': WHATEVER THE INPUT: true; the input reads as it did. -/
def fnPlanFindAllSpec : ChangeSpec := { name := "fnPlanFindAll", fn := fun _ => fun
  | [d] => { results := [.lit (.bool true)], args := [d] }
  | _ => none }
def fnPlanFindAllRow : OpenClaim := { program := "ytbjeldblaclpnaa", sum := "122f0f1156a7faf749ce7b13650a493b6d9cf0b5c13e6605071fa3a01b873fe9", func := "loop.example/cloison/laws.FnPlanFindAll", spec := "fnPlanFindAll", unfollowed := true, recurses := true, apart := false }
def FnPlanFindAllSaid : Prop := fnPlanFindAllRow.holds Try.pinned (OpenSpec.ofChange fnPlanFindAllSpec)

/-- ITS FALSE NEIGHBOUR: 'it returns false'. Refute it at one input. -/
def fnPlanFindAllWrong : ChangeSpec := { name := "fnPlanFindAll", fn := fun _ => fun
  | [d] => { results := [.lit (.bool false)], args := [d] }
  | _ => none }
def FnPlanFindAllWrongFalsely : Prop := fnPlanFindAllRow.holds Try.pinned (OpenSpec.ofChange fnPlanFindAllWrong)

/-- 'laws.FnPlanFind': WHATEVER THE INPUT: true; the input reads as it did. -/
def fnPlanFindSpec : ChangeSpec := { name := "fnPlanFind", fn := fun _ => fun
  | [d] => { results := [.lit (.bool true)], args := [d] }
  | _ => none }
def fnPlanFindRow : OpenClaim := { program := "ytbjeldblaclpnaa", sum := "122f0f1156a7faf749ce7b13650a493b6d9cf0b5c13e6605071fa3a01b873fe9", func := "loop.example/cloison/laws.FnPlanFind", spec := "fnPlanFind", unfollowed := true, recurses := true, apart := false }
def FnPlanFindSaid : Prop := fnPlanFindRow.holds Try.pinned (OpenSpec.ofChange fnPlanFindSpec)

/-- ITS FALSE NEIGHBOUR: 'it returns false'. Refute it at one input. -/
def fnPlanFindWrong : ChangeSpec := { name := "fnPlanFind", fn := fun _ => fun
  | [d] => { results := [.lit (.bool false)], args := [d] }
  | _ => none }
def FnPlanFindWrongFalsely : Prop := fnPlanFindRow.holds Try.pinned (OpenSpec.ofChange fnPlanFindWrong)

/-- 'laws.FnExactPlanStep': WHATEVER THE INPUT: true; the input reads as it did. -/
def fnExactPlanStepSpec : ChangeSpec := { name := "fnExactPlanStep", fn := fun _ => fun
  | [d1, d2, d3, d4, d5] => { results := [.lit (.bool true)], args := [d1, d2, d3, d4, d5] }
  | _ => none }
def fnExactPlanStepRow : OpenClaim := { program := "ytbjeldblaclpnaa", sum := "122f0f1156a7faf749ce7b13650a493b6d9cf0b5c13e6605071fa3a01b873fe9", func := "loop.example/cloison/laws.FnExactPlanStep", spec := "fnExactPlanStep", unfollowed := true, recurses := true, loops := true, apart := false }
def FnExactPlanStepSaid : Prop := fnExactPlanStepRow.holds Try.pinned (OpenSpec.ofChange fnExactPlanStepSpec)

/-- ITS FALSE NEIGHBOUR: 'it returns false'. Refute it at one input. -/
def fnExactPlanStepWrong : ChangeSpec := { name := "fnExactPlanStep", fn := fun _ => fun
  | [d1, d2, d3, d4, d5] => { results := [.lit (.bool false)], args := [d1, d2, d3, d4, d5] }
  | _ => none }
def FnExactPlanStepWrongFalsely : Prop := fnExactPlanStepRow.holds Try.pinned (OpenSpec.ofChange fnExactPlanStepWrong)

/-- 'laws.FnPlanStepMore': WHATEVER THE INPUT: true; the input reads as it did. -/
def fnPlanStepMoreSpec : ChangeSpec := { name := "fnPlanStepMore", fn := fun _ => fun
  | [d] => { results := [.lit (.bool true)], args := [d] }
  | _ => none }
def fnPlanStepMoreRow : OpenClaim := { program := "ytbjeldblaclpnaa", sum := "122f0f1156a7faf749ce7b13650a493b6d9cf0b5c13e6605071fa3a01b873fe9", func := "loop.example/cloison/laws.FnPlanStepMore", spec := "fnPlanStepMore", unfollowed := true, recurses := true, apart := false }
def FnPlanStepMoreSaid : Prop := fnPlanStepMoreRow.holds Try.pinned (OpenSpec.ofChange fnPlanStepMoreSpec)

/-- ITS FALSE NEIGHBOUR: 'it returns false'. Refute it at one input. -/
def fnPlanStepMoreWrong : ChangeSpec := { name := "fnPlanStepMore", fn := fun _ => fun
  | [d] => { results := [.lit (.bool false)], args := [d] }
  | _ => none }
def FnPlanStepMoreWrongFalsely : Prop := fnPlanStepMoreRow.holds Try.pinned (OpenSpec.ofChange fnPlanStepMoreWrong)

/-- 'laws.FnPlanStep': WHATEVER THE INPUT: true; the input reads as it did. -/
def fnPlanStepSpec : ChangeSpec := { name := "fnPlanStep", fn := fun _ => fun
  | [d] => { results := [.lit (.bool true)], args := [d] }
  | _ => none }
def fnPlanStepRow : OpenClaim := { program := "ytbjeldblaclpnaa", sum := "122f0f1156a7faf749ce7b13650a493b6d9cf0b5c13e6605071fa3a01b873fe9", func := "loop.example/cloison/laws.FnPlanStep", spec := "fnPlanStep", unfollowed := true, recurses := true, apart := false }
def FnPlanStepSaid : Prop := fnPlanStepRow.holds Try.pinned (OpenSpec.ofChange fnPlanStepSpec)

/-- ITS FALSE NEIGHBOUR: 'it returns false'. Refute it at one input. -/
def fnPlanStepWrong : ChangeSpec := { name := "fnPlanStep", fn := fun _ => fun
  | [d] => { results := [.lit (.bool false)], args := [d] }
  | _ => none }
def FnPlanStepWrongFalsely : Prop := fnPlanStepRow.holds Try.pinned (OpenSpec.ofChange fnPlanStepWrong)

/-- 'laws.FnPlanMore': WHATEVER THE INPUT: true; the input reads as it did. -/
def fnPlanMoreSpec : ChangeSpec := { name := "fnPlanMore", fn := fun _ => fun
  | [d] => { results := [.lit (.bool true)], args := [d] }
  | _ => none }
def fnPlanMoreRow : OpenClaim := { program := "ytbjeldblaclpnaa", sum := "122f0f1156a7faf749ce7b13650a493b6d9cf0b5c13e6605071fa3a01b873fe9", func := "loop.example/cloison/laws.FnPlanMore", spec := "fnPlanMore", unfollowed := true, recurses := true, apart := false }
def FnPlanMoreSaid : Prop := fnPlanMoreRow.holds Try.pinned (OpenSpec.ofChange fnPlanMoreSpec)

/-- ITS FALSE NEIGHBOUR: 'it returns false'. Refute it at one input. -/
def fnPlanMoreWrong : ChangeSpec := { name := "fnPlanMore", fn := fun _ => fun
  | [d] => { results := [.lit (.bool false)], args := [d] }
  | _ => none }
def FnPlanMoreWrongFalsely : Prop := fnPlanMoreRow.holds Try.pinned (OpenSpec.ofChange fnPlanMoreWrong)

/-- 'laws.FnPlanSize': WHATEVER THE INPUT: true; the input reads as it did. -/
def fnPlanSizeSpec : ChangeSpec := { name := "fnPlanSize", fn := fun _ => fun
  | [d] => { results := [.lit (.bool true)], args := [d] }
  | _ => none }
def fnPlanSizeRow : OpenClaim := { program := "ytbjeldblaclpnaa", sum := "122f0f1156a7faf749ce7b13650a493b6d9cf0b5c13e6605071fa3a01b873fe9", func := "loop.example/cloison/laws.FnPlanSize", spec := "fnPlanSize", unfollowed := true, recurses := true, apart := false }
def FnPlanSizeSaid : Prop := fnPlanSizeRow.holds Try.pinned (OpenSpec.ofChange fnPlanSizeSpec)

/-- ITS FALSE NEIGHBOUR: 'it returns false'. Refute it at one input. -/
def fnPlanSizeWrong : ChangeSpec := { name := "fnPlanSize", fn := fun _ => fun
  | [d] => { results := [.lit (.bool false)], args := [d] }
  | _ => none }
def FnPlanSizeWrongFalsely : Prop := fnPlanSizeRow.holds Try.pinned (OpenSpec.ofChange fnPlanSizeWrong)

/-- 'laws.FnExactPlanOk': WHATEVER THE INPUT: true; the input reads as it did. -/
def fnExactPlanOkSpec : ChangeSpec := { name := "fnExactPlanOk", fn := fun _ => fun
  | [d1, d2] => { results := [.lit (.bool true)], args := [d1, d2] }
  | _ => none }
def fnExactPlanOkRow : OpenClaim := { program := "ytbjeldblaclpnaa", sum := "122f0f1156a7faf749ce7b13650a493b6d9cf0b5c13e6605071fa3a01b873fe9", func := "loop.example/cloison/laws.FnExactPlanOk", spec := "fnExactPlanOk", unfollowed := true, recurses := true, loops := true, apart := false }
def FnExactPlanOkSaid : Prop := fnExactPlanOkRow.holds Try.pinned (OpenSpec.ofChange fnExactPlanOkSpec)

/-- ITS FALSE NEIGHBOUR: 'it returns false'. Refute it at one input. -/
def fnExactPlanOkWrong : ChangeSpec := { name := "fnExactPlanOk", fn := fun _ => fun
  | [d1, d2] => { results := [.lit (.bool false)], args := [d1, d2] }
  | _ => none }
def FnExactPlanOkWrongFalsely : Prop := fnExactPlanOkRow.holds Try.pinned (OpenSpec.ofChange fnExactPlanOkWrong)

/-- 'laws.FnPlanOk': WHATEVER THE INPUT: true; the input reads as it did. -/
def fnPlanOkSpec : ChangeSpec := { name := "fnPlanOk", fn := fun _ => fun
  | [d] => { results := [.lit (.bool true)], args := [d] }
  | _ => none }
def fnPlanOkRow : OpenClaim := { program := "ytbjeldblaclpnaa", sum := "122f0f1156a7faf749ce7b13650a493b6d9cf0b5c13e6605071fa3a01b873fe9", func := "loop.example/cloison/laws.FnPlanOk", spec := "fnPlanOk", unfollowed := true, recurses := true, apart := false }
def FnPlanOkSaid : Prop := fnPlanOkRow.holds Try.pinned (OpenSpec.ofChange fnPlanOkSpec)

/-- ITS FALSE NEIGHBOUR: 'it returns false'. Refute it at one input. -/
def fnPlanOkWrong : ChangeSpec := { name := "fnPlanOk", fn := fun _ => fun
  | [d] => { results := [.lit (.bool false)], args := [d] }
  | _ => none }
def FnPlanOkWrongFalsely : Prop := fnPlanOkRow.holds Try.pinned (OpenSpec.ofChange fnPlanOkWrong)

/- THE SECOND FORM. 'bulk': how many values and letters a reading holds, each counted each time it is reached (what is shared counts as often as it is met; a slice's spare places count too). A statement '..UptoSaid' is the law's where the arguments, and the package variables that the reading takes, are together of bulk at most 1048576: NARROWER than '..Said'. Prove '..Said' where nothing that the law and all that it calls make is longer than what came in: it says more and counts as full. Else prove '..UptoSaid'. A law counts once. -/
mutual
def uptoBulk {H : Type} : DataW H → Nat
  | .lit (.string bytes) => bytes.length + 1
  | .lit _ => 1
  | .nil => 1
  | .ptr d => uptoBulk d + 1
  | .slice elems spare => uptoBulkAll elems + uptoBulkAll spare + 1
  | .agg parts => uptoBulkAll parts + 1
  | .iface _ d => uptoBulk d + 1
  | .map entries => uptoBulkEntries entries + 1
  | .held _ => 1
def uptoBulkAll {H : Type} : List (DataW H) → Nat
  | [] => 0
  | d :: r => uptoBulk d + uptoBulkAll r
def uptoBulkEntries {H : Type} : List (Lit × DataW H) → Nat
  | [] => 0
  | x :: r => uptoBulkEntry x + uptoBulkEntries r
def uptoBulkEntry {H : Type} : Lit × DataW H → Nat
  | (.string bytes, d) => bytes.length + uptoBulk d + 1
  | (_, d) => uptoBulk d + 1
 end
def uptoSmall : (H : Type) → List (DataW H) → Bool := fun _ ds => decide (uptoBulkAll ds ≤ 1048576)
def OpenSpec.upto (s : _root_.Go.ChangeSpec) : _root_.Go.OpenSpec := { _root_.Go.OpenSpec.ofChange s with cond := some uptoSmall }

/-- 'laws.FnPlanAlone', WHERE WHAT IT READS IS OF BULK AT MOST 1048576: true; the input reads as it did. -/
def fnPlanAloneUptoRow : OpenClaim := { program := "ytbjeldblaclpnaa", sum := "122f0f1156a7faf749ce7b13650a493b6d9cf0b5c13e6605071fa3a01b873fe9", func := "loop.example/cloison/laws.FnPlanAlone", spec := "fnPlanAlone", unfollowed := true, recurses := true, apart := false, narrowed := true }
def FnPlanAloneUptoSaid : Prop := fnPlanAloneUptoRow.holds Try.pinned (OpenSpec.upto fnPlanAloneSpec)

/-- 'laws.FnExactPlanFind', WHERE WHAT IT READS IS OF BULK AT MOST 1048576: true; the input reads as it did. -/
def fnExactPlanFindUptoRow : OpenClaim := { program := "ytbjeldblaclpnaa", sum := "122f0f1156a7faf749ce7b13650a493b6d9cf0b5c13e6605071fa3a01b873fe9", func := "loop.example/cloison/laws.FnExactPlanFind", spec := "fnExactPlanFind", unfollowed := true, recurses := true, loops := true, apart := false, narrowed := true }
def FnExactPlanFindUptoSaid : Prop := fnExactPlanFindUptoRow.holds Try.pinned (OpenSpec.upto fnExactPlanFindSpec)

/-- 'laws.FnPlanFindAll', WHERE WHAT IT READS IS OF BULK AT MOST 1048576: true; the input reads as it did. -/
def fnPlanFindAllUptoRow : OpenClaim := { program := "ytbjeldblaclpnaa", sum := "122f0f1156a7faf749ce7b13650a493b6d9cf0b5c13e6605071fa3a01b873fe9", func := "loop.example/cloison/laws.FnPlanFindAll", spec := "fnPlanFindAll", unfollowed := true, recurses := true, apart := false, narrowed := true }
def FnPlanFindAllUptoSaid : Prop := fnPlanFindAllUptoRow.holds Try.pinned (OpenSpec.upto fnPlanFindAllSpec)

/-- 'laws.FnPlanFind', WHERE WHAT IT READS IS OF BULK AT MOST 1048576: true; the input reads as it did. -/
def fnPlanFindUptoRow : OpenClaim := { program := "ytbjeldblaclpnaa", sum := "122f0f1156a7faf749ce7b13650a493b6d9cf0b5c13e6605071fa3a01b873fe9", func := "loop.example/cloison/laws.FnPlanFind", spec := "fnPlanFind", unfollowed := true, recurses := true, apart := false, narrowed := true }
def FnPlanFindUptoSaid : Prop := fnPlanFindUptoRow.holds Try.pinned (OpenSpec.upto fnPlanFindSpec)

/-- 'laws.FnExactPlanStep', WHERE WHAT IT READS IS OF BULK AT MOST 1048576: true; the input reads as it did. -/
def fnExactPlanStepUptoRow : OpenClaim := { program := "ytbjeldblaclpnaa", sum := "122f0f1156a7faf749ce7b13650a493b6d9cf0b5c13e6605071fa3a01b873fe9", func := "loop.example/cloison/laws.FnExactPlanStep", spec := "fnExactPlanStep", unfollowed := true, recurses := true, loops := true, apart := false, narrowed := true }
def FnExactPlanStepUptoSaid : Prop := fnExactPlanStepUptoRow.holds Try.pinned (OpenSpec.upto fnExactPlanStepSpec)

/-- 'laws.FnPlanStepMore', WHERE WHAT IT READS IS OF BULK AT MOST 1048576: true; the input reads as it did. -/
def fnPlanStepMoreUptoRow : OpenClaim := { program := "ytbjeldblaclpnaa", sum := "122f0f1156a7faf749ce7b13650a493b6d9cf0b5c13e6605071fa3a01b873fe9", func := "loop.example/cloison/laws.FnPlanStepMore", spec := "fnPlanStepMore", unfollowed := true, recurses := true, apart := false, narrowed := true }
def FnPlanStepMoreUptoSaid : Prop := fnPlanStepMoreUptoRow.holds Try.pinned (OpenSpec.upto fnPlanStepMoreSpec)

/-- 'laws.FnPlanStep', WHERE WHAT IT READS IS OF BULK AT MOST 1048576: true; the input reads as it did. -/
def fnPlanStepUptoRow : OpenClaim := { program := "ytbjeldblaclpnaa", sum := "122f0f1156a7faf749ce7b13650a493b6d9cf0b5c13e6605071fa3a01b873fe9", func := "loop.example/cloison/laws.FnPlanStep", spec := "fnPlanStep", unfollowed := true, recurses := true, apart := false, narrowed := true }
def FnPlanStepUptoSaid : Prop := fnPlanStepUptoRow.holds Try.pinned (OpenSpec.upto fnPlanStepSpec)

/-- 'laws.FnPlanMore', WHERE WHAT IT READS IS OF BULK AT MOST 1048576: true; the input reads as it did. -/
def fnPlanMoreUptoRow : OpenClaim := { program := "ytbjeldblaclpnaa", sum := "122f0f1156a7faf749ce7b13650a493b6d9cf0b5c13e6605071fa3a01b873fe9", func := "loop.example/cloison/laws.FnPlanMore", spec := "fnPlanMore", unfollowed := true, recurses := true, apart := false, narrowed := true }
def FnPlanMoreUptoSaid : Prop := fnPlanMoreUptoRow.holds Try.pinned (OpenSpec.upto fnPlanMoreSpec)

/-- 'laws.FnPlanSize', WHERE WHAT IT READS IS OF BULK AT MOST 1048576: true; the input reads as it did. -/
def fnPlanSizeUptoRow : OpenClaim := { program := "ytbjeldblaclpnaa", sum := "122f0f1156a7faf749ce7b13650a493b6d9cf0b5c13e6605071fa3a01b873fe9", func := "loop.example/cloison/laws.FnPlanSize", spec := "fnPlanSize", unfollowed := true, recurses := true, apart := false, narrowed := true }
def FnPlanSizeUptoSaid : Prop := fnPlanSizeUptoRow.holds Try.pinned (OpenSpec.upto fnPlanSizeSpec)

/-- 'laws.FnExactPlanOk', WHERE WHAT IT READS IS OF BULK AT MOST 1048576: true; the input reads as it did. -/
def fnExactPlanOkUptoRow : OpenClaim := { program := "ytbjeldblaclpnaa", sum := "122f0f1156a7faf749ce7b13650a493b6d9cf0b5c13e6605071fa3a01b873fe9", func := "loop.example/cloison/laws.FnExactPlanOk", spec := "fnExactPlanOk", unfollowed := true, recurses := true, loops := true, apart := false, narrowed := true }
def FnExactPlanOkUptoSaid : Prop := fnExactPlanOkUptoRow.holds Try.pinned (OpenSpec.upto fnExactPlanOkSpec)

/-- 'laws.FnPlanOk', WHERE WHAT IT READS IS OF BULK AT MOST 1048576: true; the input reads as it did. -/
def fnPlanOkUptoRow : OpenClaim := { program := "ytbjeldblaclpnaa", sum := "122f0f1156a7faf749ce7b13650a493b6d9cf0b5c13e6605071fa3a01b873fe9", func := "loop.example/cloison/laws.FnPlanOk", spec := "fnPlanOk", unfollowed := true, recurses := true, apart := false, narrowed := true }
def FnPlanOkUptoSaid : Prop := fnPlanOkUptoRow.holds Try.pinned (OpenSpec.upto fnPlanOkSpec)

end Rows
end Go.Proofs.Ytbjeldblaclpnaa
