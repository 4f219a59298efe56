/-
  NARROWER THAN 'FOR EVERY INPUT', by the rows' own cells (each row's printed sentence says how): FnExactPlanFind: loops · FnExactPlanLack: loops.
  DERIVED. THE GIVEN ROWS OF THIS SEAT. 7 by the template 'for every input the law returns true; each argument reads behind the call as it read before'; 0 by the template 'total and deterministic' (their statements: YtiekbdijpfnagaaTotals.lean).
  GIVEN WITH THE SEED: the statements are not yours to turn. If you find one false, say at which input.
  Laid BY PROGRAM, IN A SANDBOX (cutbox-rows.mjs): the forced cells as the released guide's own fill.sh prints them over the translation 828df2ceb8a64dca… (all of the seat's roots in one cut). By AI agents, Wed Nov 11 2026. No macro, syntax, notation, axiom, sorry.
-/
import Derived.Test.YtiekbdijpfnagaaChecked
import GoSem.Claim
import GoSem.ClaimJoined
import GoSem.ClaimMapViews
import Derived.JoinedTies
import Derived.KernelRfl
namespace Go.Proofs.Ytiekbdijpfnagaa
/- THE CELL 'sum', in the pinned program and in every row, IS THE sha256 OF THE DUMP (.gsa) THAT YtiekbdijpfnagaaProg.lean LOADS. Nothing in Lean hashes anything: it is a label: what it is worth is what the hold of that sum in a sandbox is worth. -/
noncomputable def Try.pinned : Pinned := { name := "ytiekbdijpfnagaa", sum := "828df2ceb8a64dca40e86d6851cbdd874a51e4fee074b2cc3eebd166667f8eb7", checked := Try.checked }
namespace Rows
def none {H : Type} : Left H := { results := [], args := [] }

/-- 'laws.FnPlanAlone': WHATEVER THE INPUT: true; the input reads as it did. -/
def fnPlanAloneSpec : ChangeSpec := { name := "fnPlanAlone", fn := fun _ => fun
  | [d] => { results := [.lit (.bool true)], args := [d] }
  | _ => none }
def fnPlanAloneRow : OpenClaim := { program := "ytiekbdijpfnagaa", sum := "828df2ceb8a64dca40e86d6851cbdd874a51e4fee074b2cc3eebd166667f8eb7", func := "loop.example/cloison/laws.FnPlanAlone", spec := "fnPlanAlone", unfollowed := true, recurses := true, apart := false }
def FnPlanAloneSaid : Prop := fnPlanAloneRow.holds Try.pinned (OpenSpec.ofChange fnPlanAloneSpec)

/-- ITS FALSE NEIGHBOUR: 'it returns false'. Refute it at one input. -/
def fnPlanAloneWrong : ChangeSpec := { name := "fnPlanAlone", fn := fun _ => fun
  | [d] => { results := [.lit (.bool false)], args := [d] }
  | _ => none }
def FnPlanAloneWrongFalsely : Prop := fnPlanAloneRow.holds Try.pinned (OpenSpec.ofChange fnPlanAloneWrong)

/-- 'laws.FnExactPlanFind': WHATEVER THE INPUT: true; the input reads as it did. -/
def fnExactPlanFindSpec : ChangeSpec := { name := "fnExactPlanFind", fn := fun _ => fun
  | [d1, d2] => { results := [.lit (.bool true)], args := [d1, d2] }
  | _ => none }
def fnExactPlanFindRow : OpenClaim := { program := "ytiekbdijpfnagaa", sum := "828df2ceb8a64dca40e86d6851cbdd874a51e4fee074b2cc3eebd166667f8eb7", func := "loop.example/cloison/laws.FnExactPlanFind", spec := "fnExactPlanFind", unfollowed := true, recurses := true, loops := true, apart := false }
def FnExactPlanFindSaid : Prop := fnExactPlanFindRow.holds Try.pinned (OpenSpec.ofChange fnExactPlanFindSpec)

/-- ITS FALSE NEIGHBOUR: 'it returns false'. Refute it at one input. -/
def fnExactPlanFindWrong : ChangeSpec := { name := "fnExactPlanFind", fn := fun _ => fun
  | [d1, d2] => { results := [.lit (.bool false)], args := [d1, d2] }
  | _ => none }
def FnExactPlanFindWrongFalsely : Prop := fnExactPlanFindRow.holds Try.pinned (OpenSpec.ofChange fnExactPlanFindWrong)

/-- 'laws.FnPlanLack': WHATEVER THE INPUT: true; the input reads as it did. -/
def fnPlanLackSpec : ChangeSpec := { name := "fnPlanLack", fn := fun _ => fun
  | [d] => { results := [.lit (.bool true)], args := [d] }
  | _ => none }
def fnPlanLackRow : OpenClaim := { program := "ytiekbdijpfnagaa", sum := "828df2ceb8a64dca40e86d6851cbdd874a51e4fee074b2cc3eebd166667f8eb7", func := "loop.example/cloison/laws.FnPlanLack", spec := "fnPlanLack", unfollowed := true, recurses := true, apart := false }
def FnPlanLackSaid : Prop := fnPlanLackRow.holds Try.pinned (OpenSpec.ofChange fnPlanLackSpec)

/-- ITS FALSE NEIGHBOUR: 'it returns false'. Refute it at one input. -/
def fnPlanLackWrong : ChangeSpec := { name := "fnPlanLack", fn := fun _ => fun
  | [d] => { results := [.lit (.bool false)], args := [d] }
  | _ => none }
def FnPlanLackWrongFalsely : Prop := fnPlanLackRow.holds Try.pinned (OpenSpec.ofChange fnPlanLackWrong)

/-- 'laws.FnExactPlanLack': WHATEVER THE INPUT: true; the input reads as it did. -/
def fnExactPlanLackSpec : ChangeSpec := { name := "fnExactPlanLack", fn := fun _ => fun
  | [d1, d2] => { results := [.lit (.bool true)], args := [d1, d2] }
  | _ => none }
def fnExactPlanLackRow : OpenClaim := { program := "ytiekbdijpfnagaa", sum := "828df2ceb8a64dca40e86d6851cbdd874a51e4fee074b2cc3eebd166667f8eb7", func := "loop.example/cloison/laws.FnExactPlanLack", spec := "fnExactPlanLack", unfollowed := true, recurses := true, loops := true, apart := false }
def FnExactPlanLackSaid : Prop := fnExactPlanLackRow.holds Try.pinned (OpenSpec.ofChange fnExactPlanLackSpec)

/-- ITS FALSE NEIGHBOUR: 'it returns false'. Refute it at one input. -/
def fnExactPlanLackWrong : ChangeSpec := { name := "fnExactPlanLack", fn := fun _ => fun
  | [d1, d2] => { results := [.lit (.bool false)], args := [d1, d2] }
  | _ => none }
def FnExactPlanLackWrongFalsely : Prop := fnExactPlanLackRow.holds Try.pinned (OpenSpec.ofChange fnExactPlanLackWrong)

/-- 'laws.FnPlanFindAll': WHATEVER THE INPUT: true; the input reads as it did. -/
def fnPlanFindAllSpec : ChangeSpec := { name := "fnPlanFindAll", fn := fun _ => fun
  | [d] => { results := [.lit (.bool true)], args := [d] }
  | _ => none }
def fnPlanFindAllRow : OpenClaim := { program := "ytiekbdijpfnagaa", sum := "828df2ceb8a64dca40e86d6851cbdd874a51e4fee074b2cc3eebd166667f8eb7", func := "loop.example/cloison/laws.FnPlanFindAll", spec := "fnPlanFindAll", unfollowed := true, recurses := true, apart := false }
def FnPlanFindAllSaid : Prop := fnPlanFindAllRow.holds Try.pinned (OpenSpec.ofChange fnPlanFindAllSpec)

/-- ITS FALSE NEIGHBOUR: 'it returns false'. Refute it at one input. -/
def fnPlanFindAllWrong : ChangeSpec := { name := "fnPlanFindAll", fn := fun _ => fun
  | [d] => { results := [.lit (.bool false)], args := [d] }
  | _ => none }
def FnPlanFindAllWrongFalsely : Prop := fnPlanFindAllRow.holds Try.pinned (OpenSpec.ofChange fnPlanFindAllWrong)

/-- 'laws.FnPlanFind': WHATEVER THE INPUT: true; the input reads as it did. -/
def fnPlanFindSpec : ChangeSpec := { name := "fnPlanFind", fn := fun _ => fun
  | [d] => { results := [.lit (.bool true)], args := [d] }
  | _ => none }
def fnPlanFindRow : OpenClaim := { program := "ytiekbdijpfnagaa", sum := "828df2ceb8a64dca40e86d6851cbdd874a51e4fee074b2cc3eebd166667f8eb7", func := "loop.example/cloison/laws.FnPlanFind", spec := "fnPlanFind", unfollowed := true, recurses := true, apart := false }
def FnPlanFindSaid : Prop := fnPlanFindRow.holds Try.pinned (OpenSpec.ofChange fnPlanFindSpec)

/-- ITS FALSE NEIGHBOUR: 'it returns false'. Refute it at one input. -/
def fnPlanFindWrong : ChangeSpec := { name := "fnPlanFind", fn := fun _ => fun
  | [d] => { results := [.lit (.bool false)], args := [d] }
  | _ => none }
def FnPlanFindWrongFalsely : Prop := fnPlanFindRow.holds Try.pinned (OpenSpec.ofChange fnPlanFindWrong)

/-- 'laws.FnTurnVarsType': WHATEVER THE INPUT: true; the input reads as it did. -/
def fnTurnVarsTypeSpec : ChangeSpec := { name := "fnTurnVarsType", fn := fun _ => fun
  | [d] => { results := [.lit (.bool true)], args := [d] }
  | _ => none }
def fnTurnVarsTypeRow : OpenClaim := { program := "ytiekbdijpfnagaa", sum := "828df2ceb8a64dca40e86d6851cbdd874a51e4fee074b2cc3eebd166667f8eb7", func := "loop.example/cloison/laws.FnTurnVarsType", spec := "fnTurnVarsType", unfollowed := true, recurses := true, apart := false }
def FnTurnVarsTypeSaid : Prop := fnTurnVarsTypeRow.holds Try.pinned (OpenSpec.ofChange fnTurnVarsTypeSpec)

/-- ITS FALSE NEIGHBOUR: 'it returns false'. Refute it at one input. -/
def fnTurnVarsTypeWrong : ChangeSpec := { name := "fnTurnVarsType", fn := fun _ => fun
  | [d] => { results := [.lit (.bool false)], args := [d] }
  | _ => none }
def FnTurnVarsTypeWrongFalsely : Prop := fnTurnVarsTypeRow.holds Try.pinned (OpenSpec.ofChange fnTurnVarsTypeWrong)

/- THE SECOND FORM. 'bulk': how many values and letters a reading holds, each counted each time it is reached (what is shared counts as often as it is met; a slice's spare places count too). A statement '..UptoSaid' is the law's where the arguments, and the package variables that the reading takes, are together of bulk at most 1048576: NARROWER than '..Said'. Prove '..Said' where nothing that the law and all that it calls make is longer than what came in: it says more and counts as full. Else prove '..UptoSaid'. A law counts once. -/
mutual
def uptoBulk {H : Type} : DataW H → Nat
  | .lit (.string bytes) => bytes.length + 1
  | .lit _ => 1
  | .nil => 1
  | .ptr d => uptoBulk d + 1
  | .slice elems spare => uptoBulkAll elems + uptoBulkAll spare + 1
  | .agg parts => uptoBulkAll parts + 1
  | .iface _ d => uptoBulk d + 1
  | .map entries => uptoBulkEntries entries + 1
  | .held _ => 1
def uptoBulkAll {H : Type} : List (DataW H) → Nat
  | [] => 0
  | d :: r => uptoBulk d + uptoBulkAll r
def uptoBulkEntries {H : Type} : List (Lit × DataW H) → Nat
  | [] => 0
  | x :: r => uptoBulkEntry x + uptoBulkEntries r
def uptoBulkEntry {H : Type} : Lit × DataW H → Nat
  | (.string bytes, d) => bytes.length + uptoBulk d + 1
  | (_, d) => uptoBulk d + 1
 end
def uptoSmall : (H : Type) → List (DataW H) → Bool := fun _ ds => decide (uptoBulkAll ds ≤ 1048576)
def OpenSpec.upto (s : _root_.Go.ChangeSpec) : _root_.Go.OpenSpec := { _root_.Go.OpenSpec.ofChange s with cond := some uptoSmall }

/-- 'laws.FnPlanAlone', WHERE WHAT IT READS IS OF BULK AT MOST 1048576: true; the input reads as it did. -/
def fnPlanAloneUptoRow : OpenClaim := { program := "ytiekbdijpfnagaa", sum := "828df2ceb8a64dca40e86d6851cbdd874a51e4fee074b2cc3eebd166667f8eb7", func := "loop.example/cloison/laws.FnPlanAlone", spec := "fnPlanAlone", unfollowed := true, recurses := true, apart := false, narrowed := true }
def FnPlanAloneUptoSaid : Prop := fnPlanAloneUptoRow.holds Try.pinned (OpenSpec.upto fnPlanAloneSpec)

/-- 'laws.FnExactPlanFind', WHERE WHAT IT READS IS OF BULK AT MOST 1048576: true; the input reads as it did. -/
def fnExactPlanFindUptoRow : OpenClaim := { program := "ytiekbdijpfnagaa", sum := "828df2ceb8a64dca40e86d6851cbdd874a51e4fee074b2cc3eebd166667f8eb7", func := "loop.example/cloison/laws.FnExactPlanFind", spec := "fnExactPlanFind", unfollowed := true, recurses := true, loops := true, apart := false, narrowed := true }
def FnExactPlanFindUptoSaid : Prop := fnExactPlanFindUptoRow.holds Try.pinned (OpenSpec.upto fnExactPlanFindSpec)

/-- 'laws.FnPlanLack', WHERE WHAT IT READS IS OF BULK AT MOST 1048576: true; the input reads as it did. -/
def fnPlanLackUptoRow : OpenClaim := { program := "ytiekbdijpfnagaa", sum := "828df2ceb8a64dca40e86d6851cbdd874a51e4fee074b2cc3eebd166667f8eb7", func := "loop.example/cloison/laws.FnPlanLack", spec := "fnPlanLack", unfollowed := true, recurses := true, apart := false, narrowed := true }
def FnPlanLackUptoSaid : Prop := fnPlanLackUptoRow.holds Try.pinned (OpenSpec.upto fnPlanLackSpec)

/-- 'laws.FnExactPlanLack', WHERE WHAT IT READS IS OF BULK AT MOST 1048576: true; the input reads as it did. -/
def fnExactPlanLackUptoRow : OpenClaim := { program := "ytiekbdijpfnagaa", sum := "828df2ceb8a64dca40e86d6851cbdd874a51e4fee074b2cc3eebd166667f8eb7", func := "loop.example/cloison/laws.FnExactPlanLack", spec := "fnExactPlanLack", unfollowed := true, recurses := true, loops := true, apart := false, narrowed := true }
def FnExactPlanLackUptoSaid : Prop := fnExactPlanLackUptoRow.holds Try.pinned (OpenSpec.upto fnExactPlanLackSpec)

/-- 'laws.FnPlanFindAll', WHERE WHAT IT READS IS OF BULK AT MOST 1048576: true; the input reads as it did. -/
def fnPlanFindAllUptoRow : OpenClaim := { program := "ytiekbdijpfnagaa", sum := "828df2ceb8a64dca40e86d6851cbdd874a51e4fee074b2cc3eebd166667f8eb7", func := "loop.example/cloison/laws.FnPlanFindAll", spec := "fnPlanFindAll", unfollowed := true, recurses := true, apart := false, narrowed := true }
def FnPlanFindAllUptoSaid : Prop := fnPlanFindAllUptoRow.holds Try.pinned (OpenSpec.upto fnPlanFindAllSpec)

/-- 'laws.FnPlanFind', WHERE WHAT IT READS IS OF BULK AT MOST 1048576: true; the input reads as it did. -/
def fnPlanFindUptoRow : OpenClaim := { program := "ytiekbdijpfnagaa", sum := "828df2ceb8a64dca40e86d6851cbdd874a51e4fee074b2cc3eebd166667f8eb7", func := "loop.example/cloison/laws.FnPlanFind", spec := "fnPlanFind", unfollowed := true, recurses := true, apart := false, narrowed := true }
def FnPlanFindUptoSaid : Prop := fnPlanFindUptoRow.holds Try.pinned (OpenSpec.upto fnPlanFindSpec)

/-- 'laws.FnTurnVarsType', WHERE WHAT IT READS IS OF BULK AT MOST 1048576: true; the input reads as it did. -/
def fnTurnVarsTypeUptoRow : OpenClaim := { program := "ytiekbdijpfnagaa", sum := "828df2ceb8a64dca40e86d6851cbdd874a51e4fee074b2cc3eebd166667f8eb7", func := "loop.example/cloison/laws.FnTurnVarsType", spec := "fnTurnVarsType", unfollowed := true, recurses := true, apart := false, narrowed := true }
def FnTurnVarsTypeUptoSaid : Prop := fnTurnVarsTypeUptoRow.holds Try.pinned (OpenSpec.upto fnTurnVarsTypeSpec)

end Rows
end Go.Proofs.Ytiekbdijpfnagaa
