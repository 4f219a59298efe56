/- The functions that this law reaches, as ideal functions. -/
import Derived.Test.YtkdhdklggdbgdaaQ13
import Derived.Test.YtkdhdklggdbgdaaQ4
import Derived.Test.YtkdhdklggdbgdaaQ5b
import Derived.Test.YtkdhdklggdbgdaaI18
import Derived.Test.YtkdhdklggdbgdaaRows
set_option linter.unusedVariables false
set_option linter.unusedSimpArgs false
namespace Go.Proofs.YtkdhdklggdbgdaaI
open Go Go.RowKit
def fnOf : Nat → Option IFn
  | 4 => some (c_lawPH)
  | 11 => some (c_szProg)
  | 12 => some (c_sHome)
  | 13 => some (c_toProg)
  | 14 => some (toFlat 3)
  | 15 => some (c_iPlanHome)
  | 16 => some (c_eqProg)
  | 17 => some (eqFlat)
  | 30 => some (szFlat)
  | 31 => some (szNest 61 8 true)
  | 32 => some (c_sProg)
  | 33 => some (c_sTrusts)
  | 34 => some (c_sVar)
  | 35 => some (c_sIn)
  | 36 => some (c_sHas)
  | 37 => some (c_sWithin)
  | 38 => some (c_sBy)
  | 39 => some (toCall .q 67 2 77 16 [(.int .i64 0), (.int .i64 0)] true)
  | 40 => some (toCall .k 68 8 112 96 [(.int .i64 0), (.int .i64 0), (.int .i64 0), (.int .i64 0), (.int .i64 0), (.int .i64 0), (.slice none 0 0), (.slice none 0 0)] true)
  | 41 => some (c_iProg)
  | 42 => some (c_iTrusts)
  | 43 => some (c_iVar)
  | 44 => some (c_iHost)
  | 45 => some (c_iHomeM)
  | 46 => some (eqCall 78 2 true)
  | 47 => some (eqCall 79 8 true)
  | 48 => some (c_iIn)
  | 61 => some (c_szStep)
  | 62 => some (c_sLabelOk)
  | 63 => some (c_sSteps)
  | 64 => some (c_sCount)
  | 65 => some (c_sSet)
  | 66 => some (c_sAll)
  | 67 => some (c_toLabel)
  | 68 => some (c_toStep)
  | 69 => some (c_con)
  | 70 => some (c_p1)
  | 71 => some (c_iLabelOk)
  | 72 => some (c_iSteps)
  | 73 => some (c_iSize)
  | 74 => some (c_iSet)
  | 75 => some (c_iHas)
  | 76 => some (c_iWithin)
  | 77 => some (c_iBy)
  | 78 => some (c_eqLabel)
  | 79 => some (c_eqStep)
  | 88 => some (c_sStep)
  | 89 => some (c_toVal)
  | 90 => some (c_idx)
  | 91 => some (c_iVal)
  | 92 => some (c_eqVal)
  | 93 => some (c_sVal)
  | 94 => some (c_iNum)
  | _ => none
def cmOf (_ : Nat) : CM := ⟨fun g => if [4, 11, 12, 15, 16, 17, 30, 31, 32, 33, 34, 35, 36, 37, 38, 41, 42, 43, 44, 45, 46, 47, 48, 61, 62, 63, 64, 65, 66, 67, 69, 70, 71, 72, 73, 74, 75, 76, 77, 78, 79, 88, 89, 90, 91, 92, 93, 94].contains g then .q else .k, .q, false⟩
theorem hF4 : cFn Try.prog cmOf 4 = some (c_lawPH) := by kernel_rfl
theorem hF11 : cFn Try.prog cmOf 11 = some (c_szProg) := by kernel_rfl
theorem hF12 : cFn Try.prog cmOf 12 = some (c_sHome) := by kernel_rfl
theorem hF13 : cFn Try.prog cmOf 13 = some (c_toProg) := by kernel_rfl
theorem hF14 : cFn Try.prog cmOf 14 = some (toFlat 3) := by kernel_rfl
theorem hF15 : cFn Try.prog cmOf 15 = some (c_iPlanHome) := by kernel_rfl
theorem hF16 : cFn Try.prog cmOf 16 = some (c_eqProg) := by kernel_rfl
theorem hF17 : cFn Try.prog cmOf 17 = some (eqFlat) := by kernel_rfl
theorem hF30 : cFn Try.prog cmOf 30 = some (szFlat) := by kernel_rfl
theorem hF31 : cFn Try.prog cmOf 31 = some (szNest 61 8 true) := by kernel_rfl
theorem hF32 : cFn Try.prog cmOf 32 = some (c_sProg) := by kernel_rfl
theorem hF33 : cFn Try.prog cmOf 33 = some (c_sTrusts) := by kernel_rfl
theorem hF34 : cFn Try.prog cmOf 34 = some (c_sVar) := by kernel_rfl
theorem hF35 : cFn Try.prog cmOf 35 = some (c_sIn) := by kernel_rfl
theorem hF36 : cFn Try.prog cmOf 36 = some (c_sHas) := by kernel_rfl
theorem hF37 : cFn Try.prog cmOf 37 = some (c_sWithin) := by kernel_rfl
theorem hF38 : cFn Try.prog cmOf 38 = some (c_sBy) := by kernel_rfl
theorem hF39 : cFn Try.prog cmOf 39 = some (toCall .q 67 2 77 16 [(.int .i64 0), (.int .i64 0)] true) := by kernel_rfl
theorem hF40 : cFn Try.prog cmOf 40 = some (toCall .k 68 8 112 96 [(.int .i64 0), (.int .i64 0), (.int .i64 0), (.int .i64 0), (.int .i64 0), (.int .i64 0), (.slice none 0 0), (.slice none 0 0)] true) := by kernel_rfl
theorem hF41 : cFn Try.prog cmOf 41 = some (c_iProg) := by kernel_rfl
theorem hF42 : cFn Try.prog cmOf 42 = some (c_iTrusts) := by kernel_rfl
theorem hF43 : cFn Try.prog cmOf 43 = some (c_iVar) := by kernel_rfl
theorem hF44 : cFn Try.prog cmOf 44 = some (c_iHost) := by kernel_rfl
theorem hF45 : cFn Try.prog cmOf 45 = some (c_iHomeM) := by kernel_rfl
theorem hF46 : cFn Try.prog cmOf 46 = some (eqCall 78 2 true) := by kernel_rfl
theorem hF47 : cFn Try.prog cmOf 47 = some (eqCall 79 8 true) := by kernel_rfl
theorem hF48 : cFn Try.prog cmOf 48 = some (c_iIn) := by kernel_rfl
theorem hF61 : cFn Try.prog cmOf 61 = some (c_szStep) := by kernel_rfl
theorem hF62 : cFn Try.prog cmOf 62 = some (c_sLabelOk) := by kernel_rfl
theorem hF63 : cFn Try.prog cmOf 63 = some (c_sSteps) := by kernel_rfl
theorem hF64 : cFn Try.prog cmOf 64 = some (c_sCount) := by kernel_rfl
theorem hF65 : cFn Try.prog cmOf 65 = some (c_sSet) := by kernel_rfl
theorem hF66 : cFn Try.prog cmOf 66 = some (c_sAll) := by kernel_rfl
theorem hF67 : cFn Try.prog cmOf 67 = some (c_toLabel) := by kernel_rfl
theorem hF68 : cFn Try.prog cmOf 68 = some (c_toStep) := by kernel_rfl
theorem hF69 : cFn Try.prog cmOf 69 = some (c_con) := by kernel_rfl
theorem hF70 : cFn Try.prog cmOf 70 = some (c_p1) := by kernel_rfl
theorem hF71 : cFn Try.prog cmOf 71 = some (c_iLabelOk) := by kernel_rfl
theorem hF72 : cFn Try.prog cmOf 72 = some (c_iSteps) := by kernel_rfl
theorem hF73 : cFn Try.prog cmOf 73 = some (c_iSize) := by kernel_rfl
theorem hF74 : cFn Try.prog cmOf 74 = some (c_iSet) := by kernel_rfl
theorem hF75 : cFn Try.prog cmOf 75 = some (c_iHas) := by kernel_rfl
theorem hF76 : cFn Try.prog cmOf 76 = some (c_iWithin) := by kernel_rfl
theorem hF77 : cFn Try.prog cmOf 77 = some (c_iBy) := by kernel_rfl
theorem hF78 : cFn Try.prog cmOf 78 = some (c_eqLabel) := by kernel_rfl
theorem hF79 : cFn Try.prog cmOf 79 = some (c_eqStep) := by kernel_rfl
theorem hF88 : cFn Try.prog cmOf 88 = some (c_sStep) := by kernel_rfl
theorem hF89 : cFn Try.prog cmOf 89 = some (c_toVal) := by kernel_rfl
theorem hF90 : cFn Try.prog cmOf 90 = some (c_idx) := by kernel_rfl
theorem hF91 : cFn Try.prog cmOf 91 = some (c_iVal) := by kernel_rfl
theorem hF92 : cFn Try.prog cmOf 92 = some (c_eqVal) := by kernel_rfl
theorem hF93 : cFn Try.prog cmOf 93 = some (c_sVal) := by kernel_rfl
theorem hF94 : cFn Try.prog cmOf 94 = some (c_iNum) := by kernel_rfl
theorem hF (g : Nat) (fn : IFn) (h : fnOf g = some fn) : cFn Try.prog cmOf g = some fn := by
  unfold fnOf at h
  split at h
  · rw [← h]; exact hF4
  · rw [← h]; exact hF11
  · rw [← h]; exact hF12
  · rw [← h]; exact hF13
  · rw [← h]; exact hF14
  · rw [← h]; exact hF15
  · rw [← h]; exact hF16
  · rw [← h]; exact hF17
  · rw [← h]; exact hF30
  · rw [← h]; exact hF31
  · rw [← h]; exact hF32
  · rw [← h]; exact hF33
  · rw [← h]; exact hF34
  · rw [← h]; exact hF35
  · rw [← h]; exact hF36
  · rw [← h]; exact hF37
  · rw [← h]; exact hF38
  · rw [← h]; exact hF39
  · rw [← h]; exact hF40
  · rw [← h]; exact hF41
  · rw [← h]; exact hF42
  · rw [← h]; exact hF43
  · rw [← h]; exact hF44
  · rw [← h]; exact hF45
  · rw [← h]; exact hF46
  · rw [← h]; exact hF47
  · rw [← h]; exact hF48
  · rw [← h]; exact hF61
  · rw [← h]; exact hF62
  · rw [← h]; exact hF63
  · rw [← h]; exact hF64
  · rw [← h]; exact hF65
  · rw [← h]; exact hF66
  · rw [← h]; exact hF67
  · rw [← h]; exact hF68
  · rw [← h]; exact hF69
  · rw [← h]; exact hF70
  · rw [← h]; exact hF71
  · rw [← h]; exact hF72
  · rw [← h]; exact hF73
  · rw [← h]; exact hF74
  · rw [← h]; exact hF75
  · rw [← h]; exact hF76
  · rw [← h]; exact hF77
  · rw [← h]; exact hF78
  · rw [← h]; exact hF79
  · rw [← h]; exact hF88
  · rw [← h]; exact hF89
  · rw [← h]; exact hF90
  · rw [← h]; exact hF91
  · rw [← h]; exact hF92
  · rw [← h]; exact hF93
  · rw [← h]; exact hF94
  · cases h
theorem hMixed : Try.prog.follows .mixedOrders = true := by kernel_rfl
theorem ok_szLabelS : SzOk fnOf (Co.sl Co.p2) false 30 := szFlat_ok rfl (fun _ => ⟨trivial, trivial⟩)
theorem ok_szSteps : ∀ n, SzOk fnOf (Co.step n) true 61 ∧ SzOk fnOf (Co.sl (Co.step n)) false 31 := by
  intro n
  induction n with
  | zero =>
    have z : SzOk fnOf (Co.step 0) true 61 := by
      rintro H v a left ⟨cs, _, h⟩
      exact h.elim
    exact ⟨z, szNest_ok rfl z (step_w 0) (va_t (Co.step 0))⟩
  | succ n ih =>
    have z : SzOk fnOf (Co.step (n + 1)) true 61 := szStep_ok rfl ih.2 ih.2
    exact ⟨z, szNest_ok rfl z (step_w (n + 1)) (va_t (Co.step (n + 1)))⟩
theorem ok_szProg (n : Nat) : SzOk fnOf (Co.prog n) true 11 := szProg_ok rfl ok_szLabelS (ok_szSteps n).2
theorem ok_toIntS : ToOk fnOf (Co.sl Co.int) false .k 14 := toFlat_ok rfl
theorem ok_toLabel : ToOk fnOf Co.p2 true .q 67 := toLabel_ok rfl
theorem ok_toVal : ToOk fnOf Co.val true .q 89 := toVal_ok rfl
theorem ok_toLabelS : ToOk fnOf (Co.sl Co.p2) false .k 39 := toCall_ok rfl rfl (by omega) ok_toLabel rfl (va_t Co.p2)
theorem ok_toSteps : ∀ n, ToOk fnOf (Co.step n) true .k 68 ∧ ToOk fnOf (Co.sl (Co.step n)) false .k 40 := by
  intro n
  induction n with
  | zero =>
    have z : ToOk fnOf (Co.step 0) true .k 68 := by
      rintro H v a ⟨cs, _, h⟩
      exact h.elim
    exact ⟨z, toCall_ok rfl rfl (by omega) z (step_w 0) (va_t (Co.step 0))⟩
  | succ n ih =>
    have z : ToOk fnOf (Co.step (n + 1)) true .k 68 := toStep_ok rfl ok_toVal ih.2 ih.2
    exact ⟨z, toCall_ok rfl rfl (by omega) z (step_w (n + 1)) (va_t (Co.step (n + 1)))⟩
theorem ok_toProg (n : Nat) : ToOk fnOf (Co.prog n) true .k 13 := toProg_ok rfl ok_toLabelS (ok_toSteps n).2
theorem ok_eqIntS : EqOk fnOf (Co.sl Co.int) false 17 := eqFlat_ok rfl
theorem ok_eqLabel : EqOk fnOf Co.p2 true 78 := eqLabel_ok rfl
theorem ok_eqVal : EqOk fnOf Co.val true 92 := eqVal_ok rfl
theorem ok_eqLabelS : EqOk fnOf (Co.sl Co.p2) false 46 := eqCall_ok rfl ok_eqLabel rfl (va_t Co.p2)
theorem ok_eqSteps : ∀ n, EqOk fnOf (Co.step n) true 79 ∧ EqOk fnOf (Co.sl (Co.step n)) false 47 := by
  intro n
  induction n with
  | zero =>
    have z : EqOk fnOf (Co.step 0) true 79 := by
      rintro H v u a ⟨cs, _, h⟩
      exact h.elim
    exact ⟨z, eqCall_ok rfl z (step_w 0) (va_t (Co.step 0))⟩
  | succ n ih =>
    have z : EqOk fnOf (Co.step (n + 1)) true 79 := eqStep_ok rfl ok_eqVal ih.2 ih.2
    exact ⟨z, eqCall_ok rfl z (step_w (n + 1)) (va_t (Co.step (n + 1)))⟩
theorem ok_eqProg (n : Nat) : EqOk fnOf (Co.prog n) true 16 := eqProg_ok rfl ok_eqLabelS (ok_eqSteps n).2
theorem ok_iIn : ∀ (H : Heap) (a b c : Int), QC fnOf 48 [.int .i64 a, .int .i64 b, .int .i64 c] H (.bool (inB a b c)) := iIn_ok rfl
theorem ok_sIn : ∀ (H : Heap) (a b c : Int), QC fnOf 35 [.int .i64 a, .int .i64 b, .int .i64 c] H (.bool (inB a b c)) := sIn_ok rfl
theorem ok_iSet : ∀ (H : Heap) (a : Int), QC fnOf 74 [.int .i64 a] H (.bool (inB a 0 7)) := iSet_ok rfl ok_iIn
theorem ok_iHost : ∀ (H : Heap) (a : Int), QC fnOf 44 [.int .i64 a] H (.bool (inB a 0 2)) := iHost_ok rfl ok_iIn
theorem ok_iNum : ∀ (H : Heap) (a : Int), QC fnOf 94 [.int .i64 a] H (.bool (inB a 0 9)) := iNum_ok rfl ok_iIn
theorem ok_sSet : ∀ (H : Heap) (a : Int), QC fnOf 65 [.int .i64 a] H (.bool (inB a 0 7)) := sSet_ok rfl ok_sIn (sAll_ok rfl)
theorem ok_iLabelOk : LabOk fnOf 71 := iLabelOk_ok rfl ok_iSet
theorem ok_sLabelOk : LabOk fnOf 62 := sLabelOk_ok rfl ok_sSet
theorem ok_iVar : VarOk fnOf 43 := iVar_ok rfl ok_iIn
theorem ok_sVar : VarOk fnOf 34 := sVar_ok rfl ok_sIn
theorem ok_iVal : ValOk fnOf 91 := iVal_ok rfl ok_iNum ok_iVar
theorem ok_sVal : ValOk fnOf 93 := sVal_ok rfl ok_sIn ok_sVar
theorem ok_sSteps : ∀ n, StepsOk fnOf 63 n := fun n => (sSteps_all rfl rfl ok_sIn ok_sVar ok_sVal n).1
theorem ok_iSteps : ∀ n, StepsOk fnOf 72 n := iSteps_all rfl ok_iVar ok_iVal ok_iHost
theorem ok_sCount : ∀ n, CntOk fnOf 64 n := cnt_all (fun _ h => sCount_ok rfl h) (sCount_z rfl)
theorem ok_iSize : ∀ n, CntOk fnOf 73 n := cnt_all (fun _ h => iSize_ok rfl h) (iSize_z rfl)
theorem ok_sProg : ProgOk fnOf 32 := sProg_ok rfl ok_sLabelOk ok_sSteps ok_sCount
theorem ok_iProg : ProgOk fnOf 41 := iProg_ok rfl (con_ok rfl (idx_ok rfl (p1_ok rfl ok_iLabelOk))) ok_iSteps ok_iSize
theorem ok_iHas : HasOk fnOf 75 := iHas_ok rfl ok_iHost
theorem ok_sHas : HasOk fnOf 36 := sHas_ok rfl
theorem ok_iTrusts : TrOk fnOf 42 := iTrusts_ok rfl ok_iSet ok_iHas
theorem ok_sTrusts : TrOk fnOf 33 := sTrusts_ok rfl ok_sSet ok_sHas
theorem ok_iBy : ByOk fnOf 77 := iBy_ok rfl ok_iHas
theorem ok_sBy : ByOk fnOf 38 := sBy_ok rfl ok_sHas
theorem ok_iWit : WitOk fnOf 76 := iWithin_ok rfl
theorem ok_sWit : WitOk fnOf 37 := sWithin_ok rfl ok_sHas
theorem ok_sHome : HomeOk fnOf 12 := sHome_ok rfl ok_sProg ok_sTrusts ok_sVar ok_sIn ok_sHas ok_sWit ok_sBy
theorem ok_iHome : HomeOk fnOf 15 := iPlanHome_ok rfl ok_iProg ok_iTrusts ok_iVar ok_iHost (iHomeM_ok rfl ok_iHas ok_iWit ok_iBy)
theorem ok_law : ∀ (H : Heap) (n : Nat) (v u : Value) (a : TProg n) (ts : List Int) (x y : Int), Rd (Co.prog n) true (vw 0 H) v a → SlR Co.int (vw 0 H) u ts → QC fnOf 4 [v, u, .int .i64 x, .int .i64 y] H (.bool true) := lawPH_ok rfl ok_szProg ok_toProg ok_toIntS ok_eqProg ok_eqIntS ok_sHome ok_iHome
end Go.Proofs.YtkdhdklggdbgdaaI
