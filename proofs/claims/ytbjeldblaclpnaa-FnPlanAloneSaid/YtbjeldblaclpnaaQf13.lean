/- Texts of this proof, merged: GL55, BL55. -/
import Derived.Test.YtbjeldblaclpnaaQf12
import Derived.Test.YtbjeldblaclpnaaRows
section
/- The functions that laws on drawn plans reach, as ideal functions. -/
set_option linter.unusedVariables false
set_option linter.unusedSimpArgs false
namespace Go.Proofs.YtbjeldblaclpnaaI
open Go Go.RowKit
def fnOf : Nat → Option IFn
  | 3 => some (c_lawAl)
  | 14 => some (c_drPF)
  | 15 => some (c_sPlanFind)
  | 16 => some (c_iPlanFind)
  | 17 => some (c_lcPlan)
  | 18 => some (c_sTypeOk)
  | 19 => some (c_lcHas)
  | 20 => some (c_iProgSize)
  | 21 => some (c_iPlanOk)
  | 34 => some (c_lcInts)
  | 35 => some (c_sPlanStep)
  | 43 => some (c_iTypeOk)
  | 44 => some (c_l6Open)
  | 45 => some (c_pick)
  | 46 => some (c_drPlan)
  | 47 => some (c_drAny)
  | 48 => some (c_drTrusts)
  | 49 => some (c_sTrusts)
  | 50 => some (c_sSee)
  | 51 => some (c_lFind)
  | 52 => some (c_iTrusts)
  | 53 => some (c_iAt)
  | 54 => some (c_iHomes)
  | 55 => some (c_iAll)
  | 56 => some (c_iDoer)
  | 57 => some (c_conK)
  | 58 => some (c_plClone)
  | 59 => some (c_sWhy)
  | 60 => some (c_sProg)
  | 61 => some (c_iProg)
  | 62 => some (c_iSize)
  | 63 => some (c_iHostsOk)
  | 64 => some (c_iHome1)
  | 65 => some (c_iDoes)
  | 76 => some (c_sHomes21)
  | 77 => some (c_sProgSize)
  | 78 => some (c_lHome)
  | 79 => some (c_sIn)
  | 80 => some (c_lStep)
  | 81 => some (c_iIn)
  | 82 => some (c_iHost)
  | 83 => some (c_iSets)
  | 85 => some (c_iVar)
  | 86 => some (c_iWhy0)
  | 87 => some (c_drFine)
  | 88 => some (c_drProg)
  | 89 => some (c_drBent)
  | 90 => some (c_sEither)
  | 91 => some (c_sSet)
  | 92 => some (c_sHas)
  | 93 => some (c_sAllSteps)
  | 94 => some (c_sTypeAt)
  | 95 => some (c_sTypeSets)
  | 96 => some (c_sBy)
  | 97 => some (c_lDoes)
  | 98 => some (c_iSet)
  | 99 => some (c_iHas)
  | 100 => some (c_iLabels)
  | 101 => some (c_iEvery)
  | 102 => some (c_cloneI)
  | 103 => some (c_ixK)
  | 104 => some (c_sFine)
  | 105 => some (c_sLabelOk)
  | 106 => some (c_sSteps)
  | 107 => some (c_sCount)
  | 108 => some (c_con)
  | 109 => some (c_p1)
  | 110 => some (c_iLabelOk)
  | 111 => some (c_iSteps)
  | 112 => some (c_cfInt)
  | 113 => some (c_hk1)
  | 114 => some (c_iWithin)
  | 115 => some (c_iBy)
  | 116 => some (c_iMakes)
  | 122 => some (c_sWithin)
  | 123 => some (c_sVars21)
  | 124 => some (c_iSource)
  | 125 => some (c_iFlows)
  | 126 => some (c_sWithout)
  | 127 => some (c_drLabel)
  | 128 => some (c_drSteps)
  | 129 => some (c_sCopy)
  | 130 => some (c_sBoth)
  | 131 => some (c_sAll)
  | 132 => some (c_sAt)
  | 133 => some (c_sAny)
  | 134 => some (c_sSets)
  | 135 => some (c_iBoth)
  | 136 => some (c_sFlows)
  | 137 => some (c_sLBoth)
  | 138 => some (c_sValL)
  | 139 => some (c_sStep)
  | 140 => some (c_idx)
  | 141 => some (c_iVal)
  | 142 => some (c_ifInt)
  | 143 => some (c_vars)
  | 146 => some (c_drVal)
  | 147 => some (c_sVar)
  | 148 => some (c_sVal)
  | 149 => some (c_iNum)
  | _ => none
def cmOf (f : Nat) : CM := ⟨fun g => if [3, 17, 18, 19, 20, 21, 34, 35, 43, 49, 52, 56, 57, 59, 60, 61, 62, 63, 64, 65, 76, 77, 78, 79, 80, 81, 82, 83, 85, 86, 90, 91, 92, 96, 98, 99, 101, 103, 104, 105, 106, 107, 108, 109, 110, 111, 112, 113, 114, 115, 122, 124, 125, 130, 131, 133, 134, 135, 136, 137, 138, 139, 140, 141, 142, 147, 148, 149].contains g then .q else if [44, 45, 46, 47, 48, 50, 87, 88, 89, 100, 127, 128, 132, 146].contains g then .n else .k, if [44, 45, 46, 47, 48, 50, 87, 88, 89, 100, 127, 128, 132, 146].contains f then .n else .q, [48, 51, 97].contains f⟩
theorem hF3 : cFn Try.prog cmOf 3 = some (c_lawAl) := by kernel_rfl
theorem hF14 : cFn Try.prog cmOf 14 = some (c_drPF) := by kernel_rfl
theorem hF15 : cFn Try.prog cmOf 15 = some (c_sPlanFind) := by kernel_rfl
theorem hF16 : cFn Try.prog cmOf 16 = some (c_iPlanFind) := by kernel_rfl
theorem hF17 : cFn Try.prog cmOf 17 = some (c_lcPlan) := by kernel_rfl
theorem hF18 : cFn Try.prog cmOf 18 = some (c_sTypeOk) := by kernel_rfl
theorem hF19 : cFn Try.prog cmOf 19 = some (c_lcHas) := by kernel_rfl
theorem hF20 : cFn Try.prog cmOf 20 = some (c_iProgSize) := by kernel_rfl
theorem hF21 : cFn Try.prog cmOf 21 = some (c_iPlanOk) := by kernel_rfl
theorem hF34 : cFn Try.prog cmOf 34 = some (c_lcInts) := by kernel_rfl
theorem hF35 : cFn Try.prog cmOf 35 = some (c_sPlanStep) := by kernel_rfl
theorem hF43 : cFn Try.prog cmOf 43 = some (c_iTypeOk) := by kernel_rfl
theorem hF44 : cFn Try.prog cmOf 44 = some (c_l6Open) := by kernel_rfl
theorem hF45 : cFn Try.prog cmOf 45 = some (c_pick) := by kernel_rfl
theorem hF46 : cFn Try.prog cmOf 46 = some (c_drPlan) := by kernel_rfl
theorem hF47 : cFn Try.prog cmOf 47 = some (c_drAny) := by kernel_rfl
theorem hF48 : cFn Try.prog cmOf 48 = some (c_drTrusts) := by kernel_rfl
theorem hF49 : cFn Try.prog cmOf 49 = some (c_sTrusts) := by kernel_rfl
theorem hF50 : cFn Try.prog cmOf 50 = some (c_sSee) := by kernel_rfl
theorem hF51 : cFn Try.prog cmOf 51 = some (c_lFind) := by kernel_rfl
theorem hF52 : cFn Try.prog cmOf 52 = some (c_iTrusts) := by kernel_rfl
theorem hF53 : cFn Try.prog cmOf 53 = some (c_iAt) := by kernel_rfl
theorem hF54 : cFn Try.prog cmOf 54 = some (c_iHomes) := by kernel_rfl
theorem hF55 : cFn Try.prog cmOf 55 = some (c_iAll) := by kernel_rfl
theorem hF56 : cFn Try.prog cmOf 56 = some (c_iDoer) := by kernel_rfl
theorem hF57 : cFn Try.prog cmOf 57 = some (c_conK) := by kernel_rfl
theorem hF58 : cFn Try.prog cmOf 58 = some (c_plClone) := by kernel_rfl
theorem hF59 : cFn Try.prog cmOf 59 = some (c_sWhy) := by kernel_rfl
theorem hF60 : cFn Try.prog cmOf 60 = some (c_sProg) := by kernel_rfl
theorem hF61 : cFn Try.prog cmOf 61 = some (c_iProg) := by kernel_rfl
theorem hF62 : cFn Try.prog cmOf 62 = some (c_iSize) := by kernel_rfl
theorem hF63 : cFn Try.prog cmOf 63 = some (c_iHostsOk) := by kernel_rfl
theorem hF64 : cFn Try.prog cmOf 64 = some (c_iHome1) := by kernel_rfl
theorem hF65 : cFn Try.prog cmOf 65 = some (c_iDoes) := by kernel_rfl
theorem hF76 : cFn Try.prog cmOf 76 = some (c_sHomes21) := by kernel_rfl
theorem hF77 : cFn Try.prog cmOf 77 = some (c_sProgSize) := by kernel_rfl
theorem hF78 : cFn Try.prog cmOf 78 = some (c_lHome) := by kernel_rfl
theorem hF79 : cFn Try.prog cmOf 79 = some (c_sIn) := by kernel_rfl
theorem hF80 : cFn Try.prog cmOf 80 = some (c_lStep) := by kernel_rfl
theorem hF81 : cFn Try.prog cmOf 81 = some (c_iIn) := by kernel_rfl
theorem hF82 : cFn Try.prog cmOf 82 = some (c_iHost) := by kernel_rfl
theorem hF83 : cFn Try.prog cmOf 83 = some (c_iSets) := by kernel_rfl
theorem hF85 : cFn Try.prog cmOf 85 = some (c_iVar) := by kernel_rfl
theorem hF86 : cFn Try.prog cmOf 86 = some (c_iWhy0) := by kernel_rfl
theorem hF87 : cFn Try.prog cmOf 87 = some (c_drFine) := by kernel_rfl
theorem hF88 : cFn Try.prog cmOf 88 = some (c_drProg) := by kernel_rfl
theorem hF89 : cFn Try.prog cmOf 89 = some (c_drBent) := by kernel_rfl
theorem hF90 : cFn Try.prog cmOf 90 = some (c_sEither) := by kernel_rfl
theorem hF91 : cFn Try.prog cmOf 91 = some (c_sSet) := by kernel_rfl
theorem hF92 : cFn Try.prog cmOf 92 = some (c_sHas) := by kernel_rfl
theorem hF93 : cFn Try.prog cmOf 93 = some (c_sAllSteps) := by kernel_rfl
theorem hF94 : cFn Try.prog cmOf 94 = some (c_sTypeAt) := by kernel_rfl
theorem hF95 : cFn Try.prog cmOf 95 = some (c_sTypeSets) := by kernel_rfl
theorem hF96 : cFn Try.prog cmOf 96 = some (c_sBy) := by kernel_rfl
theorem hF97 : cFn Try.prog cmOf 97 = some (c_lDoes) := by kernel_rfl
theorem hF98 : cFn Try.prog cmOf 98 = some (c_iSet) := by kernel_rfl
theorem hF99 : cFn Try.prog cmOf 99 = some (c_iHas) := by kernel_rfl
theorem hF100 : cFn Try.prog cmOf 100 = some (c_iLabels) := by kernel_rfl
theorem hF101 : cFn Try.prog cmOf 101 = some (c_iEvery) := by kernel_rfl
theorem hF102 : cFn Try.prog cmOf 102 = some (c_cloneI) := by kernel_rfl
theorem hF103 : cFn Try.prog cmOf 103 = some (c_ixK) := by kernel_rfl
theorem hF104 : cFn Try.prog cmOf 104 = some (c_sFine) := by kernel_rfl
theorem hF105 : cFn Try.prog cmOf 105 = some (c_sLabelOk) := by kernel_rfl
theorem hF106 : cFn Try.prog cmOf 106 = some (c_sSteps) := by kernel_rfl
theorem hF107 : cFn Try.prog cmOf 107 = some (c_sCount) := by kernel_rfl
theorem hF108 : cFn Try.prog cmOf 108 = some (c_con) := by kernel_rfl
theorem hF109 : cFn Try.prog cmOf 109 = some (c_p1) := by kernel_rfl
theorem hF110 : cFn Try.prog cmOf 110 = some (c_iLabelOk) := by kernel_rfl
theorem hF111 : cFn Try.prog cmOf 111 = some (c_iSteps) := by kernel_rfl
theorem hF112 : cFn Try.prog cmOf 112 = some (c_cfInt) := by kernel_rfl
theorem hF113 : cFn Try.prog cmOf 113 = some (c_hk1) := by kernel_rfl
theorem hF114 : cFn Try.prog cmOf 114 = some (c_iWithin) := by kernel_rfl
theorem hF115 : cFn Try.prog cmOf 115 = some (c_iBy) := by kernel_rfl
theorem hF116 : cFn Try.prog cmOf 116 = some (c_iMakes) := by kernel_rfl
theorem hF122 : cFn Try.prog cmOf 122 = some (c_sWithin) := by kernel_rfl
theorem hF123 : cFn Try.prog cmOf 123 = some (c_sVars21) := by kernel_rfl
theorem hF124 : cFn Try.prog cmOf 124 = some (c_iSource) := by kernel_rfl
theorem hF125 : cFn Try.prog cmOf 125 = some (c_iFlows) := by kernel_rfl
theorem hF126 : cFn Try.prog cmOf 126 = some (c_sWithout) := by kernel_rfl
theorem hF127 : cFn Try.prog cmOf 127 = some (c_drLabel) := by kernel_rfl
theorem hF128 : cFn Try.prog cmOf 128 = some (c_drSteps) := by kernel_rfl
theorem hF129 : cFn Try.prog cmOf 129 = some (c_sCopy) := by kernel_rfl
theorem hF130 : cFn Try.prog cmOf 130 = some (c_sBoth) := by kernel_rfl
theorem hF131 : cFn Try.prog cmOf 131 = some (c_sAll) := by kernel_rfl
theorem hF132 : cFn Try.prog cmOf 132 = some (c_sAt) := by kernel_rfl
theorem hF133 : cFn Try.prog cmOf 133 = some (c_sAny) := by kernel_rfl
theorem hF134 : cFn Try.prog cmOf 134 = some (c_sSets) := by kernel_rfl
theorem hF135 : cFn Try.prog cmOf 135 = some (c_iBoth) := by kernel_rfl
theorem hF136 : cFn Try.prog cmOf 136 = some (c_sFlows) := by kernel_rfl
theorem hF137 : cFn Try.prog cmOf 137 = some (c_sLBoth) := by kernel_rfl
theorem hF138 : cFn Try.prog cmOf 138 = some (c_sValL) := by kernel_rfl
theorem hF139 : cFn Try.prog cmOf 139 = some (c_sStep) := by kernel_rfl
theorem hF140 : cFn Try.prog cmOf 140 = some (c_idx) := by kernel_rfl
theorem hF141 : cFn Try.prog cmOf 141 = some (c_iVal) := by kernel_rfl
theorem hF142 : cFn Try.prog cmOf 142 = some (c_ifInt) := by kernel_rfl
theorem hF143 : cFn Try.prog cmOf 143 = some (c_vars) := by kernel_rfl
theorem hF146 : cFn Try.prog cmOf 146 = some (c_drVal) := by kernel_rfl
theorem hF147 : cFn Try.prog cmOf 147 = some (c_sVar) := by kernel_rfl
theorem hF148 : cFn Try.prog cmOf 148 = some (c_sVal) := by kernel_rfl
theorem hF149 : cFn Try.prog cmOf 149 = some (c_iNum) := by kernel_rfl
theorem hF (g : Nat) (fn : IFn) (h : fnOf g = some fn) : cFn Try.prog cmOf g = some fn := by
  unfold fnOf at h
  split at h
  · rw [← h]; exact hF3
  · rw [← h]; exact hF14
  · rw [← h]; exact hF15
  · rw [← h]; exact hF16
  · rw [← h]; exact hF17
  · rw [← h]; exact hF18
  · rw [← h]; exact hF19
  · rw [← h]; exact hF20
  · rw [← h]; exact hF21
  · rw [← h]; exact hF34
  · rw [← h]; exact hF35
  · rw [← h]; exact hF43
  · rw [← h]; exact hF44
  · rw [← h]; exact hF45
  · rw [← h]; exact hF46
  · rw [← h]; exact hF47
  · rw [← h]; exact hF48
  · rw [← h]; exact hF49
  · rw [← h]; exact hF50
  · rw [← h]; exact hF51
  · rw [← h]; exact hF52
  · rw [← h]; exact hF53
  · rw [← h]; exact hF54
  · rw [← h]; exact hF55
  · rw [← h]; exact hF56
  · rw [← h]; exact hF57
  · rw [← h]; exact hF58
  · rw [← h]; exact hF59
  · rw [← h]; exact hF60
  · rw [← h]; exact hF61
  · rw [← h]; exact hF62
  · rw [← h]; exact hF63
  · rw [← h]; exact hF64
  · rw [← h]; exact hF65
  · rw [← h]; exact hF76
  · rw [← h]; exact hF77
  · rw [← h]; exact hF78
  · rw [← h]; exact hF79
  · rw [← h]; exact hF80
  · rw [← h]; exact hF81
  · rw [← h]; exact hF82
  · rw [← h]; exact hF83
  · rw [← h]; exact hF85
  · rw [← h]; exact hF86
  · rw [← h]; exact hF87
  · rw [← h]; exact hF88
  · rw [← h]; exact hF89
  · rw [← h]; exact hF90
  · rw [← h]; exact hF91
  · rw [← h]; exact hF92
  · rw [← h]; exact hF93
  · rw [← h]; exact hF94
  · rw [← h]; exact hF95
  · rw [← h]; exact hF96
  · rw [← h]; exact hF97
  · rw [← h]; exact hF98
  · rw [← h]; exact hF99
  · rw [← h]; exact hF100
  · rw [← h]; exact hF101
  · rw [← h]; exact hF102
  · rw [← h]; exact hF103
  · rw [← h]; exact hF104
  · rw [← h]; exact hF105
  · rw [← h]; exact hF106
  · rw [← h]; exact hF107
  · rw [← h]; exact hF108
  · rw [← h]; exact hF109
  · rw [← h]; exact hF110
  · rw [← h]; exact hF111
  · rw [← h]; exact hF112
  · rw [← h]; exact hF113
  · rw [← h]; exact hF114
  · rw [← h]; exact hF115
  · rw [← h]; exact hF116
  · rw [← h]; exact hF122
  · rw [← h]; exact hF123
  · rw [← h]; exact hF124
  · rw [← h]; exact hF125
  · rw [← h]; exact hF126
  · rw [← h]; exact hF127
  · rw [← h]; exact hF128
  · rw [← h]; exact hF129
  · rw [← h]; exact hF130
  · rw [← h]; exact hF131
  · rw [← h]; exact hF132
  · rw [← h]; exact hF133
  · rw [← h]; exact hF134
  · rw [← h]; exact hF135
  · rw [← h]; exact hF136
  · rw [← h]; exact hF137
  · rw [← h]; exact hF138
  · rw [← h]; exact hF139
  · rw [← h]; exact hF140
  · rw [← h]; exact hF141
  · rw [← h]; exact hF142
  · rw [← h]; exact hF143
  · rw [← h]; exact hF146
  · rw [← h]; exact hF147
  · rw [← h]; exact hF148
  · rw [← h]; exact hF149
  · cases h
theorem hMixed : Try.prog.follows .mixedOrders = true := by kernel_rfl
theorem ok_iIn : ∀ (H : Heap) (a b c : Int), QC fnOf 81 [.int .i64 a, .int .i64 b, .int .i64 c] H (.bool (inB a b c)) := iIn_ok rfl
theorem ok_sIn : ∀ (H : Heap) (a b c : Int), QC fnOf 79 [.int .i64 a, .int .i64 b, .int .i64 c] H (.bool (inB a b c)) := sIn_ok rfl
theorem ok_iSet : ∀ (H : Heap) (a : Int), QC fnOf 98 [.int .i64 a] H (.bool (inB a 0 7)) := iSet_ok rfl ok_iIn
theorem ok_iHost : ∀ (H : Heap) (a : Int), QC fnOf 82 [.int .i64 a] H (.bool (inB a 0 2)) := iHost_ok rfl ok_iIn
theorem ok_iNum : ∀ (H : Heap) (a : Int), QC fnOf 149 [.int .i64 a] H (.bool (inB a 0 9)) := iNum_ok rfl ok_iIn
theorem ok_sAll : ∀ H, QC fnOf 131 [] H (.int .i64 7) := sAll_ok rfl
theorem ok_sSet : ∀ (H : Heap) (a : Int), QC fnOf 91 [.int .i64 a] H (.bool (inB a 0 7)) := sSet_ok rfl ok_sIn ok_sAll
theorem ok_iLabelOk : LabOk fnOf 110 := iLabelOk_ok rfl ok_iSet
theorem ok_sLabelOk : LabOk fnOf 105 := sLabelOk_ok rfl ok_sSet
theorem ok_iVar : VarOk fnOf 85 := iVar_ok rfl ok_iIn
theorem ok_sVar : VarOk fnOf 147 := sVar_ok rfl ok_sIn
theorem ok_iVal : ValOk fnOf 141 := iVal_ok rfl ok_iNum ok_iVar
theorem ok_sVal : ValOk fnOf 148 := sVal_ok rfl ok_sIn ok_sVar
theorem ok_sSteps : ∀ n, StepsOk fnOf 106 n := fun n => (sSteps_all rfl rfl ok_sIn ok_sVar ok_sVal n).1
theorem ok_iSteps : ∀ n, StepsOk fnOf 111 n := iSteps_all rfl ok_iVar ok_iVal ok_iHost
theorem ok_sCount : ∀ n, CntOk fnOf 107 n := cnt_all (fun _ h => sCount_ok rfl h) (sCount_z rfl)
theorem ok_iSize : ∀ n, CntOk fnOf 62 n := cnt_all (fun _ h => iSize_ok rfl h) (iSize_z rfl)
theorem ok_sProg : ProgOk fnOf 60 := sProg_ok rfl ok_sLabelOk ok_sSteps ok_sCount
theorem ok_iProg : ProgOk fnOf 61 := iProg_ok rfl (con_ok rfl (idx_ok rfl (p1_ok rfl ok_iLabelOk))) ok_iSteps ok_iSize
theorem ok_sHas : HasOk fnOf 92 := sHas_ok rfl
theorem ok_sWit : WitOk fnOf 122 := sWithin_ok rfl ok_sHas
theorem ok_sBoth : BothOk fnOf 130 := sBoth_ok rfl ok_sHas
theorem ok_sLBoth : LBothOk fnOf 137 := sLBoth_ok rfl ok_sLabelOk ok_sBoth
theorem ok_sFlows : FlowsOk fnOf 136 := sFlows_ok rfl ok_sLabelOk ok_sWit
theorem ok_sAny : ∀ H, QC fnOf 133 [] H (.agg #[.int .i64 7, .int .i64 7]) := sAny_ok rfl ok_sAll
theorem ok_sFine : FineOk fnOf 104 := sFine_ok rfl (sValL_ok rfl ok_sAny ok_sLBoth) ok_sLBoth ok_sFlows ok_sBoth ok_sHas
theorem ok_sAllSteps : ∀ n, AllOk fnOf 93 n := sAllSteps_all rfl
theorem ok_sAt : ∀ n, AtOk fnOf 132 n := sAt_all rfl ok_sLBoth
theorem ok_sTypeAt : TypeAtOk fnOf 94 := sTypeAt_ok rfl ok_sProg ok_sAny ok_sAt
theorem ok_sWhy : WhyOk fnOf 59 := sWhy_ok rfl ok_sProg ok_sAllSteps ok_sTypeAt ok_sFine
theorem ok_sCopy : ∀ n, CopyOk fnOf 129 n := sCopy_all rfl
theorem ok_sWithout : ∀ n, WoOk fnOf 126 n := sWithout_all rfl ok_sCount
theorem ok_drProg {H0 : Heap} {rb : Nat} {bv : Value} {code : List Int} (hc : RdC H0 rb bv code) : DrawS fnOf H0 rb bv 88 [] 40000 (ProgQ 3) := drProg_ok rfl rfl rfl rfl rfl ok_sProg hc
theorem ok_drFine {H0 : Heap} {rb : Nat} {bv : Value} {code : List Int} (hc : RdC H0 rb bv code) : DrawS fnOf H0 rb bv 87 [] 40000 (ProgQ 3) := drFine_ok rfl hc (ok_drProg hc) ok_sWhy ok_sWithout
theorem ok_drAny {H0 : Heap} {rb : Nat} {bv : Value} {code : List Int} (hc : RdC H0 rb bv code) : DrawS fnOf H0 rb bv 47 [] 90000 ProgR := drAny_ok rfl rfl hc (ok_drProg hc) (ok_drFine hc) (drBent_ok rfl rfl ok_sCopy hc)
theorem ok_iHas : HasOk fnOf 99 := iHas_ok rfl ok_iHost
theorem ok_iWit : WitOk fnOf 114 := iWithin_ok rfl
theorem ok_iBoth : ILBoth fnOf 135 := iBoth_ok rfl
theorem ok_iAt : AtP fnOf 53 := iAt_ok rfl (iLabels_all rfl ok_iBoth) (iEvery_ok rfl)
theorem ok_iWhy0 : WhyI fnOf 86 := iWhy0_ok rfl ok_iAt (iAll_all rfl) (iSource_ok rfl rfl ok_iBoth) (iFlows_ok rfl ok_iWit) ok_iHas
theorem ok_iTypeOk : TypeP fnOf 43 := iTypeOk_ok rfl ok_iProg ok_iWhy0
theorem ok_iTrusts : TrOk fnOf 52 := iTrusts_ok rfl ok_iSet ok_iHas
theorem ok_iBy : ByOk fnOf 115 := iBy_ok rfl ok_iHas
theorem ok_cloneI : CloneI fnOf 102 := cloneI_ok rfl
theorem ok_iDoes : DoesOk fnOf 65 := iDoes_ok rfl ok_iHas ok_iWit ok_iBy (iSets_all rfl) (iMakes_ok rfl rfl)
theorem ok_iHome1 : HomeI fnOf 64 := iHome1_ok rfl ok_iHas ok_iWit ok_iBy
theorem ok_sTrusts : TrOk fnOf 49 := sTrusts_ok rfl ok_sSet ok_sHas
theorem ok_sBy : ByOk fnOf 96 := sBy_ok rfl ok_sHas
theorem ok_sWhyV : WhyV fnOf 59 := sWhyV_ok rfl ok_sProg ok_sAllSteps ok_sTypeAt ok_sFine
theorem ok_sTypeOk : TypeP fnOf 18 := sTypeOk_ok rfl ok_sWhyV ok_sProg
theorem ok_sAllA : ∀ n, AllA fnOf 93 n := sAllA_all rfl
theorem ok_sTypeSets : SetsOk fnOf 95 := sTypeSets_ok rfl ok_sProg ok_sAllA (sSets_all rfl (sEither_ok rfl ok_sBoth))
theorem ok_sSee : SeeOk fnOf 50 := sSee_ok rfl ok_sAllA ok_sTypeAt ok_sTypeSets ok_sBy
theorem ok_lHome : LHome fnOf 78 := lHome_ok rfl ok_sHas ok_sWit
theorem ok_lStep : LStep fnOf 80 := lStep_ok rfl ok_sHas ok_sWit (sVars21_ok rfl)
theorem ok_iHostsOk : HostsI fnOf 63 := iHostsOk_ok rfl rfl rfl rfl ok_iHost
theorem ok_iPlanOk : PlanOkV fnOf 21 := iPlanOk_ok rfl ok_iTypeOk ok_iTrusts ok_iHostsOk ok_iSize ok_iHome1 ok_iAt (iAll_all rfl) ok_iDoes
theorem ok_sProgSize : SizeV fnOf 77 := sProgSizeV_ok rfl ok_sProg ok_sCount
theorem ok_sHomes21 : Homes21 fnOf 76 := sHomes21_ok rfl ok_sIn
theorem ok_sPlanStep : StepV fnOf 35 := sPlanStep_ok rfl ok_sProg ok_sTrusts ok_sHomes21 ok_sProgSize ok_sIn ok_sSee ok_lStep
theorem ok_iPlanFind : FindI fnOf 16 := iPlanFind_ok rfl ok_iTypeOk ok_iTrusts ok_iAt (iHomes_ok rfl ok_iHome1 ok_cloneI) (iAll_all rfl) (iDoer_ok rfl ok_iDoes) (conK_ok rfl rfl) (plClone_ok rfl ok_cloneI)
theorem ok_drTrusts {H0 : Heap} {rb : Nat} {bv : Value} {code : List Int} (hc : RdC H0 rb bv code) : DrawS fnOf H0 rb bv 48 [] 10 TrQ := drTrusts_ok rfl rfl (sEither_ok rfl ok_sBoth) hc
theorem ok_lDoes : LDoes fnOf 97 := lDoes_ok rfl ok_lStep
theorem ok_lFind : ∀ m, LFind fnOf 51 m := lFind_all rfl ok_lHome ok_lDoes
theorem ok_sPlanFind : FindS fnOf 15 := sPlanFind_ok rfl ok_sTypeOk ok_sTrusts ok_sSee ok_lFind
theorem ok_drPlan {H0 : Heap} {rb : Nat} {bv : Value} {code : List Int} (hc : RdC H0 rb bv code) : DrawS fnOf H0 rb bv 46 [] 370000 PlanQ := drPlan_ok rfl rfl hc (ok_drFine hc) (ok_drTrusts hc) ok_sPlanFind ok_sProgSize ok_sPlanStep
theorem ok_drPF : DrawNumsOk fnOf 14 := drPF_ok rfl rfl rfl ok_drPlan ok_drAny ok_drTrusts
theorem ok_iProgSize : SizeOk fnOf 20 := iProgSize_ok rfl ok_iProg ok_iSize
theorem ok_lcInts : IntsOk fnOf 34 := lcInts_ok rfl
theorem ok_lcPlan : PlanEq fnOf 17 := lcPlan_ok rfl ok_lcInts
theorem ok_lawAl : LawB fnOf 3 := lawAl_ok rfl ok_drPF ok_sPlanFind ok_iPlanFind ok_lcPlan ok_iPlanOk ok_sTypeOk ok_iProgSize (lcHas_ok rfl)
end Go.Proofs.YtbjeldblaclpnaaI
end
section
/- Laws of lists of bytes, called in the model. -/
set_option linter.unusedVariables false
set_option linter.unusedSimpArgs false
namespace Go.Proofs.YtbjeldblaclpnaaI
open Go Go.RowKit
theorem Good.byte {w : World} {n : Int} (h : (Lit.int .u8 n).wf = true) : Good Co.byte w [.int .u8 n] := fun H m s =>
  ⟨n, [], m, [.int .u8 n], by simpa using s, sub_refl m, ⟨rfl, by simpa [Lit.wf, IntKind.min, IntKind.max, IntKind.signed, IntKind.bits] using h⟩, All2.cons (.inl rfl) All2.nil⟩
theorem good_5 {T : Type} {enc : TypeId × Value → T} {w : World} {spare : Nat → Bool} {held : Bool} {n : Nat} {cs : List Value} {x : DataW T × List MemPlace} (h : DataW.trod enc Try.prog w 0 spare held n 5 cs = some x) : Good Co.byte w cs := by
  obtain ⟨m, rfl, _, hw⟩ := DataW.trod_int Try.underlying5 h
  exact Good.byte hw
theorem good_22 {T : Type} {enc : TypeId × Value → T} {w : World} {spare : Nat → Bool} {held : Bool} {n : Nat} {cs : List Value} {x : DataW T × List MemPlace} (h : DataW.trod enc Try.prog w 0 spare held n 22 cs = some x) : Good (Co.sl Co.byte) w cs :=
  Good.sl Try.underlying22 (by kernel_rfl) (by decide) h fun _ _ _ _ h => good_5 h
theorem lawB_calls {n : Nat} (hl : LawB fnOf n) {W : World} {a : Option Addr} {l c : Nat} (g0 : Good (Co.sl Co.byte) W [.slice a l c]) :
    Calls Try.prog n #[.slice a l c] W fun e w' => e = .returned (.bool true) ∧ Below W.heap.size W w' := by
  obtain ⟨ts, L2, m2, cs1, s2, q2, r2, e2⟩ := g0 [] (fun _ => none) (SL.none _)
  obtain ⟨u, rfl, hu⟩ := r2
  exact law_core hF hMixed s2 (vals := [u]) (All2.cons (VR.one_mk e2) All2.nil) (hl _ u ts hu)
end Go.Proofs.YtbjeldblaclpnaaI
end
