/- Texts of this proof, merged: GL70, BL70. -/
import Derived.Test.YtmakdcbpohlacaaXk10
import Derived.Test.YtmakdcbpohlacaaRows
section
/- The functions that the law FnRunCut reaches, as ideal functions. -/
set_option linter.unusedVariables false
set_option linter.unusedSimpArgs false
namespace Go.Proofs.YtmakdcbpohlacaaI
open Go Go.RowKit
def fnOf : Nat → Option IFn
  | 5 => some (c_lawRC)
  | 19 => some (c_drRunOf)
  | 20 => some (c_sRunOf)
  | 21 => some (c_iRunOf)
  | 22 => some (c_lcRun)
  | 28 => some (c_sProg)
  | 33 => some (c_iProg)
  | 48 => some (c_drNumsOk)
  | 49 => some (c_sNums)
  | 50 => some (c_sDo)
  | 51 => some (c_iNums)
  | 52 => some (c_cloneInts)
  | 53 => some (c_do)
  | 54 => some (c_clone)
  | 55 => some (c_lcInts)
  | 56 => some (c_lcWrites)
  | 65 => some (c_sLabelOk)
  | 66 => some (c_sSteps)
  | 67 => some (c_sCount)
  | 70 => some (c_con)
  | 71 => some (c_p1)
  | 72 => some (c_iLabelOk)
  | 73 => some (c_iSteps)
  | 74 => some (c_iSize)
  | 75 => some (c_iIn)
  | 80 => some (c_sSet)
  | 81 => some (c_sHas)
  | 83 => some (c_l6Open)
  | 84 => some (c_drAny)
  | 85 => some (c_drNums)
  | 86 => some (c_sIn)
  | 87 => some (c_sNum)
  | 88 => some (c_iNum)
  | 89 => some (c_vars)
  | 90 => some (c_set)
  | 91 => some (c_of)
  | 94 => some (c_sStep)
  | 96 => some (c_idx)
  | 97 => some (c_iSet)
  | 98 => some (c_iVar)
  | 99 => some (c_iVal)
  | 100 => some (c_iHost)
  | 103 => some (c_sAll)
  | 104 => some (c_drProg)
  | 105 => some (c_pick)
  | 106 => some (c_drFine)
  | 107 => some (c_drBent)
  | 108 => some (c_sVar)
  | 109 => some (c_sVal)
  | 110 => some (c_drLabel)
  | 111 => some (c_drSteps)
  | 112 => some (c_sWhy)
  | 113 => some (c_sWithout)
  | 114 => some (c_sCopy)
  | 115 => some (c_drVal)
  | 116 => some (c_sAllSteps)
  | 117 => some (c_sTypeAt)
  | 118 => some (c_sFine)
  | 119 => some (c_sAt)
  | 120 => some (c_sAny)
  | 121 => some (c_sFlows)
  | 122 => some (c_sLBoth)
  | 123 => some (c_sValL)
  | 124 => some (c_sBoth)
  | 125 => some (c_sWithin)
  | _ => none
def cmOf (f : Nat) : CM := ⟨fun g => if [5, 22, 28, 33, 49, 51, 55, 56, 65, 66, 67, 70, 71, 72, 73, 74, 75, 80, 81, 86, 87, 88, 91, 94, 96, 97, 98, 99, 100, 103, 108, 109, 112, 118, 120, 121, 122, 123, 124, 125].contains g then .q else if [50, 53, 83, 84, 85, 90, 104, 105, 106, 107, 110, 111, 115, 119].contains g then .n else .k, if [50, 53, 83, 84, 85, 90, 104, 105, 106, 107, 110, 111, 115, 119].contains f then .n else .q, [85].contains f⟩
theorem hF5 : cFn Try.prog cmOf 5 = some (c_lawRC) := by kernel_rfl
theorem hF19 : cFn Try.prog cmOf 19 = some (c_drRunOf) := by kernel_rfl
theorem hF20 : cFn Try.prog cmOf 20 = some (c_sRunOf) := by kernel_rfl
theorem hF21 : cFn Try.prog cmOf 21 = some (c_iRunOf) := by kernel_rfl
theorem hF22 : cFn Try.prog cmOf 22 = some (c_lcRun) := by kernel_rfl
theorem hF28 : cFn Try.prog cmOf 28 = some (c_sProg) := by kernel_rfl
theorem hF33 : cFn Try.prog cmOf 33 = some (c_iProg) := by kernel_rfl
theorem hF48 : cFn Try.prog cmOf 48 = some (c_drNumsOk) := by kernel_rfl
theorem hF49 : cFn Try.prog cmOf 49 = some (c_sNums) := by kernel_rfl
theorem hF50 : cFn Try.prog cmOf 50 = some (c_sDo) := by kernel_rfl
theorem hF51 : cFn Try.prog cmOf 51 = some (c_iNums) := by kernel_rfl
theorem hF52 : cFn Try.prog cmOf 52 = some (c_cloneInts) := by kernel_rfl
theorem hF53 : cFn Try.prog cmOf 53 = some (c_do) := by kernel_rfl
theorem hF54 : cFn Try.prog cmOf 54 = some (c_clone) := by kernel_rfl
theorem hF55 : cFn Try.prog cmOf 55 = some (c_lcInts) := by kernel_rfl
theorem hF56 : cFn Try.prog cmOf 56 = some (c_lcWrites) := by kernel_rfl
theorem hF65 : cFn Try.prog cmOf 65 = some (c_sLabelOk) := by kernel_rfl
theorem hF66 : cFn Try.prog cmOf 66 = some (c_sSteps) := by kernel_rfl
theorem hF67 : cFn Try.prog cmOf 67 = some (c_sCount) := by kernel_rfl
theorem hF70 : cFn Try.prog cmOf 70 = some (c_con) := by kernel_rfl
theorem hF71 : cFn Try.prog cmOf 71 = some (c_p1) := by kernel_rfl
theorem hF72 : cFn Try.prog cmOf 72 = some (c_iLabelOk) := by kernel_rfl
theorem hF73 : cFn Try.prog cmOf 73 = some (c_iSteps) := by kernel_rfl
theorem hF74 : cFn Try.prog cmOf 74 = some (c_iSize) := by kernel_rfl
theorem hF75 : cFn Try.prog cmOf 75 = some (c_iIn) := by kernel_rfl
theorem hF80 : cFn Try.prog cmOf 80 = some (c_sSet) := by kernel_rfl
theorem hF81 : cFn Try.prog cmOf 81 = some (c_sHas) := by kernel_rfl
theorem hF83 : cFn Try.prog cmOf 83 = some (c_l6Open) := by kernel_rfl
theorem hF84 : cFn Try.prog cmOf 84 = some (c_drAny) := by kernel_rfl
theorem hF85 : cFn Try.prog cmOf 85 = some (c_drNums) := by kernel_rfl
theorem hF86 : cFn Try.prog cmOf 86 = some (c_sIn) := by kernel_rfl
theorem hF87 : cFn Try.prog cmOf 87 = some (c_sNum) := by kernel_rfl
theorem hF88 : cFn Try.prog cmOf 88 = some (c_iNum) := by kernel_rfl
theorem hF89 : cFn Try.prog cmOf 89 = some (c_vars) := by kernel_rfl
theorem hF90 : cFn Try.prog cmOf 90 = some (c_set) := by kernel_rfl
theorem hF91 : cFn Try.prog cmOf 91 = some (c_of) := by kernel_rfl
theorem hF94 : cFn Try.prog cmOf 94 = some (c_sStep) := by kernel_rfl
theorem hF96 : cFn Try.prog cmOf 96 = some (c_idx) := by kernel_rfl
theorem hF97 : cFn Try.prog cmOf 97 = some (c_iSet) := by kernel_rfl
theorem hF98 : cFn Try.prog cmOf 98 = some (c_iVar) := by kernel_rfl
theorem hF99 : cFn Try.prog cmOf 99 = some (c_iVal) := by kernel_rfl
theorem hF100 : cFn Try.prog cmOf 100 = some (c_iHost) := by kernel_rfl
theorem hF103 : cFn Try.prog cmOf 103 = some (c_sAll) := by kernel_rfl
theorem hF104 : cFn Try.prog cmOf 104 = some (c_drProg) := by kernel_rfl
theorem hF105 : cFn Try.prog cmOf 105 = some (c_pick) := by kernel_rfl
theorem hF106 : cFn Try.prog cmOf 106 = some (c_drFine) := by kernel_rfl
theorem hF107 : cFn Try.prog cmOf 107 = some (c_drBent) := by kernel_rfl
theorem hF108 : cFn Try.prog cmOf 108 = some (c_sVar) := by kernel_rfl
theorem hF109 : cFn Try.prog cmOf 109 = some (c_sVal) := by kernel_rfl
theorem hF110 : cFn Try.prog cmOf 110 = some (c_drLabel) := by kernel_rfl
theorem hF111 : cFn Try.prog cmOf 111 = some (c_drSteps) := by kernel_rfl
theorem hF112 : cFn Try.prog cmOf 112 = some (c_sWhy) := by kernel_rfl
theorem hF113 : cFn Try.prog cmOf 113 = some (c_sWithout) := by kernel_rfl
theorem hF114 : cFn Try.prog cmOf 114 = some (c_sCopy) := by kernel_rfl
theorem hF115 : cFn Try.prog cmOf 115 = some (c_drVal) := by kernel_rfl
theorem hF116 : cFn Try.prog cmOf 116 = some (c_sAllSteps) := by kernel_rfl
theorem hF117 : cFn Try.prog cmOf 117 = some (c_sTypeAt) := by kernel_rfl
theorem hF118 : cFn Try.prog cmOf 118 = some (c_sFine) := by kernel_rfl
theorem hF119 : cFn Try.prog cmOf 119 = some (c_sAt) := by kernel_rfl
theorem hF120 : cFn Try.prog cmOf 120 = some (c_sAny) := by kernel_rfl
theorem hF121 : cFn Try.prog cmOf 121 = some (c_sFlows) := by kernel_rfl
theorem hF122 : cFn Try.prog cmOf 122 = some (c_sLBoth) := by kernel_rfl
theorem hF123 : cFn Try.prog cmOf 123 = some (c_sValL) := by kernel_rfl
theorem hF124 : cFn Try.prog cmOf 124 = some (c_sBoth) := by kernel_rfl
theorem hF125 : cFn Try.prog cmOf 125 = some (c_sWithin) := by kernel_rfl
theorem hF (g : Nat) (fn : IFn) (h : fnOf g = some fn) : cFn Try.prog cmOf g = some fn := by
  unfold fnOf at h
  split at h
  · rw [← h]; exact hF5
  · rw [← h]; exact hF19
  · rw [← h]; exact hF20
  · rw [← h]; exact hF21
  · rw [← h]; exact hF22
  · rw [← h]; exact hF28
  · rw [← h]; exact hF33
  · rw [← h]; exact hF48
  · rw [← h]; exact hF49
  · rw [← h]; exact hF50
  · rw [← h]; exact hF51
  · rw [← h]; exact hF52
  · rw [← h]; exact hF53
  · rw [← h]; exact hF54
  · rw [← h]; exact hF55
  · rw [← h]; exact hF56
  · rw [← h]; exact hF65
  · rw [← h]; exact hF66
  · rw [← h]; exact hF67
  · rw [← h]; exact hF70
  · rw [← h]; exact hF71
  · rw [← h]; exact hF72
  · rw [← h]; exact hF73
  · rw [← h]; exact hF74
  · rw [← h]; exact hF75
  · rw [← h]; exact hF80
  · rw [← h]; exact hF81
  · rw [← h]; exact hF83
  · rw [← h]; exact hF84
  · rw [← h]; exact hF85
  · rw [← h]; exact hF86
  · rw [← h]; exact hF87
  · rw [← h]; exact hF88
  · rw [← h]; exact hF89
  · rw [← h]; exact hF90
  · rw [← h]; exact hF91
  · rw [← h]; exact hF94
  · rw [← h]; exact hF96
  · rw [← h]; exact hF97
  · rw [← h]; exact hF98
  · rw [← h]; exact hF99
  · rw [← h]; exact hF100
  · rw [← h]; exact hF103
  · rw [← h]; exact hF104
  · rw [← h]; exact hF105
  · rw [← h]; exact hF106
  · rw [← h]; exact hF107
  · rw [← h]; exact hF108
  · rw [← h]; exact hF109
  · rw [← h]; exact hF110
  · rw [← h]; exact hF111
  · rw [← h]; exact hF112
  · rw [← h]; exact hF113
  · rw [← h]; exact hF114
  · rw [← h]; exact hF115
  · rw [← h]; exact hF116
  · rw [← h]; exact hF117
  · rw [← h]; exact hF118
  · rw [← h]; exact hF119
  · rw [← h]; exact hF120
  · rw [← h]; exact hF121
  · rw [← h]; exact hF122
  · rw [← h]; exact hF123
  · rw [← h]; exact hF124
  · rw [← h]; exact hF125
  · cases h
theorem hMixed : Try.prog.follows .mixedOrders = true := by kernel_rfl
theorem ok_iIn : ∀ (H : Heap) (a b c : Int), QC fnOf 75 [.int .i64 a, .int .i64 b, .int .i64 c] H (.bool (inB a b c)) := iIn_ok rfl
theorem ok_sIn : ∀ (H : Heap) (a b c : Int), QC fnOf 86 [.int .i64 a, .int .i64 b, .int .i64 c] H (.bool (inB a b c)) := sIn_ok rfl
theorem ok_iSet : ∀ (H : Heap) (a : Int), QC fnOf 97 [.int .i64 a] H (.bool (inB a 0 7)) := iSet_ok rfl ok_iIn
theorem ok_iHost : ∀ (H : Heap) (a : Int), QC fnOf 100 [.int .i64 a] H (.bool (inB a 0 2)) := iHost_ok rfl ok_iIn
theorem ok_iNum : ∀ (H : Heap) (a : Int), QC fnOf 88 [.int .i64 a] H (.bool (inB a 0 9)) := iNum_ok rfl ok_iIn
theorem ok_sAll : ∀ H, QC fnOf 103 [] H (.int .i64 7) := sAll_ok rfl
theorem ok_sSet : ∀ (H : Heap) (a : Int), QC fnOf 80 [.int .i64 a] H (.bool (inB a 0 7)) := sSet_ok rfl ok_sIn ok_sAll
theorem ok_iLabelOk : LabOk fnOf 72 := iLabelOk_ok rfl ok_iSet
theorem ok_sLabelOk : LabOk fnOf 65 := sLabelOk_ok rfl ok_sSet
theorem ok_iVar : VarOk fnOf 98 := iVar_ok rfl ok_iIn
theorem ok_sVar : VarOk fnOf 108 := sVar_ok rfl ok_sIn
theorem ok_iVal : ValOk fnOf 99 := iVal_ok rfl ok_iNum ok_iVar
theorem ok_sVal : ValOk fnOf 109 := sVal_ok rfl ok_sIn ok_sVar
theorem ok_sSteps : ∀ n, StepsOk fnOf 66 n := fun n => (sSteps_all rfl rfl ok_sIn ok_sVar ok_sVal n).1
theorem ok_iSteps : ∀ n, StepsOk fnOf 73 n := iSteps_all rfl ok_iVar ok_iVal ok_iHost
theorem ok_sCount : ∀ n, CntOk fnOf 67 n := cnt_all (fun _ h => sCount_ok rfl h) (sCount_z rfl)
theorem ok_iSize : ∀ n, CntOk fnOf 74 n := cnt_all (fun _ h => iSize_ok rfl h) (iSize_z rfl)
theorem ok_sProg : ProgOk fnOf 28 := sProg_ok rfl ok_sLabelOk ok_sSteps ok_sCount
theorem ok_iProg : ProgOk fnOf 33 := iProg_ok rfl (con_ok rfl (idx_ok rfl (p1_ok rfl ok_iLabelOk))) ok_iSteps ok_iSize
theorem ok_sHas : HasOk fnOf 81 := sHas_ok rfl
theorem ok_sWit : WitOk fnOf 125 := sWithin_ok rfl ok_sHas
theorem ok_sBoth : BothOk fnOf 124 := sBoth_ok rfl ok_sHas
theorem ok_sLBoth : LBothOk fnOf 122 := sLBoth_ok rfl ok_sLabelOk ok_sBoth
theorem ok_sFlows : FlowsOk fnOf 121 := sFlows_ok rfl ok_sLabelOk ok_sWit
theorem ok_sAny : ∀ H, QC fnOf 120 [] H (.agg #[.int .i64 7, .int .i64 7]) := sAny_ok rfl ok_sAll
theorem ok_sFine : FineOk fnOf 118 := sFine_ok rfl (sValL_ok rfl ok_sAny ok_sLBoth) ok_sLBoth ok_sFlows ok_sBoth ok_sHas
theorem ok_sAllSteps : ∀ n, AllOk fnOf 116 n := sAllSteps_all rfl
theorem ok_sAt : ∀ n, AtOk fnOf 119 n := sAt_all rfl ok_sLBoth
theorem ok_sTypeAt : TypeAtOk fnOf 117 := sTypeAt_ok rfl ok_sProg ok_sAny ok_sAt
theorem ok_sWhy : WhyOk fnOf 112 := sWhy_ok rfl ok_sProg ok_sAllSteps ok_sTypeAt ok_sFine
theorem ok_sCopy : ∀ n, CopyOk fnOf 114 n := sCopy_all rfl
theorem ok_sWithout : ∀ n, WoOk fnOf 113 n := sWithout_all rfl ok_sCount
theorem ok_drProg {H0 : Heap} {rb : Nat} {bv : Value} {code : List Int} (hc : RdC H0 rb bv code) : DrawS fnOf H0 rb bv 104 [] 40000 (ProgQ 3) := drProg_ok rfl rfl rfl rfl rfl ok_sProg hc
theorem ok_drFine {H0 : Heap} {rb : Nat} {bv : Value} {code : List Int} (hc : RdC H0 rb bv code) : DrawS fnOf H0 rb bv 106 [] 40000 (ProgQ 3) := drFine_ok rfl hc (ok_drProg hc) ok_sWhy ok_sWithout
theorem ok_drAny {H0 : Heap} {rb : Nat} {bv : Value} {code : List Int} (hc : RdC H0 rb bv code) : DrawS fnOf H0 rb bv 84 [] 90000 ProgR := drAny_ok rfl rfl hc (ok_drProg hc) (ok_drFine hc) (drBent_ok rfl rfl ok_sCopy hc)
theorem ok_iNums : NumsOk fnOf 51 := iNums_ok rfl ok_iNum ok_iProg
theorem ok_sNums : NumsOk fnOf 49 := sNums_ok rfl ok_sIn ok_sProg
theorem ok_do : ∀ n, DoOk fnOf 53 n := do_all rfl rfl rfl rfl
theorem ok_iRunOf : RunOk fnOf 21 := iRunOf_ok rfl ok_iNums rfl ok_do rfl
theorem ok_drNumsOk : DrawNumsV fnOf 48 := drNumsV_ok rfl rfl rfl rfl ok_drAny
theorem ok_drRunOf : DrawNumsOk fnOf 19 := drRunOf_ok rfl ok_drNumsOk
theorem ok_sDo : ∀ n, DoSOk fnOf 50 n := sDo_all rfl rfl
theorem ok_sRunOf : RunOk fnOf 20 := sRunOf_ok rfl ok_sNums ok_sDo
theorem ok_lcInts : IntsOk fnOf 55 := lcInts_ok rfl
theorem ok_lcWrites : PairsOk fnOf 56 := lcWrites_ok rfl
theorem ok_lcRun : RunsOk fnOf 22 := lcRun_ok rfl ok_lcInts ok_lcWrites
theorem ok_lawRC : LawB2 fnOf 5 := lawRC_ok rfl ok_drRunOf ok_sRunOf ok_iRunOf ok_lcRun
end Go.Proofs.YtmakdcbpohlacaaI
end
section
/- Laws of lists of bytes, called in the model. -/
set_option linter.unusedVariables false
set_option linter.unusedSimpArgs false
namespace Go.Proofs.YtmakdcbpohlacaaI
open Go Go.RowKit
theorem Good.byte {w : World} {n : Int} (h : (Lit.int .u8 n).wf = true) : Good Co.byte w [.int .u8 n] := fun H m s =>
  ⟨n, [], m, [.int .u8 n], by simpa using s, sub_refl m, ⟨rfl, by simpa [Lit.wf, IntKind.min, IntKind.max, IntKind.signed, IntKind.bits] using h⟩, All2.cons (.inl rfl) All2.nil⟩
theorem good_5 {T : Type} {enc : TypeId × Value → T} {w : World} {spare : Nat → Bool} {held : Bool} {n : Nat} {cs : List Value} {x : DataW T × List MemPlace} (h : DataW.trod enc Try.prog w 0 spare held n 5 cs = some x) : Good Co.byte w cs := by
  obtain ⟨m, rfl, _, hw⟩ := DataW.trod_int Try.underlying5 h
  exact Good.byte hw
theorem good_41 {T : Type} {enc : TypeId × Value → T} {w : World} {spare : Nat → Bool} {held : Bool} {n : Nat} {cs : List Value} {x : DataW T × List MemPlace} (h : DataW.trod enc Try.prog w 0 spare held n 41 cs = some x) : Good (Co.sl Co.byte) w cs :=
  Good.sl Try.underlying41 (by kernel_rfl) (by decide) h fun _ _ _ _ h => good_5 h
theorem lawB2_calls {n : Nat} (hl : LawB2 fnOf n) {W : World} {a b : Option Addr} {l c l' c' : Nat} (g0 : Good (Co.sl Co.byte) W [.slice a l c]) (g1 : Good (Co.sl Co.byte) W [.slice b l' c']) :
    Calls Try.prog n #[.slice a l c, .slice b l' c'] W fun e w' => e = .returned (.bool true) ∧ Below W.heap.size W w' := by
  obtain ⟨ts, L, m, cs0, s, q, r, e⟩ := g0 [] (fun _ => none) (SL.none _)
  rw [List.nil_append] at s r
  obtain ⟨ts', L2, m2, cs1, s2, q2, r2, e2⟩ := g1 L m s
  obtain ⟨u, rfl, hu⟩ := r
  obtain ⟨u', rfl, hu'⟩ := r2
  exact law_core hF hMixed s2 (vals := [u, u']) (All2.cons (VR.one_mk (e.mono fun _ _ _ h => VR1.mono q2 h)) (All2.cons (VR.one_mk e2) All2.nil)) (hl _ u u' ts ts' (hu.mono (vw_app 0 L L2)) hu')
end Go.Proofs.YtmakdcbpohlacaaI
end
