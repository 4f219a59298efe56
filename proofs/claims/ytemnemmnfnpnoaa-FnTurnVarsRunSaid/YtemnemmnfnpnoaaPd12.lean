/- Texts of this proof, merged: GL24, BL24. -/
import Derived.Test.YtemnemmnfnpnoaaPd11
import Derived.Test.YtemnemmnfnpnoaaRows
section
/- The functions that the law FnTurnVarsRun reaches, as ideal functions. -/
set_option linter.unusedVariables false
set_option linter.unusedSimpArgs false
namespace Go.Proofs.YtemnemmnfnpnoaaI
open Go Go.RowKit
def fnOf : Nat → Option IFn
  | 9 => some (c_lawTVR)
  | 12 => some (c_sTurnVars)
  | 15 => some (c_iTurnVars)
  | 21 => some (c_drTV)
  | 22 => some (c_lcProg)
  | 24 => some (c_iProg)
  | 29 => some (c_sProg)
  | 32 => some (c_iRunOf)
  | 33 => some (c_lcInts)
  | 34 => some (c_iRunTo)
  | 38 => some (c_sRow)
  | 39 => some (c_sVars)
  | 42 => some (c_iRow)
  | 43 => some (c_pclone)
  | 44 => some (c_change)
  | 45 => some (c_tv1)
  | 52 => some (c_l6Open)
  | 53 => some (c_drAny)
  | 54 => some (c_drRow)
  | 55 => some (c_lcSteps)
  | 56 => some (c_con)
  | 57 => some (c_p1)
  | 58 => some (c_iLabelOk)
  | 59 => some (c_iSteps)
  | 60 => some (c_iSize)
  | 65 => some (c_sLabelOk)
  | 66 => some (c_sSteps)
  | 67 => some (c_sCount)
  | 69 => some (c_iNums)
  | 70 => some (c_cloneInts)
  | 71 => some (c_do)
  | 72 => some (c_clone)
  | 76 => some (c_iIn)
  | 77 => some (c_conInt)
  | 78 => some (c_cloneSteps)
  | 81 => some (c_drProg)
  | 82 => some (c_pick)
  | 83 => some (c_drFine)
  | 84 => some (c_drBent)
  | 85 => some (c_idx)
  | 86 => some (c_iSet)
  | 87 => some (c_iVar)
  | 88 => some (c_iVal)
  | 89 => some (c_iHost)
  | 90 => some (c_sSet)
  | 91 => some (c_sHas)
  | 93 => some (c_sStep)
  | 98 => some (c_iNum)
  | 99 => some (c_vars)
  | 100 => some (c_set)
  | 101 => some (c_of)
  | 103 => some (c_ixInt)
  | 105 => some (c_drLabel)
  | 106 => some (c_drSteps)
  | 107 => some (c_sWhy)
  | 108 => some (c_sWithout)
  | 109 => some (c_sCopy)
  | 110 => some (c_sIn)
  | 111 => some (c_sAll)
  | 112 => some (c_sVar)
  | 113 => some (c_sVal)
  | 118 => some (c_drVal)
  | 119 => some (c_sAllSteps)
  | 120 => some (c_sTypeAt)
  | 121 => some (c_sFine)
  | 122 => some (c_sAt)
  | 123 => some (c_sAny)
  | 124 => some (c_sFlows)
  | 125 => some (c_sLBoth)
  | 126 => some (c_sValL)
  | 127 => some (c_sBoth)
  | 128 => some (c_sWithin)
  | _ => none
def cmOf (f : Nat) : CM := ⟨fun g => if [9, 22, 24, 29, 33, 38, 42, 55, 56, 57, 58, 59, 60, 65, 66, 67, 69, 76, 77, 85, 86, 87, 88, 89, 90, 91, 93, 98, 101, 103, 107, 110, 111, 112, 113, 121, 123, 124, 125, 126, 127, 128].contains g then .q else if [44, 45, 52, 53, 54, 71, 81, 82, 83, 84, 100, 105, 106, 118, 122].contains g then .n else .k, if [44, 45, 52, 53, 54, 71, 81, 82, 83, 84, 100, 105, 106, 118, 122].contains f then .n else .q, [78].contains f⟩
theorem hF9 : cFn Try.prog cmOf 9 = some (c_lawTVR) := by kernel_rfl
theorem hF12 : cFn Try.prog cmOf 12 = some (c_sTurnVars) := by kernel_rfl
theorem hF15 : cFn Try.prog cmOf 15 = some (c_iTurnVars) := by kernel_rfl
theorem hF21 : cFn Try.prog cmOf 21 = some (c_drTV) := by kernel_rfl
theorem hF22 : cFn Try.prog cmOf 22 = some (c_lcProg) := by kernel_rfl
theorem hF24 : cFn Try.prog cmOf 24 = some (c_iProg) := by kernel_rfl
theorem hF29 : cFn Try.prog cmOf 29 = some (c_sProg) := by kernel_rfl
theorem hF32 : cFn Try.prog cmOf 32 = some (c_iRunOf) := by kernel_rfl
theorem hF33 : cFn Try.prog cmOf 33 = some (c_lcInts) := by kernel_rfl
theorem hF34 : cFn Try.prog cmOf 34 = some (c_iRunTo) := by kernel_rfl
theorem hF38 : cFn Try.prog cmOf 38 = some (c_sRow) := by kernel_rfl
theorem hF39 : cFn Try.prog cmOf 39 = some (c_sVars) := by kernel_rfl
theorem hF42 : cFn Try.prog cmOf 42 = some (c_iRow) := by kernel_rfl
theorem hF43 : cFn Try.prog cmOf 43 = some (c_pclone) := by kernel_rfl
theorem hF44 : cFn Try.prog cmOf 44 = some (c_change) := by kernel_rfl
theorem hF45 : cFn Try.prog cmOf 45 = some (c_tv1) := by kernel_rfl
theorem hF52 : cFn Try.prog cmOf 52 = some (c_l6Open) := by kernel_rfl
theorem hF53 : cFn Try.prog cmOf 53 = some (c_drAny) := by kernel_rfl
theorem hF54 : cFn Try.prog cmOf 54 = some (c_drRow) := by kernel_rfl
theorem hF55 : cFn Try.prog cmOf 55 = some (c_lcSteps) := by kernel_rfl
theorem hF56 : cFn Try.prog cmOf 56 = some (c_con) := by kernel_rfl
theorem hF57 : cFn Try.prog cmOf 57 = some (c_p1) := by kernel_rfl
theorem hF58 : cFn Try.prog cmOf 58 = some (c_iLabelOk) := by kernel_rfl
theorem hF59 : cFn Try.prog cmOf 59 = some (c_iSteps) := by kernel_rfl
theorem hF60 : cFn Try.prog cmOf 60 = some (c_iSize) := by kernel_rfl
theorem hF65 : cFn Try.prog cmOf 65 = some (c_sLabelOk) := by kernel_rfl
theorem hF66 : cFn Try.prog cmOf 66 = some (c_sSteps) := by kernel_rfl
theorem hF67 : cFn Try.prog cmOf 67 = some (c_sCount) := by kernel_rfl
theorem hF69 : cFn Try.prog cmOf 69 = some (c_iNums) := by kernel_rfl
theorem hF70 : cFn Try.prog cmOf 70 = some (c_cloneInts) := by kernel_rfl
theorem hF71 : cFn Try.prog cmOf 71 = some (c_do) := by kernel_rfl
theorem hF72 : cFn Try.prog cmOf 72 = some (c_clone) := by kernel_rfl
theorem hF76 : cFn Try.prog cmOf 76 = some (c_iIn) := by kernel_rfl
theorem hF77 : cFn Try.prog cmOf 77 = some (c_conInt) := by kernel_rfl
theorem hF78 : cFn Try.prog cmOf 78 = some (c_cloneSteps) := by kernel_rfl
theorem hF81 : cFn Try.prog cmOf 81 = some (c_drProg) := by kernel_rfl
theorem hF82 : cFn Try.prog cmOf 82 = some (c_pick) := by kernel_rfl
theorem hF83 : cFn Try.prog cmOf 83 = some (c_drFine) := by kernel_rfl
theorem hF84 : cFn Try.prog cmOf 84 = some (c_drBent) := by kernel_rfl
theorem hF85 : cFn Try.prog cmOf 85 = some (c_idx) := by kernel_rfl
theorem hF86 : cFn Try.prog cmOf 86 = some (c_iSet) := by kernel_rfl
theorem hF87 : cFn Try.prog cmOf 87 = some (c_iVar) := by kernel_rfl
theorem hF88 : cFn Try.prog cmOf 88 = some (c_iVal) := by kernel_rfl
theorem hF89 : cFn Try.prog cmOf 89 = some (c_iHost) := by kernel_rfl
theorem hF90 : cFn Try.prog cmOf 90 = some (c_sSet) := by kernel_rfl
theorem hF91 : cFn Try.prog cmOf 91 = some (c_sHas) := by kernel_rfl
theorem hF93 : cFn Try.prog cmOf 93 = some (c_sStep) := by kernel_rfl
theorem hF98 : cFn Try.prog cmOf 98 = some (c_iNum) := by kernel_rfl
theorem hF99 : cFn Try.prog cmOf 99 = some (c_vars) := by kernel_rfl
theorem hF100 : cFn Try.prog cmOf 100 = some (c_set) := by kernel_rfl
theorem hF101 : cFn Try.prog cmOf 101 = some (c_of) := by kernel_rfl
theorem hF103 : cFn Try.prog cmOf 103 = some (c_ixInt) := by kernel_rfl
theorem hF105 : cFn Try.prog cmOf 105 = some (c_drLabel) := by kernel_rfl
theorem hF106 : cFn Try.prog cmOf 106 = some (c_drSteps) := by kernel_rfl
theorem hF107 : cFn Try.prog cmOf 107 = some (c_sWhy) := by kernel_rfl
theorem hF108 : cFn Try.prog cmOf 108 = some (c_sWithout) := by kernel_rfl
theorem hF109 : cFn Try.prog cmOf 109 = some (c_sCopy) := by kernel_rfl
theorem hF110 : cFn Try.prog cmOf 110 = some (c_sIn) := by kernel_rfl
theorem hF111 : cFn Try.prog cmOf 111 = some (c_sAll) := by kernel_rfl
theorem hF112 : cFn Try.prog cmOf 112 = some (c_sVar) := by kernel_rfl
theorem hF113 : cFn Try.prog cmOf 113 = some (c_sVal) := by kernel_rfl
theorem hF118 : cFn Try.prog cmOf 118 = some (c_drVal) := by kernel_rfl
theorem hF119 : cFn Try.prog cmOf 119 = some (c_sAllSteps) := by kernel_rfl
theorem hF120 : cFn Try.prog cmOf 120 = some (c_sTypeAt) := by kernel_rfl
theorem hF121 : cFn Try.prog cmOf 121 = some (c_sFine) := by kernel_rfl
theorem hF122 : cFn Try.prog cmOf 122 = some (c_sAt) := by kernel_rfl
theorem hF123 : cFn Try.prog cmOf 123 = some (c_sAny) := by kernel_rfl
theorem hF124 : cFn Try.prog cmOf 124 = some (c_sFlows) := by kernel_rfl
theorem hF125 : cFn Try.prog cmOf 125 = some (c_sLBoth) := by kernel_rfl
theorem hF126 : cFn Try.prog cmOf 126 = some (c_sValL) := by kernel_rfl
theorem hF127 : cFn Try.prog cmOf 127 = some (c_sBoth) := by kernel_rfl
theorem hF128 : cFn Try.prog cmOf 128 = some (c_sWithin) := by kernel_rfl
theorem hF (g : Nat) (fn : IFn) (h : fnOf g = some fn) : cFn Try.prog cmOf g = some fn := by
  unfold fnOf at h
  split at h
  · rw [← h]; exact hF9
  · rw [← h]; exact hF12
  · rw [← h]; exact hF15
  · rw [← h]; exact hF21
  · rw [← h]; exact hF22
  · rw [← h]; exact hF24
  · rw [← h]; exact hF29
  · rw [← h]; exact hF32
  · rw [← h]; exact hF33
  · rw [← h]; exact hF34
  · rw [← h]; exact hF38
  · rw [← h]; exact hF39
  · rw [← h]; exact hF42
  · rw [← h]; exact hF43
  · rw [← h]; exact hF44
  · rw [← h]; exact hF45
  · rw [← h]; exact hF52
  · rw [← h]; exact hF53
  · rw [← h]; exact hF54
  · rw [← h]; exact hF55
  · rw [← h]; exact hF56
  · rw [← h]; exact hF57
  · rw [← h]; exact hF58
  · rw [← h]; exact hF59
  · rw [← h]; exact hF60
  · rw [← h]; exact hF65
  · rw [← h]; exact hF66
  · rw [← h]; exact hF67
  · rw [← h]; exact hF69
  · rw [← h]; exact hF70
  · rw [← h]; exact hF71
  · rw [← h]; exact hF72
  · rw [← h]; exact hF76
  · rw [← h]; exact hF77
  · rw [← h]; exact hF78
  · rw [← h]; exact hF81
  · rw [← h]; exact hF82
  · rw [← h]; exact hF83
  · rw [← h]; exact hF84
  · rw [← h]; exact hF85
  · rw [← h]; exact hF86
  · rw [← h]; exact hF87
  · rw [← h]; exact hF88
  · rw [← h]; exact hF89
  · rw [← h]; exact hF90
  · rw [← h]; exact hF91
  · rw [← h]; exact hF93
  · rw [← h]; exact hF98
  · rw [← h]; exact hF99
  · rw [← h]; exact hF100
  · rw [← h]; exact hF101
  · rw [← h]; exact hF103
  · rw [← h]; exact hF105
  · rw [← h]; exact hF106
  · rw [← h]; exact hF107
  · rw [← h]; exact hF108
  · rw [← h]; exact hF109
  · rw [← h]; exact hF110
  · rw [← h]; exact hF111
  · rw [← h]; exact hF112
  · rw [← h]; exact hF113
  · rw [← h]; exact hF118
  · rw [← h]; exact hF119
  · rw [← h]; exact hF120
  · rw [← h]; exact hF121
  · rw [← h]; exact hF122
  · rw [← h]; exact hF123
  · rw [← h]; exact hF124
  · rw [← h]; exact hF125
  · rw [← h]; exact hF126
  · rw [← h]; exact hF127
  · rw [← h]; exact hF128
  · cases h
theorem hMixed : Try.prog.follows .mixedOrders = true := by kernel_rfl
theorem ok_iIn : ∀ (H : Heap) (a b c : Int), QC fnOf 76 [.int .i64 a, .int .i64 b, .int .i64 c] H (.bool (inB a b c)) := iIn_ok rfl
theorem ok_sIn : ∀ (H : Heap) (a b c : Int), QC fnOf 110 [.int .i64 a, .int .i64 b, .int .i64 c] H (.bool (inB a b c)) := sIn_ok rfl
theorem ok_iSet : ∀ (H : Heap) (a : Int), QC fnOf 86 [.int .i64 a] H (.bool (inB a 0 7)) := iSet_ok rfl ok_iIn
theorem ok_iHost : ∀ (H : Heap) (a : Int), QC fnOf 89 [.int .i64 a] H (.bool (inB a 0 2)) := iHost_ok rfl ok_iIn
theorem ok_iNum : ∀ (H : Heap) (a : Int), QC fnOf 98 [.int .i64 a] H (.bool (inB a 0 9)) := iNum_ok rfl ok_iIn
theorem ok_sAll : ∀ H, QC fnOf 111 [] H (.int .i64 7) := sAll_ok rfl
theorem ok_sSet : ∀ (H : Heap) (a : Int), QC fnOf 90 [.int .i64 a] H (.bool (inB a 0 7)) := sSet_ok rfl ok_sIn ok_sAll
theorem ok_iLabelOk : LabOk fnOf 58 := iLabelOk_ok rfl ok_iSet
theorem ok_sLabelOk : LabOk fnOf 65 := sLabelOk_ok rfl ok_sSet
theorem ok_iVar : VarOk fnOf 87 := iVar_ok rfl ok_iIn
theorem ok_sVar : VarOk fnOf 112 := sVar_ok rfl ok_sIn
theorem ok_iVal : ValOk fnOf 88 := iVal_ok rfl ok_iNum ok_iVar
theorem ok_sVal : ValOk fnOf 113 := sVal_ok rfl ok_sIn ok_sVar
theorem ok_sSteps : ∀ n, StepsOk fnOf 66 n := fun n => (sSteps_all rfl rfl ok_sIn ok_sVar ok_sVal n).1
theorem ok_iSteps : ∀ n, StepsOk fnOf 59 n := iSteps_all rfl ok_iVar ok_iVal ok_iHost
theorem ok_sCount : ∀ n, CntOk fnOf 67 n := cnt_all (fun _ h => sCount_ok rfl h) (sCount_z rfl)
theorem ok_iSize : ∀ n, CntOk fnOf 60 n := cnt_all (fun _ h => iSize_ok rfl h) (iSize_z rfl)
theorem ok_sProg : ProgOk fnOf 29 := sProg_ok rfl ok_sLabelOk ok_sSteps ok_sCount
theorem ok_iProg : ProgOk fnOf 24 := iProg_ok rfl (con_ok rfl (idx_ok rfl (p1_ok rfl ok_iLabelOk))) ok_iSteps ok_iSize
theorem ok_sHas : HasOk fnOf 91 := sHas_ok rfl
theorem ok_sWit : WitOk fnOf 128 := sWithin_ok rfl ok_sHas
theorem ok_sBoth : BothOk fnOf 127 := sBoth_ok rfl ok_sHas
theorem ok_sLBoth : LBothOk fnOf 125 := sLBoth_ok rfl ok_sLabelOk ok_sBoth
theorem ok_sFlows : FlowsOk fnOf 124 := sFlows_ok rfl ok_sLabelOk ok_sWit
theorem ok_sAny : ∀ H, QC fnOf 123 [] H (.agg #[.int .i64 7, .int .i64 7]) := sAny_ok rfl ok_sAll
theorem ok_sFine : FineOk fnOf 121 := sFine_ok rfl (sValL_ok rfl ok_sAny ok_sLBoth) ok_sLBoth ok_sFlows ok_sBoth ok_sHas
theorem ok_sAllSteps : ∀ n, AllOk fnOf 119 n := sAllSteps_all rfl
theorem ok_sAt : ∀ n, AtOk fnOf 122 n := sAt_all rfl ok_sLBoth
theorem ok_sTypeAt : TypeAtOk fnOf 120 := sTypeAt_ok rfl ok_sProg ok_sAny ok_sAt
theorem ok_sWhy : WhyOk fnOf 107 := sWhy_ok rfl ok_sProg ok_sAllSteps ok_sTypeAt ok_sFine
theorem ok_sCopy : ∀ n, CopyOk fnOf 109 n := sCopy_all rfl
theorem ok_sWithout : ∀ n, WoOk fnOf 108 n := sWithout_all rfl ok_sCount
theorem ok_drProg {H0 : Heap} {rb : Nat} {bv : Value} {code : List Int} (hc : RdC H0 rb bv code) : DrawS fnOf H0 rb bv 81 [] 40000 (ProgQ 3) := drProg_ok rfl rfl rfl rfl rfl ok_sProg hc
theorem ok_drFine {H0 : Heap} {rb : Nat} {bv : Value} {code : List Int} (hc : RdC H0 rb bv code) : DrawS fnOf H0 rb bv 83 [] 40000 (ProgQ 3) := drFine_ok rfl hc (ok_drProg hc) ok_sWhy ok_sWithout
theorem ok_drAny {H0 : Heap} {rb : Nat} {bv : Value} {code : List Int} (hc : RdC H0 rb bv code) : DrawS fnOf H0 rb bv 53 [] 90000 ProgR := drAny_ok rfl rfl hc (ok_drProg hc) (ok_drFine hc) (drBent_ok rfl rfl ok_sCopy hc)
theorem ok_ixInt : ∀ (H : Heap) (v : Value) (l : List Int) (x : Int), SlR Co.int (vw 0 H) v l → QC fnOf 77 [v, .int .i64 x] H (.bool (decide (x ∈ l))) := conInt_ok rfl rfl
theorem ok_iRow : RowOk fnOf 42 := iRow_ok rfl ok_iIn ok_ixInt
theorem ok_sRow : RowOk fnOf 38 := sRow_ok rfl
theorem ok_pclone : PCloneOk fnOf 43 := pclone_ok rfl (cloneSteps_all rfl)
theorem ok_iTurnVars : TurnPOk fnOf 15 (fun k => k) turnL turnS := iTurnVars_ok rfl ok_iProg ok_iRow ok_pclone rfl rfl
theorem ok_sTurnVars : TurnPOk fnOf 12 (fun k => k) turnL turnS := sTurnVars_ok rfl ok_sProg ok_sRow rfl
theorem ok_lcProg : SamePOk fnOf 22 := lcProg_ok rfl (lcSteps_all rfl)
theorem ok_drTV : DrawNumsOk fnOf 21 := drTV_ok rfl rfl rfl rfl ok_drAny
theorem ok_iNums : NumsOk fnOf 69 := iNums_ok rfl ok_iNum ok_iProg
theorem ok_do : ∀ n, DoOk fnOf 71 n := do_all rfl rfl rfl rfl
theorem ok_iRunOf : RunOk fnOf 32 := iRunOf_ok rfl ok_iNums rfl ok_do rfl
theorem ok_iRunTo : ToldOk fnOf 34 := iRunTo_ok rfl
theorem ok_lcInts : IntsOk fnOf 33 := lcInts_ok rfl
theorem ok_lawTVR : LawB2 fnOf 9 := lawTVR_ok rfl ok_drTV ok_sTurnVars ok_iTurnVars ok_lcProg ok_iRunOf ok_iRunTo ok_lcInts
end Go.Proofs.YtemnemmnfnpnoaaI
end
section
/- Laws of lists of bytes, called in the model. -/
set_option linter.unusedVariables false
set_option linter.unusedSimpArgs false
namespace Go.Proofs.YtemnemmnfnpnoaaI
open Go Go.RowKit
theorem Good.byte {w : World} {n : Int} (h : (Lit.int .u8 n).wf = true) : Good Co.byte w [.int .u8 n] := fun H m s =>
  ⟨n, [], m, [.int .u8 n], by simpa using s, sub_refl m, ⟨rfl, by simpa [Lit.wf, IntKind.min, IntKind.max, IntKind.signed, IntKind.bits] using h⟩, All2.cons (.inl rfl) All2.nil⟩
theorem good_5 {T : Type} {enc : TypeId × Value → T} {w : World} {spare : Nat → Bool} {held : Bool} {n : Nat} {cs : List Value} {x : DataW T × List MemPlace} (h : DataW.trod enc Try.prog w 0 spare held n 5 cs = some x) : Good Co.byte w cs := by
  obtain ⟨m, rfl, _, hw⟩ := DataW.trod_int Try.underlying5 h
  exact Good.byte hw
theorem good_41 {T : Type} {enc : TypeId × Value → T} {w : World} {spare : Nat → Bool} {held : Bool} {n : Nat} {cs : List Value} {x : DataW T × List MemPlace} (h : DataW.trod enc Try.prog w 0 spare held n 41 cs = some x) : Good (Co.sl Co.byte) w cs :=
  Good.sl Try.underlying41 (by kernel_rfl) (by decide) h fun _ _ _ _ h => good_5 h
theorem lawB2_calls {n : Nat} (hl : LawB2 fnOf n) {W : World} {a b : Option Addr} {l c l' c' : Nat} (g0 : Good (Co.sl Co.byte) W [.slice a l c]) (g1 : Good (Co.sl Co.byte) W [.slice b l' c']) :
    Calls Try.prog n #[.slice a l c, .slice b l' c'] W fun e w' => e = .returned (.bool true) ∧ Below W.heap.size W w' := by
  obtain ⟨ts, L, m, cs0, s, q, r, e⟩ := g0 [] (fun _ => none) (SL.none _)
  rw [List.nil_append] at s r
  obtain ⟨ts', L2, m2, cs1, s2, q2, r2, e2⟩ := g1 L m s
  obtain ⟨u, rfl, hu⟩ := r
  obtain ⟨u', rfl, hu'⟩ := r2
  exact law_core hF hMixed s2 (vals := [u, u']) (All2.cons (VR.one_mk (e.mono fun _ _ _ h => VR1.mono q2 h)) (All2.cons (VR.one_mk e2) All2.nil)) (hl _ u u' ts ts' (hu.mono (vw_app 0 L L2)) hu')
end Go.Proofs.YtemnemmnfnpnoaaI
end
