/- The functions that the law FnExactPartView reaches, as ideal functions. -/
import Derived.Test.YtkdhdklggdbgdaaR2
import Derived.Test.YtkdhdklggdbgdaaI18
import Derived.Test.YtkdhdklggdbgdaaP4
set_option linter.unusedVariables false
set_option linter.unusedSimpArgs false
namespace Go.Proofs.YtkdhdklggdbgdaaI.PV
open Go Go.RowKit
def fnOf : Nat → Option IFn
  | 5 => some (c_lawPV)
  | 6 => some (c_szPart)
  | 8 => some (c_toPart)
  | 10 => some (c_eqPart)
  | 14 => some (toFlat 3)
  | 17 => some (eqFlat)
  | 18 => some (c_sView)
  | 19 => some (c_iView)
  | 20 => some (eqCall 49 7 true)
  | 21 => some (c_markPart)
  | 22 => some (c_mark7)
  | 23 => some (c_held7)
  | 24 => some (c_szRun)
  | 25 => some (szNest 55 1 false)
  | 26 => some (c_toRun)
  | 27 => some (toCall .k 58 1 57 24 [(.slice none 0 0)] false)
  | 28 => some (c_eqRun)
  | 29 => some (eqCall 20 1 false)
  | 35 => some (c_sIn)
  | 48 => some (c_iIn)
  | 49 => some (c_eqWord)
  | 50 => some (c_markRun)
  | 51 => some (markH 18 1 (markC 1 22 false) 19)
  | 52 => some (szFlat)
  | 53 => some (szFlat)
  | 54 => some (szFlat)
  | 55 => some (szFlat)
  | 56 => some (toCall .q 83 2 121 16 [(.int .i64 0), (.int .i64 0)] true)
  | 57 => some (toCall .q 84 2 125 16 [(.int .i64 0), (.int .i64 0)] true)
  | 58 => some (toCall .q 85 7 87 56 [(.int .i64 0), (.int .i64 0), (.int .i64 0), (.int .i64 0), (.int .i64 0), (.int .i64 0), (.int .i64 0)] true)
  | 59 => some (eqCall 86 2 true)
  | 60 => some (eqCall 87 2 true)
  | 80 => some (c_mark1)
  | 81 => some (c_mark2)
  | 82 => some (c_mark2)
  | 83 => some (c_toWrite)
  | 84 => some (c_toWrite)
  | 85 => some (c_toWord)
  | 86 => some (c_eqWrite)
  | 87 => some (c_eqWrite)
  | _ => none
def cmOf (f : Nat) : CM := ⟨fun g => if [5, 6, 10, 17, 20, 23, 24, 25, 28, 29, 35, 48, 49, 52, 53, 54, 55, 59, 60, 83, 84, 85, 86, 87].contains g then .q else if [21, 22, 50, 51, 80, 81, 82].contains g then .n else .k, if [21, 22, 50, 51, 80, 81, 82].contains f then .n else .q, false⟩
theorem hF5 : cFn Try.prog cmOf 5 = some (c_lawPV) := by kernel_rfl
theorem hF6 : cFn Try.prog cmOf 6 = some (c_szPart) := by kernel_rfl
theorem hF8 : cFn Try.prog cmOf 8 = some (c_toPart) := by kernel_rfl
theorem hF10 : cFn Try.prog cmOf 10 = some (c_eqPart) := by kernel_rfl
theorem hF14 : cFn Try.prog cmOf 14 = some (toFlat 3) := by kernel_rfl
theorem hF17 : cFn Try.prog cmOf 17 = some (eqFlat) := by kernel_rfl
theorem hF18 : cFn Try.prog cmOf 18 = some (c_sView) := by kernel_rfl
theorem hF19 : cFn Try.prog cmOf 19 = some (c_iView) := by kernel_rfl
theorem hF20 : cFn Try.prog cmOf 20 = some (eqCall 49 7 true) := by kernel_rfl
theorem hF21 : cFn Try.prog cmOf 21 = some (c_markPart) := by kernel_rfl
theorem hF22 : cFn Try.prog cmOf 22 = some (c_mark7) := by kernel_rfl
theorem hF23 : cFn Try.prog cmOf 23 = some (c_held7) := by kernel_rfl
theorem hF24 : cFn Try.prog cmOf 24 = some (c_szRun) := by kernel_rfl
theorem hF25 : cFn Try.prog cmOf 25 = some (szNest 55 1 false) := by kernel_rfl
theorem hF26 : cFn Try.prog cmOf 26 = some (c_toRun) := by kernel_rfl
theorem hF27 : cFn Try.prog cmOf 27 = some (toCall .k 58 1 57 24 [(.slice none 0 0)] false) := by kernel_rfl
theorem hF28 : cFn Try.prog cmOf 28 = some (c_eqRun) := by kernel_rfl
theorem hF29 : cFn Try.prog cmOf 29 = some (eqCall 20 1 false) := by kernel_rfl
theorem hF35 : cFn Try.prog cmOf 35 = some (c_sIn) := by kernel_rfl
theorem hF48 : cFn Try.prog cmOf 48 = some (c_iIn) := by kernel_rfl
theorem hF49 : cFn Try.prog cmOf 49 = some (c_eqWord) := by kernel_rfl
theorem hF50 : cFn Try.prog cmOf 50 = some (c_markRun) := by kernel_rfl
theorem hF51 : cFn Try.prog cmOf 51 = some (markH 18 1 (markC 1 22 false) 19) := by kernel_rfl
theorem hF52 : cFn Try.prog cmOf 52 = some (szFlat) := by kernel_rfl
theorem hF53 : cFn Try.prog cmOf 53 = some (szFlat) := by kernel_rfl
theorem hF54 : cFn Try.prog cmOf 54 = some (szFlat) := by kernel_rfl
theorem hF55 : cFn Try.prog cmOf 55 = some (szFlat) := by kernel_rfl
theorem hF56 : cFn Try.prog cmOf 56 = some (toCall .q 83 2 121 16 [(.int .i64 0), (.int .i64 0)] true) := by kernel_rfl
theorem hF57 : cFn Try.prog cmOf 57 = some (toCall .q 84 2 125 16 [(.int .i64 0), (.int .i64 0)] true) := by kernel_rfl
theorem hF58 : cFn Try.prog cmOf 58 = some (toCall .q 85 7 87 56 [(.int .i64 0), (.int .i64 0), (.int .i64 0), (.int .i64 0), (.int .i64 0), (.int .i64 0), (.int .i64 0)] true) := by kernel_rfl
theorem hF59 : cFn Try.prog cmOf 59 = some (eqCall 86 2 true) := by kernel_rfl
theorem hF60 : cFn Try.prog cmOf 60 = some (eqCall 87 2 true) := by kernel_rfl
theorem hF80 : cFn Try.prog cmOf 80 = some (c_mark1) := by kernel_rfl
theorem hF81 : cFn Try.prog cmOf 81 = some (c_mark2) := by kernel_rfl
theorem hF82 : cFn Try.prog cmOf 82 = some (c_mark2) := by kernel_rfl
theorem hF83 : cFn Try.prog cmOf 83 = some (c_toWrite) := by kernel_rfl
theorem hF84 : cFn Try.prog cmOf 84 = some (c_toWrite) := by kernel_rfl
theorem hF85 : cFn Try.prog cmOf 85 = some (c_toWord) := by kernel_rfl
theorem hF86 : cFn Try.prog cmOf 86 = some (c_eqWrite) := by kernel_rfl
theorem hF87 : cFn Try.prog cmOf 87 = some (c_eqWrite) := by kernel_rfl
theorem hF (g : Nat) (fn : IFn) (h : fnOf g = some fn) : cFn Try.prog cmOf g = some fn := by
  unfold fnOf at h
  split at h
  · rw [← h]; exact hF5
  · rw [← h]; exact hF6
  · rw [← h]; exact hF8
  · rw [← h]; exact hF10
  · rw [← h]; exact hF14
  · rw [← h]; exact hF17
  · rw [← h]; exact hF18
  · rw [← h]; exact hF19
  · rw [← h]; exact hF20
  · rw [← h]; exact hF21
  · rw [← h]; exact hF22
  · rw [← h]; exact hF23
  · rw [← h]; exact hF24
  · rw [← h]; exact hF25
  · rw [← h]; exact hF26
  · rw [← h]; exact hF27
  · rw [← h]; exact hF28
  · rw [← h]; exact hF29
  · rw [← h]; exact hF35
  · rw [← h]; exact hF48
  · rw [← h]; exact hF49
  · rw [← h]; exact hF50
  · rw [← h]; exact hF51
  · rw [← h]; exact hF52
  · rw [← h]; exact hF53
  · rw [← h]; exact hF54
  · rw [← h]; exact hF55
  · rw [← h]; exact hF56
  · rw [← h]; exact hF57
  · rw [← h]; exact hF58
  · rw [← h]; exact hF59
  · rw [← h]; exact hF60
  · rw [← h]; exact hF80
  · rw [← h]; exact hF81
  · rw [← h]; exact hF82
  · rw [← h]; exact hF83
  · rw [← h]; exact hF84
  · rw [← h]; exact hF85
  · rw [← h]; exact hF86
  · rw [← h]; exact hF87
  · cases h
theorem hMixed : Try.prog.follows .mixedOrders = true := by kernel_rfl
theorem ok_szIntS : SzOk fnOf (Co.sl Co.int) false 52 := szFlat_ok rfl (fun _ => trivial)
theorem ok_szWriteS : SzOk fnOf (Co.sl Co.p2) false 53 := szFlat_ok rfl (fun _ => ⟨trivial, trivial⟩)
theorem ok_szSaidS : SzOk fnOf (Co.sl Co.p2) false 54 := szFlat_ok rfl (fun _ => ⟨trivial, trivial⟩)
theorem ok_szWordS : SzOk fnOf (Co.sl Co.word) false 55 := szFlat_ok rfl (fun _ => ⟨trivial, trivial, trivial, trivial, trivial, trivial, trivial⟩)
theorem ok_szWordSS : SzOk fnOf (Co.sl (Co.sl Co.word)) false 25 := szNest_ok rfl ok_szWordS rfl (va_sl Co.word)
theorem ok_szRun : SzOk fnOf Co.run true 24 := szRun_ok rfl ok_szIntS ok_szWriteS ok_szSaidS
theorem ok_szPart : SzOk fnOf Co.part true 6 := szPart_ok rfl ok_szRun ok_szWordSS
theorem ok_toIntS : ToOkS fnOf (Co.sl Co.int) false .k 14 := toFlatS_ok rfl
theorem ok_toWrite : ToOkS fnOf Co.p2 true .q 83 := toWrite_okS rfl
theorem ok_toSaid : ToOkS fnOf Co.p2 true .q 84 := toWrite_okS rfl
theorem ok_toWord : ToOkS fnOf Co.word true .q 85 := toWord_okS rfl
theorem ok_toWriteS : ToOkS fnOf (Co.sl Co.p2) false .k 56 := toCallS_ok rfl rfl (by omega) ok_toWrite rfl (va_t Co.p2)
theorem ok_toSaidS : ToOkS fnOf (Co.sl Co.p2) false .k 57 := toCallS_ok rfl rfl (by omega) ok_toSaid rfl (va_t Co.p2)
theorem ok_toWordS : ToOkS fnOf (Co.sl Co.word) false .k 58 := toCallS_ok rfl rfl (by omega) ok_toWord rfl (va_t Co.word)
theorem ok_toWordSS : ToOkS fnOf (Co.sl (Co.sl Co.word)) false .k 27 := toCallS_ok rfl rfl (by omega) ok_toWordS rfl (va_sl Co.word)
theorem ok_toRun : ToOkS fnOf Co.run true .k 26 := toRun_okS rfl ok_toIntS ok_toWriteS ok_toSaidS
theorem ok_toPart : ToOkS fnOf Co.part true .k 8 := toPart_okS rfl ok_toRun ok_toWordSS
theorem ok_eqIntS : EqOk fnOf (Co.sl Co.int) false 17 := eqFlat_ok rfl
theorem ok_eqWrite : EqOk fnOf Co.p2 true 86 := eqWrite_ok rfl
theorem ok_eqSaid : EqOk fnOf Co.p2 true 87 := eqWrite_ok rfl
theorem ok_eqWord : EqOk fnOf Co.word true 49 := eqWord_ok rfl
theorem ok_eqWriteS : EqOk fnOf (Co.sl Co.p2) false 59 := eqCall_ok rfl ok_eqWrite rfl (va_t Co.p2)
theorem ok_eqSaidS : EqOk fnOf (Co.sl Co.p2) false 60 := eqCall_ok rfl ok_eqSaid rfl (va_t Co.p2)
theorem ok_eqWordS : EqOk fnOf (Co.sl Co.word) false 20 := eqCall_ok rfl ok_eqWord rfl (va_t Co.word)
theorem ok_eqWordSS : EqOk fnOf (Co.sl (Co.sl Co.word)) false 29 := eqCall_ok rfl ok_eqWordS rfl (va_sl Co.word)
theorem ok_eqRun : EqOk fnOf Co.run true 28 := eqRun_ok rfl ok_eqIntS ok_eqWriteS ok_eqSaidS
theorem ok_eqPart : EqOk fnOf Co.part true 10 := eqPart_ok rfl ok_eqRun ok_eqWordSS
theorem ok_markIntS : MkOk fnOf (Co.sl Co.int) false 80 nI := MkOk.flat AllI.int rfl (by omega) (mark1_ok rfl)
theorem ok_markWriteS : MkOk fnOf (Co.sl Co.p2) false 81 nP := MkOk.flat aiP rfl (by omega) (mark2_ok rfl)
theorem ok_markSaidS : MkOk fnOf (Co.sl Co.p2) false 82 nP := MkOk.flat aiP rfl (by omega) (mark2_ok rfl)
theorem ok_markWordS : MkOk fnOf (Co.sl Co.word) false 22 nW := MkOk.flat aiW rfl (by omega) (mark7_ok rfl)
theorem ok_markWordSS : MkOk fnOf (Co.sl (Co.sl Co.word)) false 51 nWW := MkOk.sl rfl sW rfl (va_sl Co.word) ok_markWordS
theorem ok_markRun : MkOk fnOf Co.run true 50 nRun := markRun_ok rfl ok_markIntS sI ok_markWriteS sP ok_markSaidS sP
theorem ok_markPart : MkOk fnOf Co.part true 21 nPart := markPart_ok rfl ok_markRun sRun ok_markWordSS sWW
theorem ok_sView : ViewOk fnOf 18 := sView_ok rfl (sIn_ok rfl)
theorem ok_iView : ViewOk fnOf 19 := iView_ok rfl (iIn_ok rfl)
theorem ok_law : ∀ (H : Heap) (v : Value) a (x : Int), Rd Co.part true (vw 0 H) v a → QC fnOf 5 [v, .int .i64 x] H (.bool true) := lawPV_ok rfl ok_szPart ok_toPart ok_sView ok_iView ok_eqWordS ok_eqPart ok_markPart (mark7_ok rfl) (held7_ok rfl)
theorem lawPV_calls {W : World} {c0 : Array Value} {x : Int} (g0 : Good Co.part W c0.toList) :
    Calls Try.prog 5 #[.agg c0, .int .i64 x] W fun e w' => e = .returned (.bool true) ∧ Below W.heap.size W w' := by
  obtain ⟨p, L, m, cs0, s, q, r, e⟩ := g0 [] (fun _ => none) (SL.none _)
  rw [List.nil_append] at s r
  exact law_core hF hMixed s (vals := [.agg cs0.toArray, .int .i64 x]) (All2.cons (VR.agg_mk e) (All2.cons VR.int_mk All2.nil)) (ok_law _ _ p x ⟨cs0, rfl, r⟩)
end Go.Proofs.YtkdhdklggdbgdaaI.PV
