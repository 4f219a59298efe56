/- The functions that this law reaches, as ideal functions. -/
import Derived.Test.YtkdhdklggdbgdaaP2
import Derived.Test.YtkdhdklggdbgdaaRows
set_option linter.unusedVariables false
set_option linter.unusedSimpArgs false
namespace Go.Proofs.YtkdhdklggdbgdaaI
open Go Go.RowKit
def fnOf : Nat → Option IFn
  | 3 => some (c_law)
  | 6 => some (c_szPart)
  | 7 => some (c_sPartCount)
  | 8 => some (c_toPart)
  | 9 => some (c_iPartCount)
  | 10 => some (c_eqPart)
  | 14 => some (toFlat 3)
  | 17 => some (eqFlat)
  | 20 => some (eqCall 49 7 true)
  | 24 => some (c_szRun)
  | 25 => some (szNest 55 1 false)
  | 26 => some (c_toRun)
  | 27 => some (toCall .k 58 1 57 24 [(.slice none 0 0)] false)
  | 28 => some (c_eqRun)
  | 29 => some (eqCall 20 1 false)
  | 49 => some (c_eqWord)
  | 52 => some (szFlat)
  | 53 => some (szFlat)
  | 54 => some (szFlat)
  | 55 => some (szFlat)
  | 56 => some (toCall .q 83 2 121 16 [(.int .i64 0), (.int .i64 0)] true)
  | 57 => some (toCall .q 84 2 125 16 [(.int .i64 0), (.int .i64 0)] true)
  | 58 => some (toCall .q 85 7 87 56 [(.int .i64 0), (.int .i64 0), (.int .i64 0), (.int .i64 0), (.int .i64 0), (.int .i64 0), (.int .i64 0)] true)
  | 59 => some (eqCall 86 2 true)
  | 60 => some (eqCall 87 2 true)
  | 83 => some (c_toWrite)
  | 84 => some (c_toWrite)
  | 85 => some (c_toWord)
  | 86 => some (c_eqWrite)
  | 87 => some (c_eqWrite)
  | _ => none
def cmOf (_ : Nat) : CM := ⟨fun g => if [3, 6, 7, 9, 10, 17, 20, 24, 25, 28, 29, 49, 52, 53, 54, 55, 59, 60, 83, 84, 85, 86, 87].contains g then .q else .k, .q, false⟩
theorem hF3 : cFn Try.prog cmOf 3 = some (c_law) := by kernel_rfl
theorem hF6 : cFn Try.prog cmOf 6 = some (c_szPart) := by kernel_rfl
theorem hF7 : cFn Try.prog cmOf 7 = some (c_sPartCount) := by kernel_rfl
theorem hF8 : cFn Try.prog cmOf 8 = some (c_toPart) := by kernel_rfl
theorem hF9 : cFn Try.prog cmOf 9 = some (c_iPartCount) := by kernel_rfl
theorem hF10 : cFn Try.prog cmOf 10 = some (c_eqPart) := by kernel_rfl
theorem hF14 : cFn Try.prog cmOf 14 = some (toFlat 3) := by kernel_rfl
theorem hF17 : cFn Try.prog cmOf 17 = some (eqFlat) := by kernel_rfl
theorem hF20 : cFn Try.prog cmOf 20 = some (eqCall 49 7 true) := by kernel_rfl
theorem hF24 : cFn Try.prog cmOf 24 = some (c_szRun) := by kernel_rfl
theorem hF25 : cFn Try.prog cmOf 25 = some (szNest 55 1 false) := by kernel_rfl
theorem hF26 : cFn Try.prog cmOf 26 = some (c_toRun) := by kernel_rfl
theorem hF27 : cFn Try.prog cmOf 27 = some (toCall .k 58 1 57 24 [(.slice none 0 0)] false) := by kernel_rfl
theorem hF28 : cFn Try.prog cmOf 28 = some (c_eqRun) := by kernel_rfl
theorem hF29 : cFn Try.prog cmOf 29 = some (eqCall 20 1 false) := by kernel_rfl
theorem hF49 : cFn Try.prog cmOf 49 = some (c_eqWord) := by kernel_rfl
theorem hF52 : cFn Try.prog cmOf 52 = some (szFlat) := by kernel_rfl
theorem hF53 : cFn Try.prog cmOf 53 = some (szFlat) := by kernel_rfl
theorem hF54 : cFn Try.prog cmOf 54 = some (szFlat) := by kernel_rfl
theorem hF55 : cFn Try.prog cmOf 55 = some (szFlat) := by kernel_rfl
theorem hF56 : cFn Try.prog cmOf 56 = some (toCall .q 83 2 121 16 [(.int .i64 0), (.int .i64 0)] true) := by kernel_rfl
theorem hF57 : cFn Try.prog cmOf 57 = some (toCall .q 84 2 125 16 [(.int .i64 0), (.int .i64 0)] true) := by kernel_rfl
theorem hF58 : cFn Try.prog cmOf 58 = some (toCall .q 85 7 87 56 [(.int .i64 0), (.int .i64 0), (.int .i64 0), (.int .i64 0), (.int .i64 0), (.int .i64 0), (.int .i64 0)] true) := by kernel_rfl
theorem hF59 : cFn Try.prog cmOf 59 = some (eqCall 86 2 true) := by kernel_rfl
theorem hF60 : cFn Try.prog cmOf 60 = some (eqCall 87 2 true) := by kernel_rfl
theorem hF83 : cFn Try.prog cmOf 83 = some (c_toWrite) := by kernel_rfl
theorem hF84 : cFn Try.prog cmOf 84 = some (c_toWrite) := by kernel_rfl
theorem hF85 : cFn Try.prog cmOf 85 = some (c_toWord) := by kernel_rfl
theorem hF86 : cFn Try.prog cmOf 86 = some (c_eqWrite) := by kernel_rfl
theorem hF87 : cFn Try.prog cmOf 87 = some (c_eqWrite) := by kernel_rfl
theorem hF (g : Nat) (fn : IFn) (h : fnOf g = some fn) : cFn Try.prog cmOf g = some fn := by
  unfold fnOf at h
  split at h
  · rw [← h]; exact hF3
  · rw [← h]; exact hF6
  · rw [← h]; exact hF7
  · rw [← h]; exact hF8
  · rw [← h]; exact hF9
  · rw [← h]; exact hF10
  · rw [← h]; exact hF14
  · rw [← h]; exact hF17
  · rw [← h]; exact hF20
  · rw [← h]; exact hF24
  · rw [← h]; exact hF25
  · rw [← h]; exact hF26
  · rw [← h]; exact hF27
  · rw [← h]; exact hF28
  · rw [← h]; exact hF29
  · rw [← h]; exact hF49
  · rw [← h]; exact hF52
  · rw [← h]; exact hF53
  · rw [← h]; exact hF54
  · rw [← h]; exact hF55
  · rw [← h]; exact hF56
  · rw [← h]; exact hF57
  · rw [← h]; exact hF58
  · rw [← h]; exact hF59
  · rw [← h]; exact hF60
  · rw [← h]; exact hF83
  · rw [← h]; exact hF84
  · rw [← h]; exact hF85
  · rw [← h]; exact hF86
  · rw [← h]; exact hF87
  · cases h
theorem hMixed : Try.prog.follows .mixedOrders = true := by kernel_rfl
section
theorem ok_szIntS : SzOk fnOf (Co.sl Co.int) false 52 := szFlat_ok rfl (fun _ => trivial)
theorem ok_szWriteS : SzOk fnOf (Co.sl Co.p2) false 53 := szFlat_ok rfl (fun _ => ⟨trivial, trivial⟩)
theorem ok_szSaidS : SzOk fnOf (Co.sl Co.p2) false 54 := szFlat_ok rfl (fun _ => ⟨trivial, trivial⟩)
theorem ok_szWordS : SzOk fnOf (Co.sl Co.word) false 55 := szFlat_ok rfl (fun _ => ⟨trivial, trivial, trivial, trivial, trivial, trivial, trivial⟩)
theorem ok_szWordSS : SzOk fnOf (Co.sl (Co.sl Co.word)) false 25 := szNest_ok rfl ok_szWordS rfl (va_sl Co.word)
theorem ok_szRun : SzOk fnOf Co.run true 24 := szRun_ok rfl ok_szIntS ok_szWriteS ok_szSaidS
theorem ok_szPart : SzOk fnOf Co.part true 6 := szPart_ok rfl ok_szRun ok_szWordSS
theorem ok_toIntS : ToOk fnOf (Co.sl Co.int) false .k 14 := toFlat_ok rfl
theorem ok_toWrite : ToOk fnOf Co.p2 true .q 83 := toWrite_ok rfl
theorem ok_toSaid : ToOk fnOf Co.p2 true .q 84 := toWrite_ok rfl
theorem ok_toWord : ToOk fnOf Co.word true .q 85 := toWord_ok rfl
theorem ok_toWriteS : ToOk fnOf (Co.sl Co.p2) false .k 56 := toCall_ok rfl rfl (by omega) ok_toWrite rfl (va_t Co.p2)
theorem ok_toSaidS : ToOk fnOf (Co.sl Co.p2) false .k 57 := toCall_ok rfl rfl (by omega) ok_toSaid rfl (va_t Co.p2)
theorem ok_toWordS : ToOk fnOf (Co.sl Co.word) false .k 58 := toCall_ok rfl rfl (by omega) ok_toWord rfl (va_t Co.word)
theorem ok_toWordSS : ToOk fnOf (Co.sl (Co.sl Co.word)) false .k 27 := toCall_ok rfl rfl (by omega) ok_toWordS rfl (va_sl Co.word)
theorem ok_toRun : ToOk fnOf Co.run true .k 26 := toRun_ok rfl ok_toIntS ok_toWriteS ok_toSaidS
theorem ok_toPart : ToOk fnOf Co.part true .k 8 := toPart_ok rfl ok_toRun ok_toWordSS
theorem ok_eqIntS : EqOk fnOf (Co.sl Co.int) false 17 := eqFlat_ok rfl
theorem ok_eqWrite : EqOk fnOf Co.p2 true 86 := eqWrite_ok rfl
theorem ok_eqSaid : EqOk fnOf Co.p2 true 87 := eqWrite_ok rfl
theorem ok_eqWord : EqOk fnOf Co.word true 49 := eqWord_ok rfl
theorem ok_eqWriteS : EqOk fnOf (Co.sl Co.p2) false 59 := eqCall_ok rfl ok_eqWrite rfl (va_t Co.p2)
theorem ok_eqSaidS : EqOk fnOf (Co.sl Co.p2) false 60 := eqCall_ok rfl ok_eqSaid rfl (va_t Co.p2)
theorem ok_eqWordS : EqOk fnOf (Co.sl Co.word) false 20 := eqCall_ok rfl ok_eqWord rfl (va_t Co.word)
theorem ok_eqWordSS : EqOk fnOf (Co.sl (Co.sl Co.word)) false 29 := eqCall_ok rfl ok_eqWordS rfl (va_sl Co.word)
theorem ok_eqRun : EqOk fnOf Co.run true 28 := eqRun_ok rfl ok_eqIntS ok_eqWriteS ok_eqSaidS
theorem ok_eqPart : EqOk fnOf Co.part true 10 := eqPart_ok rfl ok_eqRun ok_eqWordSS
theorem ok_law : ∀ (H : Heap) (v : Value) a, Rd Co.part true (vw 0 H) v a → QC fnOf 3 [v] H (.bool true) := law_ok rfl ok_szPart ok_toPart ok_eqPart (sPartCount_ok rfl) (iPartCount_ok rfl)
end
end Go.Proofs.YtkdhdklggdbgdaaI
