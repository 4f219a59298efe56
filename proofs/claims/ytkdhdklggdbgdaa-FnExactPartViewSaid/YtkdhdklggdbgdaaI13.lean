/- Structs: what the copies and tests of structs lean on. -/
import Derived.Test.YtkdhdklggdbgdaaI12
set_option linter.unusedVariables false
set_option linter.unusedSimpArgs false
namespace Go.Proofs.YtkdhdklggdbgdaaI
open Go Go.RowKit

attribute [go_sem] Nat.le_add_right Nat.le_refl
def Co.p2 : Co (Int × Int) := Co.pair Co.int Co.int
def Co.word : Co (Int × Int × Int × Int × Int × Int × Int) := Co.pair Co.int (Co.pair Co.int (Co.pair Co.int (Co.pair Co.int (Co.pair Co.int (Co.pair Co.int Co.int)))))
def Co.run : Co (List Int × List (Int × Int) × List (Int × Int)) := Co.pair (Co.sl Co.int) (Co.pair (Co.sl Co.p2) (Co.sl Co.p2))
def Co.part : Co ((List Int × List (Int × Int) × List (Int × Int)) × List (List (Int × Int × Int × Int × Int × Int × Int)) × Bool) := Co.pair Co.run (Co.pair (Co.sl (Co.sl Co.word)) Co.bool)
theorem SlR.shape {α : Type} {A : Co α} {V : Vw} {v : Value} {l : List α} (h : SlR A V v l) : ∃ a, v = .slice a l.length l.length := h.2.imp fun _ h => h.1
@[go_sem] theorem one_slice (a : Option Addr) (n c : Nat) : one (.slice a n c) = true := rfl
@[go_sem] theorem drop_new (H L : Heap) (k : Nat) : (H ++ L).drop (H.length + k) = L.drop k := by
  rw [List.drop_append, List.drop_of_length_le (by omega), List.nil_append]; congr 1; omega
theorem vw_in {lo lo' : Nat} (base : Nat) {H1 H2 : Heap} (M N : Heap) (h1 : base ≤ lo) (h2 : lo' ≤ base) (e1 : H1.drop base = M) (e2 : H2.drop base = M ++ N) : Sub (vw lo H1) (vw lo' H2) := by
  refine vw_grow (by omega) fun b h3 h4 => ?_
  obtain ⟨k, rfl⟩ : ∃ k, b = base + k := ⟨b - base, by omega⟩
  have hk : k < M.length := by rw [← e1, List.length_drop]; omega
  rw [← List.getElem?_drop, ← List.getElem?_drop, e1, e2, List.getElem?_append_left hk]
theorem va_t : ∀ {α : Type} (A : Co α) (V : Vw) (cs : List Value) (a : α), A.rd V cs a → ∃ v, valOf true cs = some v := fun _ _ cs _ _ => ⟨_, rfl⟩
theorem va_sl : ∀ {α : Type} (A : Co α) (V : Vw) (cs : List Value) (a : List α), (Co.sl A).rd V cs a → ∃ v, valOf false cs = some v := fun _ _ cs _ ⟨v, h, _⟩ => ⟨v, by rw [h]; rfl⟩
theorem QC.mkE {F : Nat → Option IFn} {H : Heap} {f np nt : Nat} {rs : List IRes} {body : ICode} {args : List Value} {Q : Value → Prop} (hf : F f = some ⟨np, nt, rs, body⟩) (hl : args.length = np) (h : wpc F H.length body (ini args) H (fin rs fun w _ => Q w ∧ scal w = true)) : ∃ v, QC F f args H v ∧ Q v := by
  obtain ⟨x, e1, H1, h1, h2, w, h3, h4, h5⟩ := h
  exact ⟨w, ⟨_, x, e1, H1, hf, hl, h1, h2, h3, h5⟩, h4⟩
end Go.Proofs.YtkdhdklggdbgdaaI
