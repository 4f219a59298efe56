/- Texts of this proof, merged: K17, CL60. -/
import Derived.Test.YtbjeldblaclpnaaQd8
import Derived.Test.YtbjeldblaclpnaaQd11
import Derived.Test.YtbjeldblaclpnaaRows
section
/- The types of a program, opened. -/
set_option linter.unusedVariables false
set_option linter.unusedSimpArgs false
namespace Go.Proofs.YtbjeldblaclpnaaI
open Go Go.RowKit
theorem good_3 {T : Type} {enc : TypeId × Value → T} {w : World} {spare : Nat → Bool} {held : Bool} {n : Nat} {cs : List Value} {x : DataW T × List MemPlace} (h : DataW.trod enc Try.prog w 0 spare held n 3 cs = some x) : Good Co.int w cs := by
  obtain ⟨m, rfl, _, hw⟩ := DataW.trod_int Try.underlying3 h
  exact Good.int hw
theorem good_128 {T : Type} {enc : TypeId × Value → T} {w : World} {spare : Nat → Bool} {held : Bool} {n : Nat} {cs : List Value} {x : DataW T × List MemPlace} (h : DataW.trod enc Try.prog w 0 spare held n 128 cs = some x) : Good Co.p2 w cs := by
  obtain ⟨xs, n, rfl, rfl, hl, hlen, hf⟩ := DataW.trod_struct Try.underlying128 h
  have hn : Try.prog.cellsOf 128 = 2 := by kernel_rfl
  rw [hn] at hl
  have f0 : DataW.trod enc Try.prog w 0 spare held n 3 ((cs.drop 0).take (Try.prog.cellsOf 3)) = xs[0]? := hf 0 _ rfl
  rw [List.getElem?_eq_getElem (show 0 < xs.length by rw [hlen]; decide), show Try.prog.cellsOf 3 = 1 by kernel_rfl] at f0
  have f1 : DataW.trod enc Try.prog w 0 spare held n 3 ((cs.drop 1).take (Try.prog.cellsOf 3)) = xs[1]? := hf 1 _ rfl
  rw [List.getElem?_eq_getElem (show 1 < xs.length by rw [hlen]; decide), show Try.prog.cellsOf 3 = 1 by kernel_rfl] at f1
  have e : cs = ((cs.drop 0).take 1 ++ ((cs.drop 1).take 1)) := (cut (cs := cs) (o := 0) (s := 1)).trans (congrArg _ (cut_end (by rw [hl])))
  rw [e]
  exact ((good_3 f0).pair (good_3 f1))
theorem good_124 {T : Type} {enc : TypeId × Value → T} {w : World} {spare : Nat → Bool} {held : Bool} {n : Nat} {cs : List Value} {x : DataW T × List MemPlace} (h : DataW.trod enc Try.prog w 0 spare held n 124 cs = some x) : Good Co.val w cs := by
  obtain ⟨xs, n, rfl, rfl, hl, hlen, hf⟩ := DataW.trod_struct Try.underlying124 h
  have hn : Try.prog.cellsOf 124 = 3 := by kernel_rfl
  rw [hn] at hl
  have f0 : DataW.trod enc Try.prog w 0 spare held n 3 ((cs.drop 0).take (Try.prog.cellsOf 3)) = xs[0]? := hf 0 _ rfl
  rw [List.getElem?_eq_getElem (show 0 < xs.length by rw [hlen]; decide), show Try.prog.cellsOf 3 = 1 by kernel_rfl] at f0
  have f1 : DataW.trod enc Try.prog w 0 spare held n 3 ((cs.drop 1).take (Try.prog.cellsOf 3)) = xs[1]? := hf 1 _ rfl
  rw [List.getElem?_eq_getElem (show 1 < xs.length by rw [hlen]; decide), show Try.prog.cellsOf 3 = 1 by kernel_rfl] at f1
  have f2 : DataW.trod enc Try.prog w 0 spare held n 3 ((cs.drop 2).take (Try.prog.cellsOf 3)) = xs[2]? := hf 2 _ rfl
  rw [List.getElem?_eq_getElem (show 2 < xs.length by rw [hlen]; decide), show Try.prog.cellsOf 3 = 1 by kernel_rfl] at f2
  have e : cs = ((cs.drop 0).take 1 ++ (((cs.drop 1).take 1 ++ ((cs.drop 2).take 1)))) := (cut (cs := cs) (o := 0) (s := 1)).trans (congrArg _ ((cut (cs := cs) (o := 1) (s := 1)).trans (congrArg _ (cut_end (by rw [hl])))))
  rw [e]
  exact ((good_3 f0).pair ((good_3 f1).pair (good_3 f2)))
theorem good_27 {T : Type} {enc : TypeId × Value → T} {w : World} {spare : Nat → Bool} {held : Bool} {n : Nat} {cs : List Value} {x : DataW T × List MemPlace} (h : DataW.trod enc Try.prog w 0 spare held n 27 cs = some x) : Good (Co.sl Co.int) w cs :=
  Good.sl Try.underlying27 (by kernel_rfl) (by decide) h fun _ _ _ _ h => good_3 h
theorem good_42 {T : Type} {enc : TypeId × Value → T} {w : World} {spare : Nat → Bool} {held : Bool} {n : Nat} {cs : List Value} {x : DataW T × List MemPlace} (h : DataW.trod enc Try.prog w 0 spare held n 42 cs = some x) : Good (Co.sl Co.p2) w cs :=
  Good.sl Try.underlying42 (by kernel_rfl) (by decide) h fun _ _ _ _ h => good_128 h
theorem stepF0 {T : Type} {enc : TypeId × Value → T} {w : World} {spare : Nat → Bool} {held : Bool} : (∀ (cs : List Value) (x : DataW T × List MemPlace), DataW.trod enc Try.prog w 0 spare held (0) 126 cs = some x → Good (Co.step (dF (0))) w cs) := by
  intro cs x h
  rw [DataW.trod] at h
  cases h
theorem stepF1 {T : Type} {enc : TypeId × Value → T} {w : World} {spare : Nat → Bool} {held : Bool} : (∀ (cs : List Value) (x : DataW T × List MemPlace), DataW.trod enc Try.prog w 0 spare held (1) 126 cs = some x → Good (Co.step (dF (1))) w cs) := by
  intro cs x h
  obtain ⟨xs, n1, hn1, rfl, hl, hlen, hf⟩ := DataW.trod_struct Try.underlying126 h
  have hz : n1 = 0 := by omega
  subst hz
  have f0 : DataW.trod enc Try.prog w 0 spare held 0 3 ((cs.drop 0).take (Try.prog.cellsOf 3)) = xs[0]? := hf 0 _ rfl
  rw [List.getElem?_eq_getElem (show 0 < xs.length by rw [hlen]; decide), DataW.trod] at f0
  cases f0
theorem stepF2 {T : Type} {enc : TypeId × Value → T} {w : World} {spare : Nat → Bool} {held : Bool} {n : Nat} (ih : (∀ (cs : List Value) (x : DataW T × List MemPlace), DataW.trod enc Try.prog w 0 spare held (n) 126 cs = some x → Good (Co.step (dF (n))) w cs)) : (∀ (cs : List Value) (x : DataW T × List MemPlace), DataW.trod enc Try.prog w 0 spare held (n + 2) 126 cs = some x → Good (Co.step (dF (n + 2))) w cs) := by
  intro cs x h
  obtain ⟨xs, n1, hn1, rfl, hl, hlen, hf⟩ := DataW.trod_struct Try.underlying126 h
  have hn1' : n1 = n + 1 := by omega
  have sl43 : ∀ cs y, DataW.trod enc Try.prog w 0 spare held n1 43 cs = some y → Good (Co.sl (Co.step (dF n))) w cs := fun cs y hy =>
    Good.slF Try.underlying43 (by rw [step_w]; kernel_rfl) (by rw [step_w]; omega) hy fun n' cs' x' hn' hx' => by
      have : n' = n := by omega
      subst this
      exact ih cs' x' hx'
  have hn : Try.prog.cellsOf 126 = 8 := by kernel_rfl
  rw [hn] at hl
  have f0 : DataW.trod enc Try.prog w 0 spare held n1 3 ((cs.drop 0).take (Try.prog.cellsOf 3)) = xs[0]? := hf 0 _ rfl
  rw [List.getElem?_eq_getElem (show 0 < xs.length by rw [hlen]; decide), show Try.prog.cellsOf 3 = 1 by kernel_rfl] at f0
  have f1 : DataW.trod enc Try.prog w 0 spare held n1 3 ((cs.drop 1).take (Try.prog.cellsOf 3)) = xs[1]? := hf 1 _ rfl
  rw [List.getElem?_eq_getElem (show 1 < xs.length by rw [hlen]; decide), show Try.prog.cellsOf 3 = 1 by kernel_rfl] at f1
  have f2 : DataW.trod enc Try.prog w 0 spare held n1 124 ((cs.drop 2).take (Try.prog.cellsOf 124)) = xs[2]? := hf 2 _ rfl
  rw [List.getElem?_eq_getElem (show 2 < xs.length by rw [hlen]; decide), show Try.prog.cellsOf 124 = 3 by kernel_rfl] at f2
  have f3 : DataW.trod enc Try.prog w 0 spare held n1 3 ((cs.drop 5).take (Try.prog.cellsOf 3)) = xs[3]? := hf 3 _ rfl
  rw [List.getElem?_eq_getElem (show 3 < xs.length by rw [hlen]; decide), show Try.prog.cellsOf 3 = 1 by kernel_rfl] at f3
  have f4 : DataW.trod enc Try.prog w 0 spare held n1 43 ((cs.drop 6).take (Try.prog.cellsOf 43)) = xs[4]? := hf 4 _ rfl
  rw [List.getElem?_eq_getElem (show 4 < xs.length by rw [hlen]; decide), show Try.prog.cellsOf 43 = 1 by kernel_rfl] at f4
  have f5 : DataW.trod enc Try.prog w 0 spare held n1 43 ((cs.drop 7).take (Try.prog.cellsOf 43)) = xs[5]? := hf 5 _ rfl
  rw [List.getElem?_eq_getElem (show 5 < xs.length by rw [hlen]; decide), show Try.prog.cellsOf 43 = 1 by kernel_rfl] at f5
  have e : cs = ((cs.drop 0).take 1 ++ (((cs.drop 1).take 1 ++ (((cs.drop 2).take 3 ++ (((cs.drop 5).take 1 ++ (((cs.drop 6).take 1 ++ ((cs.drop 7).take 1)))))))))) := (cut (cs := cs) (o := 0) (s := 1)).trans (congrArg _ ((cut (cs := cs) (o := 1) (s := 1)).trans (congrArg _ ((cut (cs := cs) (o := 2) (s := 3)).trans (congrArg _ ((cut (cs := cs) (o := 5) (s := 1)).trans (congrArg _ ((cut (cs := cs) (o := 6) (s := 1)).trans (congrArg _ (cut_end (by rw [hl])))))))))))
  rw [e]
  have e8 : Good (Co.pair Co.int (Co.pair Co.int (Co.pair Co.val (Co.pair Co.int (Co.pair (Co.sl (Co.step (dF n))) (Co.sl (Co.step (dF n)))))))) w _ := ((good_3 f0).pair ((good_3 f1).pair ((good_124 f2).pair ((good_3 f3).pair ((sl43 _ _ f4).pair (sl43 _ _ f5))))))
  exact e8
theorem stepFF {T : Type} {enc : TypeId × Value → T} {w : World} {spare : Nat → Bool} {held : Bool} (n : Nat) : (∀ (cs : List Value) (x : DataW T × List MemPlace), DataW.trod enc Try.prog w 0 spare held (n) 126 cs = some x → Good (Co.step (dF (n))) w cs) ∧ (∀ (cs : List Value) (x : DataW T × List MemPlace), DataW.trod enc Try.prog w 0 spare held (n + 1) 126 cs = some x → Good (Co.step (dF (n + 1))) w cs) := by
  induction n with
  | zero => exact ⟨stepF0, stepF1⟩
  | succ n ih => exact ⟨ih.2, stepF2 ih.1⟩
theorem good_126 {T : Type} {enc : TypeId × Value → T} {w : World} {spare : Nat → Bool} {held : Bool} (n : Nat) {cs : List Value} {x : DataW T × List MemPlace} (h : DataW.trod enc Try.prog w 0 spare held n 126 cs = some x) : Good (Co.step (dF n)) w cs := (stepFF n).1 cs x h
theorem good_45 {T : Type} {enc : TypeId × Value → T} {w : World} {spare : Nat → Bool} {held : Bool} {n : Nat} {cs : List Value} {x : DataW T × List MemPlace} (h : DataW.trod enc Try.prog w 0 spare held n 45 cs = some x) : ∃ d, Good (Co.prog d) w cs := by
  obtain ⟨xs, n1, hn1, rfl, hl, hlen, hf⟩ := DataW.trod_struct Try.underlying45 h
  have hn : Try.prog.cellsOf 45 = 2 := by kernel_rfl
  rw [hn] at hl
  have f0 : DataW.trod enc Try.prog w 0 spare held n1 42 ((cs.drop 0).take (Try.prog.cellsOf 42)) = xs[0]? := hf 0 _ rfl
  rw [List.getElem?_eq_getElem (show 0 < xs.length by rw [hlen]; decide), show Try.prog.cellsOf 42 = 1 by kernel_rfl] at f0
  have f1 : DataW.trod enc Try.prog w 0 spare held n1 43 ((cs.drop 1).take (Try.prog.cellsOf 43)) = xs[1]? := hf 1 _ rfl
  rw [List.getElem?_eq_getElem (show 1 < xs.length by rw [hlen]; decide), show Try.prog.cellsOf 43 = 1 by kernel_rfl] at f1
  have e : cs = ((cs.drop 0).take 1 ++ ((cs.drop 1).take 1)) := (cut (cs := cs) (o := 0) (s := 1)).trans (congrArg _ (cut_end (by rw [hl])))
  refine ⟨dF (n1 - 1), ?_⟩
  rw [e]
  refine (good_42 f0).pair (Good.slF Try.underlying43 (by rw [step_w]; kernel_rfl) (by rw [step_w]; omega) f1 fun n' cs' x' hn' hx' => ?_)
  have : n1 - 1 = n' := by omega
  rw [this]
  exact good_126 n' hx'
theorem len_45 {T : Type} {enc : TypeId × Value → T} {w : World} {spare : Nat → Bool} {held : Bool} {n : Nat} {cs : List Value} {x : DataW T × List MemPlace} (h : DataW.trod enc Try.prog w 0 spare held n 45 cs = some x) : cs.length = 2 := by
  obtain ⟨xs, n, rfl, rfl, hl, hlen, hf⟩ := DataW.trod_struct Try.underlying45 h
  rw [hl]
  kernel_rfl
end Go.Proofs.YtbjeldblaclpnaaI
end
section
/- The law FnExactPlanFind, called in the model. -/
set_option linter.unusedVariables false
set_option linter.unusedSimpArgs false
namespace Go.Proofs.YtbjeldblaclpnaaI
open Go Go.RowKit
theorem lawEM_calls {W : World} {c0 : Array Value} {a : Option Addr} {l c : Nat} (g0 : ∃ d, Good (Co.prog d) W c0.toList) (g1 : Good (Co.sl Co.int) W [.slice a l c]) :
    Calls Try.prog 4 #[.agg c0, .slice a l c] W fun e w' => e = .returned (.bool true) ∧ Below W.heap.size W w' := by
  obtain ⟨d, g0⟩ := g0
  obtain ⟨p, L, m, cs0, s, q, r, e⟩ := g0 [] (fun _ => none) (SL.none _)
  rw [List.nil_append] at s r
  obtain ⟨ts, L2, m2, cs1, s2, q2, r2, e2⟩ := g1 L m s
  obtain ⟨u, rfl, hu⟩ := r2
  exact law_core hF hMixed s2 (vals := [.agg cs0.toArray, u]) (All2.cons (VR.agg_mk (e.mono fun _ _ _ h => VR1.mono q2 h)) (All2.cons (VR.one_mk e2) All2.nil))
    (ok_law _ d _ _ p ts ⟨cs0, rfl, (Co.prog d).mono (vw_app 0 L L2) r⟩ hu)
end Go.Proofs.YtbjeldblaclpnaaI
end
