/- The types of a part, opened. -/
import Derived.Test.YtkdhdklggdbgdaaI15
import Derived.Test.YtkdhdklggdbgdaaRows
set_option linter.unusedVariables false
set_option linter.unusedSimpArgs false
namespace Go.Proofs.YtkdhdklggdbgdaaI
open Go Go.RowKit
theorem good_3 {T : Type} {enc : TypeId × Value → T} {w : World} {spare : Nat → Bool} {held : Bool} {n : Nat} {cs : List Value} {x : DataW T × List MemPlace} (h : DataW.trod enc Try.prog w 0 spare held n 3 cs = some x) : Good Co.int w cs := by
  obtain ⟨m, rfl, _, hw⟩ := DataW.trod_int Try.underlying3 h
  exact Good.int hw
theorem good_4 {T : Type} {enc : TypeId × Value → T} {w : World} {spare : Nat → Bool} {held : Bool} {n : Nat} {cs : List Value} {x : DataW T × List MemPlace} (h : DataW.trod enc Try.prog w 0 spare held n 4 cs = some x) : Good Co.bool w cs := by
  obtain ⟨m, rfl, _⟩ := DataW.trod_bool Try.underlying4 h
  exact Good.bool
theorem good_123 {T : Type} {enc : TypeId × Value → T} {w : World} {spare : Nat → Bool} {held : Bool} {n : Nat} {cs : List Value} {x : DataW T × List MemPlace} (h : DataW.trod enc Try.prog w 0 spare held n 123 cs = some x) : Good Co.p2 w cs := by
  obtain ⟨xs, n, rfl, rfl, hl, hlen, hf⟩ := DataW.trod_struct Try.underlying123 h
  have hn : Try.prog.cellsOf 123 = 2 := by kernel_rfl
  rw [hn] at hl
  have f0 : DataW.trod enc Try.prog w 0 spare held n 3 ((cs.drop 0).take (Try.prog.cellsOf 3)) = xs[0]? := hf 0 _ rfl
  rw [List.getElem?_eq_getElem (show 0 < xs.length by rw [hlen]; decide), show Try.prog.cellsOf 3 = 1 by kernel_rfl] at f0
  have f1 : DataW.trod enc Try.prog w 0 spare held n 3 ((cs.drop 1).take (Try.prog.cellsOf 3)) = xs[1]? := hf 1 _ rfl
  rw [List.getElem?_eq_getElem (show 1 < xs.length by rw [hlen]; decide), show Try.prog.cellsOf 3 = 1 by kernel_rfl] at f1
  have e : cs = ((cs.drop 0).take 1 ++ ((cs.drop 1).take 1)) := (cut (cs := cs) (o := 0) (s := 1)).trans (congrArg _ (cut_end (by rw [hl])))
  rw [e]
  exact ((good_3 f0).pair (good_3 f1))
theorem len_123 {T : Type} {enc : TypeId × Value → T} {w : World} {spare : Nat → Bool} {held : Bool} {n : Nat} {cs : List Value} {x : DataW T × List MemPlace} (h : DataW.trod enc Try.prog w 0 spare held n 123 cs = some x) : cs.length = 2 := by
  obtain ⟨xs, n, rfl, rfl, hl, hlen, hf⟩ := DataW.trod_struct Try.underlying123 h
  rw [hl]
  kernel_rfl
theorem good_127 {T : Type} {enc : TypeId × Value → T} {w : World} {spare : Nat → Bool} {held : Bool} {n : Nat} {cs : List Value} {x : DataW T × List MemPlace} (h : DataW.trod enc Try.prog w 0 spare held n 127 cs = some x) : Good Co.p2 w cs := by
  obtain ⟨xs, n, rfl, rfl, hl, hlen, hf⟩ := DataW.trod_struct Try.underlying127 h
  have hn : Try.prog.cellsOf 127 = 2 := by kernel_rfl
  rw [hn] at hl
  have f0 : DataW.trod enc Try.prog w 0 spare held n 3 ((cs.drop 0).take (Try.prog.cellsOf 3)) = xs[0]? := hf 0 _ rfl
  rw [List.getElem?_eq_getElem (show 0 < xs.length by rw [hlen]; decide), show Try.prog.cellsOf 3 = 1 by kernel_rfl] at f0
  have f1 : DataW.trod enc Try.prog w 0 spare held n 3 ((cs.drop 1).take (Try.prog.cellsOf 3)) = xs[1]? := hf 1 _ rfl
  rw [List.getElem?_eq_getElem (show 1 < xs.length by rw [hlen]; decide), show Try.prog.cellsOf 3 = 1 by kernel_rfl] at f1
  have e : cs = ((cs.drop 0).take 1 ++ ((cs.drop 1).take 1)) := (cut (cs := cs) (o := 0) (s := 1)).trans (congrArg _ (cut_end (by rw [hl])))
  rw [e]
  exact ((good_3 f0).pair (good_3 f1))
theorem len_127 {T : Type} {enc : TypeId × Value → T} {w : World} {spare : Nat → Bool} {held : Bool} {n : Nat} {cs : List Value} {x : DataW T × List MemPlace} (h : DataW.trod enc Try.prog w 0 spare held n 127 cs = some x) : cs.length = 2 := by
  obtain ⟨xs, n, rfl, rfl, hl, hlen, hf⟩ := DataW.trod_struct Try.underlying127 h
  rw [hl]
  kernel_rfl
theorem good_129 {T : Type} {enc : TypeId × Value → T} {w : World} {spare : Nat → Bool} {held : Bool} {n : Nat} {cs : List Value} {x : DataW T × List MemPlace} (h : DataW.trod enc Try.prog w 0 spare held n 129 cs = some x) : Good Co.word w cs := by
  obtain ⟨xs, n, rfl, rfl, hl, hlen, hf⟩ := DataW.trod_struct Try.underlying129 h
  have hn : Try.prog.cellsOf 129 = 7 := by kernel_rfl
  rw [hn] at hl
  have f0 : DataW.trod enc Try.prog w 0 spare held n 3 ((cs.drop 0).take (Try.prog.cellsOf 3)) = xs[0]? := hf 0 _ rfl
  rw [List.getElem?_eq_getElem (show 0 < xs.length by rw [hlen]; decide), show Try.prog.cellsOf 3 = 1 by kernel_rfl] at f0
  have f1 : DataW.trod enc Try.prog w 0 spare held n 3 ((cs.drop 1).take (Try.prog.cellsOf 3)) = xs[1]? := hf 1 _ rfl
  rw [List.getElem?_eq_getElem (show 1 < xs.length by rw [hlen]; decide), show Try.prog.cellsOf 3 = 1 by kernel_rfl] at f1
  have f2 : DataW.trod enc Try.prog w 0 spare held n 3 ((cs.drop 2).take (Try.prog.cellsOf 3)) = xs[2]? := hf 2 _ rfl
  rw [List.getElem?_eq_getElem (show 2 < xs.length by rw [hlen]; decide), show Try.prog.cellsOf 3 = 1 by kernel_rfl] at f2
  have f3 : DataW.trod enc Try.prog w 0 spare held n 3 ((cs.drop 3).take (Try.prog.cellsOf 3)) = xs[3]? := hf 3 _ rfl
  rw [List.getElem?_eq_getElem (show 3 < xs.length by rw [hlen]; decide), show Try.prog.cellsOf 3 = 1 by kernel_rfl] at f3
  have f4 : DataW.trod enc Try.prog w 0 spare held n 3 ((cs.drop 4).take (Try.prog.cellsOf 3)) = xs[4]? := hf 4 _ rfl
  rw [List.getElem?_eq_getElem (show 4 < xs.length by rw [hlen]; decide), show Try.prog.cellsOf 3 = 1 by kernel_rfl] at f4
  have f5 : DataW.trod enc Try.prog w 0 spare held n 3 ((cs.drop 5).take (Try.prog.cellsOf 3)) = xs[5]? := hf 5 _ rfl
  rw [List.getElem?_eq_getElem (show 5 < xs.length by rw [hlen]; decide), show Try.prog.cellsOf 3 = 1 by kernel_rfl] at f5
  have f6 : DataW.trod enc Try.prog w 0 spare held n 3 ((cs.drop 6).take (Try.prog.cellsOf 3)) = xs[6]? := hf 6 _ rfl
  rw [List.getElem?_eq_getElem (show 6 < xs.length by rw [hlen]; decide), show Try.prog.cellsOf 3 = 1 by kernel_rfl] at f6
  have e : cs = ((cs.drop 0).take 1 ++ (((cs.drop 1).take 1 ++ (((cs.drop 2).take 1 ++ (((cs.drop 3).take 1 ++ (((cs.drop 4).take 1 ++ (((cs.drop 5).take 1 ++ ((cs.drop 6).take 1)))))))))))) := (cut (cs := cs) (o := 0) (s := 1)).trans (congrArg _ ((cut (cs := cs) (o := 1) (s := 1)).trans (congrArg _ ((cut (cs := cs) (o := 2) (s := 1)).trans (congrArg _ ((cut (cs := cs) (o := 3) (s := 1)).trans (congrArg _ ((cut (cs := cs) (o := 4) (s := 1)).trans (congrArg _ ((cut (cs := cs) (o := 5) (s := 1)).trans (congrArg _ (cut_end (by rw [hl])))))))))))))
  rw [e]
  exact ((good_3 f0).pair ((good_3 f1).pair ((good_3 f2).pair ((good_3 f3).pair ((good_3 f4).pair ((good_3 f5).pair (good_3 f6)))))))
theorem len_129 {T : Type} {enc : TypeId × Value → T} {w : World} {spare : Nat → Bool} {held : Bool} {n : Nat} {cs : List Value} {x : DataW T × List MemPlace} (h : DataW.trod enc Try.prog w 0 spare held n 129 cs = some x) : cs.length = 7 := by
  obtain ⟨xs, n, rfl, rfl, hl, hlen, hf⟩ := DataW.trod_struct Try.underlying129 h
  rw [hl]
  kernel_rfl
theorem good_22 {T : Type} {enc : TypeId × Value → T} {w : World} {spare : Nat → Bool} {held : Bool} {n : Nat} {cs : List Value} {x : DataW T × List MemPlace} (h : DataW.trod enc Try.prog w 0 spare held n 22 cs = some x) : Good (Co.sl Co.int) w cs :=
  Good.sl Try.underlying22 (by kernel_rfl) (by decide) h fun _ _ _ _ h => good_3 h
theorem good_23 {T : Type} {enc : TypeId × Value → T} {w : World} {spare : Nat → Bool} {held : Bool} {n : Nat} {cs : List Value} {x : DataW T × List MemPlace} (h : DataW.trod enc Try.prog w 0 spare held n 23 cs = some x) : Good (Co.sl Co.p2) w cs :=
  Good.sl Try.underlying23 (by kernel_rfl) (by decide) h fun _ _ _ _ h => good_123 h
theorem good_24 {T : Type} {enc : TypeId × Value → T} {w : World} {spare : Nat → Bool} {held : Bool} {n : Nat} {cs : List Value} {x : DataW T × List MemPlace} (h : DataW.trod enc Try.prog w 0 spare held n 24 cs = some x) : Good (Co.sl Co.p2) w cs :=
  Good.sl Try.underlying24 (by kernel_rfl) (by decide) h fun _ _ _ _ h => good_127 h
theorem good_26 {T : Type} {enc : TypeId × Value → T} {w : World} {spare : Nat → Bool} {held : Bool} {n : Nat} {cs : List Value} {x : DataW T × List MemPlace} (h : DataW.trod enc Try.prog w 0 spare held n 26 cs = some x) : Good Co.run w cs := by
  obtain ⟨xs, n, rfl, rfl, hl, hlen, hf⟩ := DataW.trod_struct Try.underlying26 h
  have hn : Try.prog.cellsOf 26 = 3 := by kernel_rfl
  rw [hn] at hl
  have f0 : DataW.trod enc Try.prog w 0 spare held n 22 ((cs.drop 0).take (Try.prog.cellsOf 22)) = xs[0]? := hf 0 _ rfl
  rw [List.getElem?_eq_getElem (show 0 < xs.length by rw [hlen]; decide), show Try.prog.cellsOf 22 = 1 by kernel_rfl] at f0
  have f1 : DataW.trod enc Try.prog w 0 spare held n 23 ((cs.drop 1).take (Try.prog.cellsOf 23)) = xs[1]? := hf 1 _ rfl
  rw [List.getElem?_eq_getElem (show 1 < xs.length by rw [hlen]; decide), show Try.prog.cellsOf 23 = 1 by kernel_rfl] at f1
  have f2 : DataW.trod enc Try.prog w 0 spare held n 24 ((cs.drop 2).take (Try.prog.cellsOf 24)) = xs[2]? := hf 2 _ rfl
  rw [List.getElem?_eq_getElem (show 2 < xs.length by rw [hlen]; decide), show Try.prog.cellsOf 24 = 1 by kernel_rfl] at f2
  have e : cs = ((cs.drop 0).take 1 ++ (((cs.drop 1).take 1 ++ ((cs.drop 2).take 1)))) := (cut (cs := cs) (o := 0) (s := 1)).trans (congrArg _ ((cut (cs := cs) (o := 1) (s := 1)).trans (congrArg _ (cut_end (by rw [hl])))))
  rw [e]
  exact ((good_22 f0).pair ((good_23 f1).pair (good_24 f2)))
theorem len_26 {T : Type} {enc : TypeId × Value → T} {w : World} {spare : Nat → Bool} {held : Bool} {n : Nat} {cs : List Value} {x : DataW T × List MemPlace} (h : DataW.trod enc Try.prog w 0 spare held n 26 cs = some x) : cs.length = 3 := by
  obtain ⟨xs, n, rfl, rfl, hl, hlen, hf⟩ := DataW.trod_struct Try.underlying26 h
  rw [hl]
  kernel_rfl
theorem good_93 {T : Type} {enc : TypeId × Value → T} {w : World} {spare : Nat → Bool} {held : Bool} {n : Nat} {cs : List Value} {x : DataW T × List MemPlace} (h : DataW.trod enc Try.prog w 0 spare held n 93 cs = some x) : Good (Co.sl Co.word) w cs :=
  Good.sl Try.underlying93 (by kernel_rfl) (by decide) h fun _ _ _ _ h => good_129 h
theorem good_27 {T : Type} {enc : TypeId × Value → T} {w : World} {spare : Nat → Bool} {held : Bool} {n : Nat} {cs : List Value} {x : DataW T × List MemPlace} (h : DataW.trod enc Try.prog w 0 spare held n 27 cs = some x) : Good (Co.sl (Co.sl Co.word)) w cs :=
  Good.sl Try.underlying27 (by kernel_rfl) (by decide) h fun _ _ _ _ h => good_93 h
theorem good_29 {T : Type} {enc : TypeId × Value → T} {w : World} {spare : Nat → Bool} {held : Bool} {n : Nat} {cs : List Value} {x : DataW T × List MemPlace} (h : DataW.trod enc Try.prog w 0 spare held n 29 cs = some x) : Good Co.part w cs := by
  obtain ⟨xs, n, rfl, rfl, hl, hlen, hf⟩ := DataW.trod_struct Try.underlying29 h
  have hn : Try.prog.cellsOf 29 = 5 := by kernel_rfl
  rw [hn] at hl
  have f0 : DataW.trod enc Try.prog w 0 spare held n 26 ((cs.drop 0).take (Try.prog.cellsOf 26)) = xs[0]? := hf 0 _ rfl
  rw [List.getElem?_eq_getElem (show 0 < xs.length by rw [hlen]; decide), show Try.prog.cellsOf 26 = 3 by kernel_rfl] at f0
  have f1 : DataW.trod enc Try.prog w 0 spare held n 27 ((cs.drop 3).take (Try.prog.cellsOf 27)) = xs[1]? := hf 1 _ rfl
  rw [List.getElem?_eq_getElem (show 1 < xs.length by rw [hlen]; decide), show Try.prog.cellsOf 27 = 1 by kernel_rfl] at f1
  have f2 : DataW.trod enc Try.prog w 0 spare held n 4 ((cs.drop 4).take (Try.prog.cellsOf 4)) = xs[2]? := hf 2 _ rfl
  rw [List.getElem?_eq_getElem (show 2 < xs.length by rw [hlen]; decide), show Try.prog.cellsOf 4 = 1 by kernel_rfl] at f2
  have e : cs = ((cs.drop 0).take 3 ++ (((cs.drop 3).take 1 ++ ((cs.drop 4).take 1)))) := (cut (cs := cs) (o := 0) (s := 3)).trans (congrArg _ ((cut (cs := cs) (o := 3) (s := 1)).trans (congrArg _ (cut_end (by rw [hl])))))
  rw [e]
  exact ((good_26 f0).pair ((good_27 f1).pair (good_4 f2)))
theorem len_29 {T : Type} {enc : TypeId × Value → T} {w : World} {spare : Nat → Bool} {held : Bool} {n : Nat} {cs : List Value} {x : DataW T × List MemPlace} (h : DataW.trod enc Try.prog w 0 spare held n 29 cs = some x) : cs.length = 5 := by
  obtain ⟨xs, n, rfl, rfl, hl, hlen, hf⟩ := DataW.trod_struct Try.underlying29 h
  rw [hl]
  kernel_rfl
end Go.Proofs.YtkdhdklggdbgdaaI
