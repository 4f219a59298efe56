/- Texts of this proof, merged: K9, K10, K11, K12, K13, K14, K15, K18. -/
import Derived.Test.YtiekbdijpfnagaaPx10
section
/- Where a variable may be, who may do a step (the reference's, of what is looked at). -/
set_option linter.unusedVariables false
set_option linter.unusedSimpArgs false
namespace Go.Proofs.YtiekbdijpfnagaaI
open Go Go.RowKit
def c_lHome : IFn := ⟨3, 37, [.t 6],
 .seq (.reg none [
    ⟨(some 6), none, .mov (.c (.bool false))⟩])
 (.seq (.reg (some 28) [
    ⟨(some 7), none, .mov (.t 0)⟩,
    ⟨(some 8), none, .nilck (.t 7)⟩,
    ⟨(some 9), none, .fad 0 (.t 8)⟩,
    ⟨(some 10), none, .fad 0 (.t 9)⟩,
    ⟨(some 11), none, .load false 1 (.t 10)⟩,
    ⟨(some 12), none, .mov (.t 1)⟩,
    ⟨(some 13), none, .iad 2 (.t 11) (.t 12)⟩,
    ⟨(some 14), none, .fad 0 (.t 13)⟩,
    ⟨(some 15), none, .load false 1 (.t 14)⟩,
    ⟨(some 16), none, .mov (.t 2)⟩,
    ⟨(some 17), none, .call .q (.f 100) [(.t 15), (.t 16)]⟩,
    ⟨(some 18), none, .mov (.t 17)⟩,
    ⟨(some 19), (some (18, true)), .mov (.t 0)⟩,
    ⟨(some 20), (some (18, true)), .nilck (.t 19)⟩,
    ⟨(some 21), (some (18, true)), .fad 0 (.t 20)⟩,
    ⟨(some 22), (some (18, true)), .fad 0 (.t 21)⟩,
    ⟨(some 23), (some (18, true)), .load false 1 (.t 22)⟩,
    ⟨(some 24), (some (18, true)), .mov (.t 1)⟩,
    ⟨(some 25), (some (18, true)), .iad 2 (.t 23) (.t 24)⟩,
    ⟨(some 26), (some (18, true)), .fad 1 (.t 25)⟩,
    ⟨(some 27), (some (18, true)), .load false 1 (.t 26)⟩,
    ⟨(some 28), (some (18, true)), .mov (.t 0)⟩,
    ⟨(some 29), (some (18, true)), .nilck (.t 28)⟩,
    ⟨(some 30), (some (18, true)), .fad 6 (.t 29)⟩,
    ⟨(some 31), (some (18, true)), .load false 1 (.t 30)⟩,
    ⟨(some 32), (some (18, true)), .mov (.t 2)⟩,
    ⟨(some 33), (some (18, true)), .iad 1 (.t 31) (.t 32)⟩,
    ⟨(some 34), (some (18, true)), .load false 1 (.t 33)⟩,
    ⟨(some 35), (some (18, true)), .call .q (.f 131) [(.t 27), (.t 34)]⟩,
    ⟨(some 36), none, .pick (.t 18) (.t 35) (.c (.bool false))⟩,
    ⟨(some 6), none, .mov (.t 36)⟩])
 (.ret))⟩
def c_lStep : IFn := ⟨4, 99, [.t 8],
 .seq (.reg none [
    ⟨(some 8), none, .mov (.c (.bool false))⟩])
 (.seq (.reg none [
    ⟨(some 13), none, .mov (.t 0)⟩,
    ⟨(some 14), none, .nilck (.t 13)⟩,
    ⟨(some 15), none, .fad 3 (.t 14)⟩,
    ⟨(some 16), none, .load false 1 (.t 15)⟩,
    ⟨(some 17), none, .mov (.t 2)⟩,
    ⟨(some 18), none, .iad 8 (.t 16) (.t 17)⟩,
    ⟨(some 19), none, .load true 8 (.t 18)⟩,
    ⟨(some 9), none, .new [(.int .i64 0), (.int .i64 0), (.int .i64 0), (.int .i64 0), (.int .i64 0), (.int .i64 0), (.slice none 0 0), (.slice none 0 0)]⟩,
    ⟨none, none, .store 8 (.t 9) (.t 19)⟩])
 (.seq (.reg none [
    ⟨(some 20), none, .mov (.t 0)⟩,
    ⟨(some 21), none, .nilck (.t 20)⟩,
    ⟨(some 22), none, .fad 4 (.t 21)⟩,
    ⟨(some 23), none, .load false 1 (.t 22)⟩,
    ⟨(some 24), none, .mov (.t 2)⟩,
    ⟨(some 25), none, .iad 2 (.t 23) (.t 24)⟩,
    ⟨(some 26), none, .load true 2 (.t 25)⟩,
    ⟨(some 10), none, .new [(.int .i64 0), (.int .i64 0)]⟩,
    ⟨none, none, .store 2 (.t 10) (.t 26)⟩])
 (.seq (.seq (.reg (some 20) [
     ⟨(some 27), none, .fad 0 (.t 10)⟩,
     ⟨(some 28), none, .load false 1 (.t 27)⟩,
     ⟨(some 29), none, .mov (.t 3)⟩,
     ⟨(some 30), none, .call .q (.f 100) [(.t 28), (.t 29)]⟩,
     ⟨(some 31), none, .un .not (.t 30)⟩,
     ⟨(some 32), none, .mov (.t 31)⟩,
     ⟨(some 33), (some (32, false)), .mov (.t 0)⟩,
     ⟨(some 34), (some (32, false)), .nilck (.t 33)⟩,
     ⟨(some 35), (some (32, false)), .fad 5 (.t 34)⟩,
     ⟨(some 36), (some (32, false)), .load false 1 (.t 35)⟩,
     ⟨(some 37), (some (32, false)), .mov (.t 2)⟩,
     ⟨(some 38), (some (32, false)), .iad 1 (.t 36) (.t 37)⟩,
     ⟨(some 39), (some (32, false)), .load false 1 (.t 38)⟩,
     ⟨(some 40), (some (32, false)), .mov (.t 0)⟩,
     ⟨(some 41), (some (32, false)), .nilck (.t 40)⟩,
     ⟨(some 42), (some (32, false)), .fad 6 (.t 41)⟩,
     ⟨(some 43), (some (32, false)), .load false 1 (.t 42)⟩,
     ⟨(some 44), (some (32, false)), .mov (.t 3)⟩,
     ⟨(some 45), (some (32, false)), .iad 1 (.t 43) (.t 44)⟩,
     ⟨(some 46), (some (32, false)), .load false 1 (.t 45)⟩,
     ⟨(some 47), (some (32, false)), .call .q (.f 131) [(.t 39), (.t 46)]⟩,
     ⟨(some 48), (some (32, false)), .un .not (.t 47)⟩,
     ⟨(some 49), none, .pick (.t 32) (.c (.bool true)) (.t 48)⟩])
  (.cond (.t 49) (.seq (.reg none [
      ⟨(some 8), none, .mov (.c (.bool false))⟩])
   (.ret)) (.skip)))
 (.seq (.reg none [
    ⟨(some 50), none, .load true 8 (.t 9)⟩,
    ⟨(some 51), none, .call .k (.f 135) [(.t 50)]⟩,
    ⟨(some 11), none, .mov (.t 51)⟩])
 (.seq (.seq (.reg none [
     ⟨(some 12), none, .mov (.c (.int .i64 0))⟩])
  (.block 0 (.loop (.seq (.seq (.reg none [
        ⟨(some 52), none, .mov (.t 12)⟩,
        ⟨(some 53), none, .mov (.t 11)⟩,
        ⟨(some 54), none, .len (.t 53)⟩,
        ⟨(some 55), none, .bin .lss (.t 52) (.t 54)⟩])
     (.cond (.t 55) (.skip) (.exit 0)))
    (.seq (.block 1 (.seq (.reg (some 25) [
         ⟨(some 58), none, .mov (.t 0)⟩,
         ⟨(some 59), none, .nilck (.t 58)⟩,
         ⟨(some 60), none, .fad 0 (.t 59)⟩,
         ⟨(some 61), none, .fad 0 (.t 60)⟩,
         ⟨(some 62), none, .load false 1 (.t 61)⟩,
         ⟨(some 63), none, .mov (.t 11)⟩,
         ⟨(some 64), none, .mov (.t 12)⟩,
         ⟨(some 65), none, .iad 1 (.t 63) (.t 64)⟩,
         ⟨(some 66), none, .load false 1 (.t 65)⟩,
         ⟨(some 67), none, .iad 2 (.t 62) (.t 66)⟩,
         ⟨(some 68), none, .fad 0 (.t 67)⟩,
         ⟨(some 69), none, .load false 1 (.t 68)⟩,
         ⟨(some 70), none, .mov (.t 3)⟩,
         ⟨(some 71), none, .call .q (.f 100) [(.t 69), (.t 70)]⟩,
         ⟨(some 72), none, .un .not (.t 71)⟩,
         ⟨(some 73), none, .mov (.t 72)⟩,
         ⟨(some 74), (some (73, false)), .fad 0 (.t 10)⟩,
         ⟨(some 75), (some (73, false)), .load false 1 (.t 74)⟩,
         ⟨(some 76), (some (73, false)), .mov (.t 1)⟩,
         ⟨(some 77), (some (73, false)), .mov (.t 11)⟩,
         ⟨(some 78), (some (73, false)), .mov (.t 12)⟩,
         ⟨(some 79), (some (73, false)), .iad 1 (.t 77) (.t 78)⟩,
         ⟨(some 80), (some (73, false)), .load false 1 (.t 79)⟩,
         ⟨(some 81), (some (73, false)), .iad 1 (.t 76) (.t 80)⟩,
         ⟨(some 82), (some (73, false)), .load false 1 (.t 81)⟩,
         ⟨(some 83), (some (73, false)), .call .q (.f 100) [(.t 75), (.t 82)]⟩,
         ⟨(some 84), (some (73, false)), .un .not (.t 83)⟩,
         ⟨(some 85), none, .pick (.t 73) (.c (.bool true)) (.t 84)⟩])
      (.cond (.t 85) (.seq (.reg none [
          ⟨(some 8), none, .mov (.c (.bool false))⟩])
       (.ret)) (.skip))))
    (.reg none [
      ⟨(some 56), none, .mov (.t 12)⟩,
      ⟨(some 57), none, .bin .add (.t 56) (.c (.int .i64 1))⟩,
      ⟨(some 12), none, .mov (.t 57)⟩]))))))
 (.seq (.reg (some 11) [
    ⟨(some 86), none, .fad 0 (.t 9)⟩,
    ⟨(some 87), none, .load false 1 (.t 86)⟩,
    ⟨(some 88), none, .bin .neq (.t 87) (.c (.int .i64 1))⟩,
    ⟨(some 89), none, .mov (.t 88)⟩,
    ⟨(some 90), (some (89, false)), .fad 0 (.t 10)⟩,
    ⟨(some 91), (some (89, false)), .load false 1 (.t 90)⟩,
    ⟨(some 92), (some (89, false)), .mov (.t 1)⟩,
    ⟨(some 93), (some (89, false)), .fad 1 (.t 9)⟩,
    ⟨(some 94), (some (89, false)), .load false 1 (.t 93)⟩,
    ⟨(some 95), (some (89, false)), .iad 1 (.t 92) (.t 94)⟩,
    ⟨(some 96), (some (89, false)), .load false 1 (.t 95)⟩,
    ⟨(some 97), (some (89, false)), .call .q (.f 100) [(.t 91), (.t 96)]⟩,
    ⟨(some 98), none, .pick (.t 89) (.c (.bool true)) (.t 97)⟩,
    ⟨(some 8), none, .mov (.t 98)⟩])
 (.ret)))))))⟩
theorem byL_at (ts : List Int) {h : Int} (h0 : 0 ≤ h) (h2 : h ≤ 2) : ∃ hl : h.toNat < (byL ts).length, (byL ts)[h.toNat] = byS ts h 3 := by
  have hh : h = 0 ∨ h = 1 ∨ h = 2 := by omega
  rcases hh with rfl | rfl | rfl <;> exact ⟨by simp [byL], rfl⟩
def LHome (F : Nat → Option IFn) (f : Nat) : Prop := ∀ (H : Heap) (W n : Nat) (ls : List (Int × Int)) (l : List (TStep n)) (ts : List Int) (v h : Int), LookR H W n ls l ts → ls.all labB = true → 0 ≤ v → v < ls.length → 0 ≤ h → h ≤ 2 → QC F f [ptr W 0, .int .i64 v, .int .i64 h] H (.bool (hmB ls ts v h))
theorem lHome_ok {F : Nat → Option IFn} {f : Nat} (hf : F f = some c_lHome) (gh : HasOk F 100) (gw : WitOk F 131) : LHome F f := by
  intro H W n ls l ts v h hL hlab hv0 hv1 hh0 hh2
  obtain ⟨lv, sv, tw, li, la, se, bv, osv, hW, r1, r2, r3, r4, r5, r6⟩ := hL.ex
  have hlx := labB_i.1 (lab_getD hlab v.toNat)
  have hby := byS_lt ts h 3
  have h8 : (2 : Int) ^ 3 = 8 := by decide
  rw [h8] at hby
  obtain ⟨_, lva, rfl, _⟩ := id r1
  obtain ⟨_, bva, rfl, _⟩ := id r6
  obtain ⟨hbl, hbe⟩ := byL_at ts hh0 hh2
  obtain ⟨bb, bo, hbv, hbg⟩ := gcJ r6 hbl
  simp only [Value.slice.injEq, and_true] at hbv
  subst hbv
  rw [hbe] at hbg
  have hb3 : (byL ts).length = 3 := rfl
  obtain ⟨lb, lo', hla, hgl0, _⟩ := lab_at r1 (H := H) (fun _ _ h => h) hv0 hv1
  simp only [Value.slice.injEq, and_true] at hla
  subst hla
  have hgl := hgl0 []
  rw [List.append_nil] at hgl
  have g0 : getCells H lb (lo' + v.toNat * 2) 1 = some [.int .i64 (ls.getD v.toNat (0, 0)).1] := by have := gc_part (off := 0) (k := 1) hgl (by omega); simpa using this
  have g1 : getCells H lb (lo' + v.toNat * 2 + 1) 1 = some [.int .i64 (ls.getD v.toNat (0, 0)).2] := gc_part (off := 1) (k := 1) hgl (by omega)
  refine QC.mk hf rfl ?_
  refine seq_reg ?_
  simp only [go_sem, binC]
  refine seq_regD ?_
  simp only [go_sem, binC, gc_of hW, inBlk_some]
  refine ⟨⟨by omega, by omega⟩, ?_⟩
  simp only [go_sem, binC, g0]
  refine op_callQ (by simp only [go_sem, binC]; exact gh H _ h hlx.1.1 hlx.1.2) ?_
  unfold hmB
  cases q1 : hasB (ls.getD v.toNat (0, 0)).1 h with
  | false =>
    simp only [go_sem, binC]
    exact wpc_ret ⟨Or.inr rfl, _, (by (simp only [go_sem, binC]) <;> rfl), rfl, rfl⟩
  | true =>
    simp only [go_sem, binC, gc_of hW, inBlk_some]
    refine ⟨⟨by omega, by omega⟩, ?_⟩
    simp only [go_sem, binC, g1, gc_of hW, inBlk_some]
    refine ⟨⟨by omega, by omega⟩, ?_⟩
    simp only [go_sem, binC, Nat.mul_one, hbg]
    refine op_callQ (by simp only [go_sem, binC]; exact gw H _ _ hlx.2.1 hlx.2.2 hby.1 (by omega)) ?_
    simp only [go_sem, binC]
    exact wpc_ret ⟨Or.inr rfl, _, (by (simp only [go_sem, binC]) <;> rfl), rfl, rfl⟩
theorem slA_at {H : Heap} {v : Value} {l : List AnyS} (h : SlR Co.anyS (vw 0 H) v l) {i : Nat} (hi : i < l.length) : ∃ b o cs, v = .slice (some ⟨b, o, none⟩) l.length l.length ∧ getCells H b (o + i * 8) 8 = some cs ∧ Co.anyS.rd (vw 0 H) cs l[i] := by
  obtain ⟨h0, a, rfl, h1⟩ := h
  obtain ⟨b, o, rfl, h2⟩ := h1.resolve_left (fun h => by rw [h] at hi; simp at hi)
  obtain ⟨cs, h3, h4⟩ := h2 i hi
  have h5 := rng_gc h3
  exact ⟨b, o, cs, rfl, h5, h4⟩
theorem slP_at {H : Heap} {v : Value} {l : List (Int × Int)} (h : SlR Co.p2 (vw 0 H) v l) {i : Nat} (hi : i < l.length) : ∃ b o, v = .slice (some ⟨b, o, none⟩) l.length l.length ∧ getCells H b (o + i * 2) 2 = some [.int .i64 l[i].1, .int .i64 l[i].2] := by
  obtain ⟨h0, a, rfl, h1⟩ := h
  obtain ⟨b, o, rfl, h2⟩ := h1.resolve_left (fun h => by rw [h] at hi; simp at hi)
  obtain ⟨cs, h3, h4⟩ := h2 i hi
  have h5 := rng_gc h3
  obtain ⟨_, _, rfl, ⟨hq1, _⟩, ⟨hq2, _⟩⟩ := h4
  subst hq1 hq2
  exact ⟨b, o, rfl, h5⟩
/-- Whether a host may do the j-th step. -/
def doN (n : Nat) (ls : List (Int × Int)) (l : List (TStep n)) (ts homes : List Int) (j : Nat) (h : Int) : Bool := match (allSL n l)[j]?, (atL n ls (7, 7) l)[j]? with
  | some s, some own => doesB ls ts homes (shA s) (stA ls s) own h
  | _, _ => false
theorem doN_eq {n : Nat} {ls : List (Int × Int)} {l : List (TStep n)} {ts homes : List Int} {j : Nat} {h : Int} (h1 : j < (allSL n l).length) (h2 : j < (atL n ls (7, 7) l).length) : doN n ls l ts homes j h = doesB ls ts homes (shA (allSL n l)[j]) (stA ls (allSL n l)[j]) (atL n ls (7, 7) l)[j] h := by
  unfold doN
  rw [List.getElem?_eq_getElem h1, List.getElem?_eq_getElem h2]
def LStep (F : Nat → Option IFn) (f : Nat) : Prop := ∀ (H : Heap) (W n : Nat) (ls : List (Int × Int)) (l : List (TStep n)) (ts : List Int) (hw : Value) (homes : List Int) (j : Nat) (h : Int), LookR H W n ls l ts → progB n (ls, l) = true → SlR Co.int (vw 0 H) hw homes → homesP ls.length homes → j < (allSL n l).length → 0 ≤ h → h ≤ 2 → QC F f [ptr W 0, hw, .int .i64 j, .int .i64 h] H (.bool (doN n ls l ts homes j h))
theorem lStep_ok {F : Nat → Option IFn} {f : Nat} (hf : F f = some c_lStep) (gh : HasOk F 100) (gw : WitOk F 131) (gm : MakesOk F 135) : LStep F f := by
  intro H W n ls l ts hw homes j h hL hP rh hho hj hh0 hh2
  have hlab : ls.all labB = true := progB_lab hP
  have hatl := atL_len ls (7, 7) l
  have hsl := allSL_len l
  have hja : j < (atL n ls (7, 7) l).length := by omega
  obtain ⟨lv, sv, tw, li, la, se, bv, osv, hW, r1, r2, r3, r4, r5, r6⟩ := hL.ex
  have hokA := progB_okA hP (List.getElem_mem hj)
  have hown : labB (atL n ls (7, 7) l)[j] = true := List.all_eq_true.1 (atL_lab hlab rfl l) _ (List.getElem_mem hja)
  rw [doN_eq hj hja]
  obtain ⟨_, lva, rfl, _⟩ := id r1
  obtain ⟨_, ha, rfl, _⟩ := id rh
  obtain ⟨_, sea, rfl, hse⟩ := id r5
  obtain ⟨_, bva, rfl, _⟩ := id r6
  obtain ⟨hbl, hbe⟩ := byL_at ts hh0 hh2
  obtain ⟨bb, bo, hbv, hbg⟩ := gcJ r6 hbl
  simp only [Value.slice.injEq, and_true] at hbv
  subst hbv
  rw [hbe] at hbg
  have hb3 : (byL ts).length = 3 := rfl
  have hsel : (setsA n ls l).length = (allSL n l).length := by unfold setsA; rw [List.length_map]
  obtain ⟨sb, so, hsv, hsg⟩ := gcJ r5 (i := j) (by omega)
  have hsei : (setsA n ls l)[j]'(by omega) = stA ls (allSL n l)[j] := by unfold setsA; rw [List.getElem_map]
  rw [hsei] at hsg
  simp only [Value.slice.injEq, and_true] at hsv
  subst hsv
  obtain ⟨lib, lio, css, hli, gcs, rds⟩ := slA_at r3 hj
  subst hli
  obtain ⟨lab, lao, hla, gca⟩ := slP_at r4 hja
  subst hla
  have hst := stT_bd hlab ((allSL n l)[j].1 + 1) (allSL n l)[j].2
  have hst' : R7 (stA ls (allSL n l)[j]) := hst
  generalize (allSL n l)[j] = s at *
  generalize (atL n ls (7, 7) l)[j] = own at *
  obtain ⟨sk, sx, sa, sbb, sc, sg, tv, ev, tl, el, hs2, hcs, rg, otv, oev, htl, hel⟩ := anyS_rd rds
  subst hcs
  have hsh : shA s = (sk, sx, (sa, sbb, sc), sg) := by unfold shA; rw [hs2]
  obtain ⟨hok1, hok2⟩ := hokA
  rw [hsh] at hok1
  have hvx : 0 ≤ sx ∧ sx < ls.length := by
    have := hok1
    simp only [shB, Bool.and_eq_true] at this
    exact varB_i.1 this.1
  have hmin := makesL_in hok1
  obtain ⟨ho1, ho2⟩ := hown |> fun h => labB_i.1 h
  obtain ⟨hhl, hhr⟩ := hho
  have hby := byS_lt ts h 3
  have h8 : (2 : Int) ^ 3 = 8 := by decide
  rw [h8] at hby
  rw [hsh]
  refine QC.mk hf rfl ?_
  refine seq_reg ?_
  simp only [go_sem, binC]
  refine seq_reg ?_
  simp only [go_sem, binC, gc_of hW, inBlk_some]
  refine ⟨⟨by omega, by omega⟩, ?_⟩
  simp only [go_sem, binC, Int.toNat_natCast, gcs, otv, oev]
  refine wpc_gen fun H1 hH1 => ?_
  have hx1 : AgX [] H H1 := hH1 ▸ AgX.app [] _ _
  have hb9 : H1[H.length]? = some ⟨[.int .i64 sk, .int .i64 sx, .int .i64 sa, .int .i64 sbb, .int .i64 sc, .int .i64 sg, tv, ev], 0, 0, false, true⟩ := hH1 ▸ get_new0 _ _
  have hl1 : H1.length = H.length + 1 := by rw [hH1, List.length_append]; rfl
  clear hH1
  have hW1 := hx1.get hW (by simp)
  refine seq_reg ?_
  simp only [go_sem, binC, gc_of hW1, inBlk_some]
  refine ⟨⟨by omega, by omega⟩, ?_⟩
  simp only [go_sem, binC, Int.toNat_natCast, gcK gca hx1]
  refine ⟨by omega, ?_⟩
  refine wpc_gen fun H2 hH2 => ?_
  have hx2 : AgX [] H1 H2 := hH2 ▸ AgX.app [] _ _
  have hb10 : H2[H1.length]? = some ⟨[.int .i64 own.1, .int .i64 own.2], 0, 0, false, true⟩ := hH2 ▸ get_new0 _ _
  clear hH2
  have hx02 := hx1.tr hx2
  have hW2 := hx2.get hW1 (by simp)
  have hb92 := hx2.get hb9 (by simp)
  refine seq_assoc (seq_regD ?_)
  simp only [go_sem, binC, gc_of hb10, inBlk_some]
  refine op_callQ (by simp only [go_sem, binC]; exact gh H2 own.1 h ho1.1 ho1.2) ?_
  cases q1 : hasB own.1 h with
  | false =>
    simp only [go_sem, binC]
    refine seq_cond (t := true) rfl ?_
    simp only [go_sem, binC]
    refine seq_assoc (seq_reg ?_)
    simp only [go_sem, binC]
    refine seq_ret ⟨Or.inr rfl, .bool false, (by (simp only [go_sem, binC]) <;> rfl), ?_, rfl⟩
    unfold doesB
    rw [q1]
    rfl
  | true =>
  simp only [go_sem, binC, gc_of hW2, inBlk_some]
  refine ⟨⟨by omega, by omega⟩, ?_⟩
  simp only [go_sem, binC, Int.toNat_natCast, Nat.mul_one, gcK hsg hx02, gc_of hW2, inBlk_some]
  refine ⟨⟨by omega, by omega⟩, ?_⟩
  simp only [go_sem, binC, Nat.mul_one, gcK hbg hx02]
  refine op_callQ (by simp only [go_sem, binC]; exact gw H2 _ _ hst'.1 hst'.2 hby.1 (by omega)) ?_
  generalize stA ls s = st at *
  cases q2 : witB st (byS ts h 3) with
  | false =>
    simp only [go_sem, binC]
    refine seq_cond (t := true) rfl ?_
    simp only [go_sem, binC]
    refine seq_assoc (seq_reg ?_)
    simp only [go_sem, binC]
    refine seq_ret ⟨Or.inr rfl, .bool false, (by (simp only [go_sem, binC]) <;> rfl), ?_, rfl⟩
    unfold doesB
    rw [q1, q2]
    rfl
  | true =>
  simp only [go_sem, binC]
  refine seq_cond (t := false) rfl ?_
  simp only [go_sem, binC]
  refine seq_skip (seq_reg ?_)
  simp only [go_sem, binC, gc_of hb92, inBlk_some, otv, oev]
  obtain ⟨mw, H3, k3, hx3, hm3⟩ := gm H2 ls.length sk sx sa sbb sc sg tv ev otv oev rg hok1
  refine op_callK (by simp only [go_sem, binC]; exact k3) ?_
  obtain ⟨_, ma, rfl, _⟩ := id hm3
  simp only [go_sem, binC]
  refine seq_assoc (seq_reg ?_)
  simp only [go_sem, binC]
  have hx03 := hx02.tr hx3
  have hW3 := hx3.get hW2 (by simp)
  have hb93 := hx3.get hb92 (by simp)
  have hb103 := hx3.get hb10 (by simp)
  have r13 := r1.mono (agx_sub hx03)
  have rh3 := rh.mono (agx_sub hx03)
  have hm3' := hm3.mono (vwl0 _ _ _)
  generalize hML : makesL (sk, sx, (sa, sbb, sc), sg) = ml at *
  have hdo : doesB ls ts homes (sk, sx, (sa, sbb, sc), sg) st own h = (ml.all (mkP ls homes own h) && (decide (sk ≠ 1) || hasB own.1 (homes.getD sx.toNat 0))) := by
    unfold doesB
    rw [q1, q2, hML]
    rfl
  rw [hdo]
  have hhome : ∀ v : Int, 0 ≤ v → v < ls.length → ∃ hb ho, ha = some ⟨hb, ho, none⟩ ∧ getCells H3 hb (ho + v.toNat) 1 = some [.int .i64 (homes.getD v.toNat 0)] := fun v h1 h2 => by
    have hl : v.toNat < homes.length := by omega
    obtain ⟨b, o, hv, hg⟩ := gcJ rh3 hl
    simp only [Value.slice.injEq, and_true] at hv
    refine ⟨b, o, hv, ?_⟩
    rw [hg]
    simp [List.getD, hl]
  have hlabel : ∀ v : Int, 0 ≤ v → v < ls.length → ∃ lb lo', lva = some ⟨lb, lo', none⟩ ∧ getCells H3 lb (lo' + v.toNat * 2) 1 = some [.int .i64 (ls.getD v.toNat (0, 0)).1] := fun v h1 h2 => by
    obtain ⟨lb, lo', hla, hgl0, _⟩ := lab_at r13 (H := H3) (fun _ _ h => h) h1 h2
    simp only [Value.slice.injEq, and_true] at hla
    have hgl1 := hgl0 []
    rw [List.append_nil] at hgl1
    have := gc_part (off := 0) (k := 1) hgl1 (by omega)
    exact ⟨lb, lo', hla, by simpa using this⟩
  have hl3 := hx03.1
  refine seq_block (wpc_loop ?_)
  suffices hh : ∀ (m i : Nat) (e : Env), i + m = ml.length → (ml.take i).all (mkP ls homes own h) = true → e 0 = ptr W 0 → e 1 = .slice ha homes.length homes.length → e 3 = .int .i64 h → e 9 = ptr H.length 0 → e 10 = ptr H1.length 0 → e 11 = .slice ma ml.length ml.length → e 12 = .int .i64 i → Go.Proofs.YtiekbdijpfnagaaI.W F H.length _ e H3 _ from
    hh ml.length 0 _ (by omega) rfl (by simp only [go_sem, binC]) (by simp only [go_sem, binC]) (by simp only [go_sem, binC]) (by simp only [go_sem, binC]) (by simp only [go_sem, binC]) (by simp only [go_sem, binC]) (by (simp only [go_sem, binC]) <;> rfl)
  intro m
  induction m with
  | zero =>
    intro i e hi hall e0 e1 e3 e9 e10 e11 e12
    rw [List.take_of_length_le (by omega)] at hall
    refine lp_step ?_
    refine seq_assoc (seq_reg ?_)
    simp only [go_sem, binC, e11, e12]
    refine seq_cond (t := false) (by simp only [go_sem, binC]; rw [decide_eq_false (by omega)]) ?_
    simp only [go_sem, binC]
    refine seq_exit ?_
    simp only [go_sem, binC, thenX_e, out_e, thenX_n]
    refine seq_regD ?_
    simp only [go_sem, binC, e9, gc_of hb93, inBlk_some]
    by_cases k1 : sk = 1
    · simp only [go_sem, binC, bne_fJ k1]
      obtain ⟨hb, ho, rfl, hg⟩ := hhome sx hvx.1 hvx.2
      simp only [go_sem, binC, e1, e9, e10, gc_of hb93, gc_of hb103, inBlk_some]
      refine ⟨⟨by omega, by omega⟩, ?_⟩
      simp only [go_sem, binC, Int.toNat_natCast, Nat.mul_one, hg]
      refine op_callQ (by simp only [go_sem, binC]; exact gh H3 own.1 _ ho1.1 ho1.2) ?_
      simp only [go_sem, binC]
      refine wpc_ret ⟨Or.inr rfl, _, (by (simp only [go_sem, binC]) <;> rfl), ?_, rfl⟩
      rw [hall, decide_eq_false (by simpa using k1)]
      rfl
    · simp only [go_sem, binC, bne_tJ k1]
      refine wpc_ret ⟨Or.inr rfl, _, (by (simp only [go_sem, binC]) <;> rfl), ?_, rfl⟩
      rw [hall, decide_eq_true (by simpa using k1)]
      rfl
  | succ m ih =>
    intro i e hi hall e0 e1 e3 e9 e10 e11 e12
    have hil : i < ml.length := by omega
    have hw1 : IntKind.i64.wrap ((i : Int) + 1) = ((i + 1 : Nat) : Int) := by rw [wrap_id (by omega) (by omega)]; omega
    have hvi := hmin _ (List.getElem_mem hil)
    obtain ⟨mb, mo, hmv, hmg⟩ := gcJ hm3' hil
    simp only [Value.slice.injEq, and_true] at hmv
    subst hmv
    obtain ⟨lb, lo', rfl, hlg⟩ := hlabel _ hvi.1 hvi.2
    obtain ⟨hb, ho, rfl, hhg⟩ := hhome _ hvi.1 hvi.2
    have hlx := labB_i.1 (lab_getD hlab ml[i].toNat)
    have hPf : mkP ls homes own h ml[i] = false → ml.all (mkP ls homes own h) = false := fun hp => by
      rw [Bool.eq_false_iff]
      intro hall'
      have := List.all_eq_true.1 hall' _ (List.getElem_mem hil)
      rw [hp] at this
      cases this
    refine lp_step ?_
    refine seq_assoc (seq_reg ?_)
    simp only [go_sem, binC, e11, e12]
    refine seq_cond (t := true) (by simp only [go_sem, binC]; rw [decide_eq_true (by omega)]) ?_
    simp only [go_sem, binC]
    refine seq_skip (seq_block (seq_regD ?_))
    simp only [go_sem, binC, e0, e3, e11, e12, gc_of hW3, inBlk_some]
    refine ⟨⟨by omega, by omega⟩, ?_⟩
    simp only [go_sem, binC, Int.toNat_natCast, Nat.mul_one, hmg]
    refine ⟨⟨by omega, by omega⟩, ?_⟩
    simp only [go_sem, binC, hlg, e3]
    refine op_callQ (by simp only [go_sem, binC, e3]; exact gh H3 _ h hlx.1.1 hlx.1.2) ?_
    cases p1 : hasB (ls.getD ml[i].toNat (0, 0)).1 h with
    | false =>
      simp only [go_sem, binC]
      refine wpc_cond (t := true) rfl ?_
      simp only [go_sem, binC]
      refine seq_reg ?_
      simp only [go_sem, binC]
      refine wpc_ret ?_
      simp only [go_sem, binC, out_r, thenX_r]
      refine ⟨Or.inr rfl, .bool false, (by (simp only [go_sem, binC]) <;> rfl), ?_, rfl⟩
      rw [hPf (by unfold mkP; rw [p1]; rfl)]
      rfl
    | true =>
    simp only [go_sem, binC, e1, e10, e11, e12, gc_of hb103, inBlk_some]
    refine ⟨⟨by omega, by omega⟩, ?_⟩
    simp only [go_sem, binC, Int.toNat_natCast, Nat.mul_one, hmg]
    refine ⟨⟨by omega, by omega⟩, ?_⟩
    simp only [go_sem, binC, Int.toNat_natCast, Nat.mul_one, hhg]
    refine op_callQ (by simp only [go_sem, binC]; exact gh H3 own.1 _ ho1.1 ho1.2) ?_
    cases p2 : hasB own.1 (homes.getD ml[i].toNat 0) with
    | false =>
      simp only [go_sem, binC]
      refine wpc_cond (t := true) rfl ?_
      simp only [go_sem, binC]
      refine seq_reg ?_
      simp only [go_sem, binC]
      refine wpc_ret ?_
      simp only [go_sem, binC, out_r, thenX_r]
      refine ⟨Or.inr rfl, .bool false, (by (simp only [go_sem, binC]) <;> rfl), ?_, rfl⟩
      rw [hPf (by unfold mkP; rw [p1, p2]; rfl)]
      rfl
    | true =>
    simp only [go_sem, binC]
    refine wpc_cond (t := false) rfl ?_
    simp only [go_sem, binC]
    refine wpc_skip ?_
    simp only [go_sem, binC, out_n, thenX_n]
    refine wpc_reg ?_
    simp only [go_sem, binC, e12, hw1]
    simp only [go_sem, binC, thenX_n]
    refine ih (i + 1) _ (by omega) ?_ (by simp only [go_sem, binC, e0]) (by simp only [go_sem, binC, e1]) (by simp only [go_sem, binC, e3]) (by simp only [go_sem, binC, e9]) (by simp only [go_sem, binC, e10]) (by simp only [go_sem, binC, e11]) (by simp only [go_sem, binC])
    rw [List.take_add_one, List.getElem?_eq_getElem hil, List.all_append, hall]
    simp only [Option.toList, List.all_cons, List.all_nil, Bool.true_and, Bool.and_true]
    unfold mkP
    rw [p1, p2]
    rfl
end Go.Proofs.YtiekbdijpfnagaaI
end
section
/- Lists of numbers of one's own, appended to; who does all steps (the reference's). -/
set_option linter.unusedVariables false
set_option linter.unusedSimpArgs false
namespace Go.Proofs.YtiekbdijpfnagaaI
open Go Go.RowKit
/-- A list of numbers in a block of its own that may be appended to. -/
structure IntsO (et lo : Nat) (H : Heap) (b : Nat) (so : Bool) (l : List Int) : Prop where
  ge : lo ≤ b
  len : l.length ≤ 1048576
  blk : H[b]? = some ⟨ints l, 1, et, true, so⟩
  rg : ∀ x ∈ l, RgI x
theorem IntsO.sl {et lo : Nat} {H : Heap} {b : Nat} {so : Bool} {l : List Int} (h : IntsO et lo H b so l) : SlR Co.int (vw 0 H) (sli b 0 l.length) l := ints_sl0 h.blk h.rg (by have := h.len; omega)
theorem IntsO.keep {et lo lo' : Nat} {H H' : Heap} {b : Nat} {so : Bool} {l : List Int} {xs : List Nat} (h : IntsO et lo H b so l) (hl : lo' ≤ lo) (hx : AgX xs H H') (hn : b ∉ xs) : IntsO et lo' H' b so l := ⟨Nat.le_trans hl h.ge, h.len, hx.get h.blk hn, h.rg⟩
theorem IntsO.lt {et lo : Nat} {H : Heap} {b : Nat} {so : Bool} {l : List Int} (h : IntsO et lo H b so l) : b < H.length := (List.getElem?_eq_some_iff.1 h.blk).1
theorem IntsO.nil {et lo : Nat} {H : Heap} (h : lo ≤ H.length) : IntsO et lo (H ++ [⟨[], 1, et, true, true⟩]) H.length true [] := ⟨h, by simp, get_new0 _ _, by simp⟩
theorem ints_app (a b : List Int) : ints a ++ ints b = ints (a ++ b) := by simp [ints]
theorem op_app_IK {F : Nat → Option IFn} {lo0 et bytes lo b : Nat} {kill so : Bool} {x y : Opd} {e : Env} {H : Heap} {v2 : Value} {l l2 : List Int} {K : Value → Heap → Prop}
    (hv : IntsO et lo H b so l) (hx : x.ev e = sli b 0 l.length) (hy : y.ev e = v2) (h2 : SlR Co.int (vw 0 H) v2 l2) (hlo0 : lo0 ≤ lo) (hl : l.length + l2.length ≤ 1048576) (hb : bytes ≤ 1048576)
    (k : ∀ H' b' so', AgX [b] H H' → (b' = b ∨ H.length ≤ b') → (kill = true → so' = so) → IntsO et lo H' b' so' (l ++ l2) → K (sli b' 0 (l ++ l2).length) H') : wpOp F lo0 (.app 1 et bytes kill x y) e H K := by
  by_cases hne : l2 = []
  · subst hne
    obtain ⟨_, a, rfl, _⟩ := h2
    refine op_app_zero _ _ _ _ _ hx hy ?_
    have := k H b so (AgX.refl _ _) (.inl rfl) (fun _ => rfl) (by rw [List.append_nil]; exact hv)
    rw [List.append_nil] at this
    exact this
  have hm : l2.length ≠ 0 := fun h => hne (List.eq_nil_of_length_eq_zero h)
  have hrg2 := sl_rg h2
  obtain ⟨b2, o2, rfl, hg⟩ := sl_intsJ h2 hne
  have hbytes : (l.length + l2.length) * bytes ≤ 1048576 * 1048576 := Nat.mul_le_mul (by omega) hb
  have hbl := hv.lt
  have hge := hv.ge
  refine op_app _ _ _ _ _ (b := ⟨b, 0, none⟩) (n := l.length) (c := l.length) (a := ⟨b2, o2, none⟩) (m := l2.length) (c' := l2.length) (ys := ints l2) (kb := ⟨ints l, 1, et, true, so⟩) hx hy hm hg hv.blk ⟨by show lo0 ≤ b; omega, rfl, rfl, rfl, rfl, by simp [ints], by omega, by omega⟩ ?_
  have hag : AgX [b] H (H.set b ⟨if kill then [] else ints l, 1, et, false, so && l.length == 0⟩ ++ ([⟨ints l ++ ints l2, 1, et, true, so && (l.length == 0 || kill)⟩] : Heap)) := (AgX.set H b _).trans (AgX.app [] _ _) (fun b h _ => h) (fun b h _ => by cases h)
  have hres := k _ H.length (so && (l.length == 0 || kill)) hag (.inr (Nat.le_refl _)) (fun h => by rw [h, Bool.or_true, Bool.and_true]) ?_
  · rw [List.length_append] at hres; exact hres
  · refine ⟨by omega, by rw [List.length_append]; omega, ?_, fun x hx => ?_⟩
    · have : H.length = (H.set b ⟨if kill then [] else ints l, 1, et, false, so && l.length == 0⟩).length := by rw [List.length_set]
      rw [ints_app] at hag ⊢
      rw [this, get_new0]
      rfl
    · rcases List.mem_append.1 hx with h | h
      · exact hv.rg x h
      · exact hrg2 x h
/-- One number is appended, out of a literal. -/
theorem op_app_I1 {F : Nat → Option IFn} {lo0 et bytes lo b : Nat} {kill so : Bool} {x y : Opd} {e : Env} {H : Heap} {l : List Int} {a : Int} {K : Value → Heap → Prop}
    (hv : IntsO et lo H b so l) (hx : x.ev e = sli b 0 l.length) (hy : y.ev e = sli H.length 0 1) (ha : RgI a) (hlo0 : lo0 ≤ lo) (hl : l.length < 1048576) (hb : bytes ≤ 1048576)
    (k : ∀ H' b' so', AgX [b] H H' → (b' = b ∨ H.length ≤ b') → (kill = true → so' = so) → IntsO et lo H' b' so' (l ++ [a]) → K (sli b' 0 (l ++ [a]).length) H') : wpOp F lo0 (.app 1 et bytes kill x y) e (H ++ [⟨[.int .i64 a], 1, et, true, true⟩]) K := by
  have hbl := hv.lt
  have h1 : SlR Co.int (vw 0 (H ++ [⟨[.int .i64 a], 1, et, true, true⟩])) (sli H.length 0 1) [a] := ints_sl0 (l := [a]) (get_new0 _ _) (fun x hx => by simp only [List.mem_singleton] at hx; subst hx; exact ha) (by simp)
  refine op_app_IK (hv.keep (Nat.le_refl _) (AgX.app [] _ _) (by simp)) hx hy h1 hlo0 (by simp; omega) hb fun H' b' so' q1 q2 q3 q4 => k H' b' so' ((AgX.app [] H _).trans q1 (fun _ h _ => by cases h) (fun _ h _ => h)) ?_ q3 q4
  rcases q2 with h | h
  · exact .inl h
  · exact .inr (by rw [List.length_append] at h; omega)
theorem doesL_at {n : Nat} {ls : List (Int × Int)} {l : List (TStep n)} {ts homes : List Int} {j : Nat} (hj : j < (allSL n l).length) (h : j < (doesL n (ls, l) ts homes).length) : (doesL n (ls, l) ts homes)[j] = firstH (doN n ls l ts homes j) := by
  have hja : j < (atL n ls (7, 7) l).length := by rw [atL_len, ← allSL_len]; exact hj
  have : doN n ls l ts homes j = doesB ls ts homes (shA (allSL n l)[j]) (stA ls (allSL n l)[j]) (atL n ls (7, 7) l)[j] := funext fun h => doN_eq hj hja
  rw [this]
  simp [doesL, doerV]
end Go.Proofs.YtiekbdijpfnagaaI
end
section
/- The first plan (the reference's). -/
set_option linter.unusedVariables false
set_option linter.unusedSimpArgs false
namespace Go.Proofs.YtiekbdijpfnagaaI
open Go Go.RowKit
def c_sTypeOk : IFn := ⟨1, 16, [.t 2],
 .seq (.reg none [
    ⟨(some 1), none, .box (.t 0)⟩,
    ⟨(some 2), none, .mov (.c (.bool false))⟩])
 (.seq (.reg none [
    ⟨(some 6), none, .load true 2 (.t 1)⟩,
    ⟨(some 7), none, .call .q (.f 56) [(.t 6)]⟩,
    ⟨(some 5), none, .mov (.t 7)⟩,
    ⟨(some 8), none, .ext (.t 5) 0⟩,
    ⟨(some 9), none, .ext (.t 5) 1⟩,
    ⟨(some 3), none, .mov (.t 8)⟩,
    ⟨(some 4), none, .mov (.t 9)⟩])
 (.seq (.reg none [
    ⟨(some 10), none, .load true 2 (.t 1)⟩,
    ⟨(some 11), none, .call .q (.f 57) [(.t 10)]⟩,
    ⟨(some 12), none, .mov (.t 11)⟩,
    ⟨(some 13), (some (12, true)), .mov (.t 4)⟩,
    ⟨(some 14), (some (12, true)), .un .not (.t 13)⟩,
    ⟨(some 15), none, .pick (.t 12) (.t 14) (.c (.bool false))⟩,
    ⟨(some 2), none, .mov (.t 15)⟩])
 (.ret)))⟩
theorem sTypeOk_ok {F : Nat → Option IFn} {f : Nat} (hf : F f = some c_sTypeOk) (gw : WhyV F 56) (gp : ProgOk F 57) : TypeP F f := by
  intro H n lv sv ls l r1 r2 hsm
  have olv : one lv = true := by obtain ⟨_, a, rfl, _⟩ := r1; rfl
  have osv : one sv = true := by obtain ⟨_, a, rfl, _⟩ := r2; rfl
  refine QC.mk hf rfl ?_
  refine seq_reg ?_
  simp only [go_sem, binC, olv, osv]
  refine wpc_gen fun H1 hH1 => ?_
  have hx1 : AgX [] H H1 := hH1 ▸ AgX.app [] _ _
  have hb : H1[H.length]? = some ⟨[lv, sv], 0, 0, false, true⟩ := hH1 ▸ get_new0 _ _
  clear hH1
  have hS := agx_sub hx1
  refine seq_reg ?_
  simp only [go_sem, binC, gc_of hb, inBlk_some, olv, osv]
  refine op_callQ (by simp only [go_sem, binC]; exact gw H1 n _ _ ls l (r1.mono hS) (r2.mono hS) hsm) ?_
  simp only [go_sem, binC]
  refine seq_reg ?_
  simp only [go_sem, binC, gc_of hb, inBlk_some, olv, osv]
  refine op_callQ (by simp only [go_sem, binC]; exact gp H1 n _ (ls, l) (prog_rd (r1.mono hS) (r2.mono hS)) hsm) ?_
  cases hP : progB n (ls, l) with
  | false =>
    simp only [go_sem, binC]
    refine wpc_ret ⟨Or.inr rfl, .bool false, (by (simp only [go_sem, binC]) <;> rfl), ?_, rfl⟩
    refine congrArg _ ?_
    show _ = typeP n (ls, l)
    unfold typeP
    rw [hP]
    rfl
  | true =>
    simp only [go_sem, binC]
    refine wpc_ret ⟨Or.inr rfl, .bool (!(whyV n (ls, l)).2), (by (simp only [go_sem, binC]) <;> rfl), ?_, rfl⟩
    refine congrArg _ ?_
    show _ = typeP n (ls, l)
    unfold typeP
    rw [hP]
    rfl
/-- All homes that begin so, number by number. -/
def extL (ls : List (Int × Int)) (ts : List Int) : Nat → List Int → List (List Int)
  | 0, homes => [homes]
  | m + 1, homes => (hostsL (hmB ls ts homes.length) 3).flatMap fun h => extL ls ts m (homes ++ [h])
theorem flatMap_same {α β : Type} {f g : α → List β} : ∀ l : List α, (∀ a ∈ l, f a = g a) → l.flatMap f = l.flatMap g
  | [], _ => rfl
  | a :: l, h => by rw [List.flatMap_cons, List.flatMap_cons, h a List.mem_cons_self, flatMap_same l fun a ha => h a (List.mem_cons_of_mem _ ha)]
theorem extL_hm {ls : List (Int × Int)} {ts : List Int} : ∀ (m v : Nat), (hmL ls ts v).flatMap (extL ls ts m) = hmL ls ts (v + m)
  | 0, v => by
    show (hmL ls ts v).flatMap (fun l => [l]) = _
    rw [List.flatMap_singleton']
    rfl
  | m + 1, v => by
    have h1 : (hmL ls ts v).flatMap (extL ls ts (m + 1)) = (hmL ls ts v).flatMap fun l => ((hostsL (hmB ls ts v) 3).map fun h => l ++ [h]).flatMap (extL ls ts m) := flatMap_same _ fun l hl => by
      have := (hmL_el v l hl).1
      show (hostsL (hmB ls ts l.length) 3).flatMap (fun h => extL ls ts m (l ++ [h])) = _
      rw [this, List.flatMap_map]
    rw [h1, ← List.flatMap_assoc]
    have := extL_hm (ls := ls) (ts := ts) m (v + 1)
    rw [show v + (m + 1) = v + 1 + m by omega, ← this]
    rfl
theorem extL_nil {ls : List (Int × Int)} {ts : List Int} (m : Nat) : extL ls ts m [] = hmL ls ts m := by
  have := extL_hm (ls := ls) (ts := ts) m 0
  rw [Nat.zero_add] at this
  rw [← this]
  simp [hmL]
def PlanX (lo b : Nat) (H : Heap) (tv hv dv : Value) (ts : List Int) (o : Option (List Int)) (d : List Int → List Int) : Prop := match o with
  | none => one tv = true ∧ one hv = true ∧ one dv = true
  | some homes => ∃ b1 b2 b3, tv = sli b1 0 ts.length ∧ hv = sli b2 0 homes.length ∧ dv = sli b3 0 (d homes).length ∧ IntsO 3 lo H b1 true ts ∧ IntsO 3 0 H b2 true homes ∧ IntsO 3 lo H b3 true (d homes) ∧ (b2 = b ∨ lo ≤ b2) ∧ b1 ≠ b2 ∧ b1 ≠ b3 ∧ b2 ≠ b3
theorem PlanX.one {lo b : Nat} {H : Heap} {tv hv dv : Value} {ts : List Int} {o : Option (List Int)} {d : List Int → List Int} (h : PlanX lo b H tv hv dv ts o d) : Go.Proofs.YtiekbdijpfnagaaI.one tv = true ∧ Go.Proofs.YtiekbdijpfnagaaI.one hv = true ∧ Go.Proofs.YtiekbdijpfnagaaI.one dv = true := by
  cases o with
  | none => exact h
  | some homes =>
    obtain ⟨b1, b2, b3, rfl, rfl, rfl, _⟩ := h
    exact ⟨rfl, rfl, rfl⟩
theorem PlanX.keep {lo lo' b b' : Nat} {H H' : Heap} {tv hv dv : Value} {ts : List Int} {o : Option (List Int)} {d : List Int → List Int} {xs : List Nat} (h : PlanX lo b H tv hv dv ts o d) (hl : lo' ≤ lo) (hx : AgX xs H H') (hn : ∀ c, c = b ∨ lo ≤ c → c ∉ xs) (hb : b = b' ∨ lo' ≤ b) : PlanX lo' b' H' tv hv dv ts o d := by
  cases o with
  | none => exact h
  | some homes =>
    obtain ⟨b1, b2, b3, h1, h2, h3, q1, q2, q3, q4, q5⟩ := h
    refine ⟨b1, b2, b3, h1, h2, h3, q1.keep hl hx (hn _ (.inr q1.ge)), q2.keep (Nat.le_refl _) hx (hn _ q4), q3.keep hl hx (hn _ (.inr q3.ge)), ?_, q5⟩
    rcases q4 with h | h
    · subst h
      rcases hb with h | h
      · exact .inl h
      · exact .inr h
    · exact .inr (by omega)
end Go.Proofs.YtiekbdijpfnagaaI
end
section
/- The first plan (the reference's), of a program. -/
set_option linter.unusedVariables false
set_option linter.unusedSimpArgs false
namespace Go.Proofs.YtiekbdijpfnagaaI
open Go Go.RowKit
end Go.Proofs.YtiekbdijpfnagaaI
end
section
/- What has no host (the reference's). -/
set_option linter.unusedVariables false
set_option linter.unusedSimpArgs false
namespace Go.Proofs.YtiekbdijpfnagaaI
open Go Go.RowKit
def c_lSome : IFn := ⟨3, 47, [.t 6],
 .seq (.reg none [
    ⟨(some 6), none, .mov (.c (.bool false))⟩])
 (.seq (.seq (.reg none [
     ⟨(some 9), none, .mov (.t 1)⟩,
     ⟨(some 10), none, .len (.t 9)⟩,
     ⟨(some 11), none, .mov (.t 0)⟩,
     ⟨(some 12), none, .nilck (.t 11)⟩,
     ⟨(some 13), none, .fad 0 (.t 12)⟩,
     ⟨(some 14), none, .fad 0 (.t 13)⟩,
     ⟨(some 15), none, .load false 1 (.t 14)⟩,
     ⟨(some 16), none, .len (.t 15)⟩,
     ⟨(some 17), none, .bin .eql (.t 10) (.t 16)⟩])
  (.cond (.t 17) (.seq (.seq (.reg none [
       ⟨(some 7), none, .mov (.c (.int .i64 0))⟩])
    (.block 0 (.loop (.seq (.seq (.reg none [
          ⟨(some 18), none, .mov (.t 7)⟩,
          ⟨(some 19), none, .bin .lss (.t 18) (.c (.int .i64 3))⟩])
       (.cond (.t 19) (.skip) (.exit 0)))
      (.seq (.block 1 (.seq (.reg none [
           ⟨(some 22), none, .mov (.t 0)⟩,
           ⟨(some 23), none, .mov (.t 1)⟩,
           ⟨(some 24), none, .mov (.t 2)⟩,
           ⟨(some 25), none, .mov (.t 7)⟩,
           ⟨(some 26), none, .call .q (.f 85) [(.t 22), (.t 23), (.t 24), (.t 25)]⟩])
        (.cond (.t 26) (.seq (.reg none [
            ⟨(some 6), none, .mov (.c (.bool true))⟩])
         (.ret)) (.skip))))
      (.reg none [
        ⟨(some 20), none, .mov (.t 7)⟩,
        ⟨(some 21), none, .bin .add (.t 20) (.c (.int .i64 1))⟩,
        ⟨(some 7), none, .mov (.t 21)⟩]))))))
   (.seq (.reg none [
      ⟨(some 6), none, .mov (.c (.bool false))⟩])
   (.ret))) (.skip)))
 (.seq (.seq (.reg none [
     ⟨(some 8), none, .mov (.c (.int .i64 0))⟩])
  (.block 2 (.loop (.seq (.seq (.reg none [
        ⟨(some 27), none, .mov (.t 8)⟩,
        ⟨(some 28), none, .bin .lss (.t 27) (.c (.int .i64 3))⟩])
     (.cond (.t 28) (.skip) (.exit 2)))
    (.seq (.block 3 (.seq (.reg none [
         ⟨(some 31), none, .mov (.t 0)⟩,
         ⟨(some 32), none, .mov (.t 1)⟩,
         ⟨(some 33), none, .len (.t 32)⟩,
         ⟨(some 34), none, .mov (.t 8)⟩,
         ⟨(some 35), none, .call .q (.f 73) [(.t 31), (.t 33), (.t 34)]⟩,
         ⟨(some 36), none, .mov (.t 35)⟩,
         ⟨(some 37), (some (36, true)), .mov (.t 0)⟩,
         ⟨(some 38), (some (36, true)), .lit 1 3 0 [] []⟩,
         ⟨(some 39), (some (36, true)), .mov (.t 1)⟩,
         ⟨(some 40), (some (36, true)), .app 1 3 8 false (.t 38) (.t 39)⟩,
         ⟨(some 41), (some (36, true)), .mov (.t 8)⟩,
         ⟨(some 42), (some (36, true)), .lit 1 3 1 [(.int .i64 0)] [(0, 1, (.t 41))]⟩,
         ⟨(some 43), (some (36, true)), .app 1 3 8 false (.t 40) (.t 42)⟩,
         ⟨(some 44), (some (36, true)), .mov (.t 2)⟩,
         ⟨(some 45), (some (36, true)), .call .q (.f 74) [(.t 37), (.t 43), (.t 44)]⟩,
         ⟨(some 46), none, .pick (.t 36) (.t 45) (.c (.bool false))⟩])
      (.cond (.t 46) (.seq (.reg none [
          ⟨(some 6), none, .mov (.c (.bool true))⟩])
       (.ret)) (.skip))))
    (.reg none [
      ⟨(some 29), none, .mov (.t 8)⟩,
      ⟨(some 30), none, .bin .add (.t 29) (.c (.int .i64 1))⟩,
      ⟨(some 8), none, .mov (.t 30)⟩]))))))
 (.seq (.reg none [
    ⟨(some 6), none, .mov (.c (.bool false))⟩])
 (.ret))))⟩
def c_sPlanLack : IFn := ⟨2, 62, [.t 4, .t 5],
 .seq (.reg none [
    ⟨(some 2), none, .box (.t 0)⟩,
    ⟨(some 4), none, .mov (.c (.int .i64 0))⟩,
    ⟨(some 5), none, .mov (.c (.bool false))⟩])
 (.seq (.seq (.reg none [
     ⟨(some 11), none, .load true 2 (.t 2)⟩,
     ⟨(some 12), none, .call .q (.f 14) [(.t 11)]⟩,
     ⟨(some 13), none, .un .not (.t 12)⟩,
     ⟨(some 14), none, .mov (.t 13)⟩,
     ⟨(some 15), (some (14, false)), .mov (.t 1)⟩,
     ⟨(some 16), (some (14, false)), .call .q (.f 45) [(.t 15)]⟩,
     ⟨(some 17), (some (14, false)), .un .not (.t 16)⟩,
     ⟨(some 18), none, .pick (.t 14) (.c (.bool true)) (.t 17)⟩])
  (.cond (.t 18) (.seq (.reg none [
      ⟨(some 4), none, .mov (.c (.int .i64 0))⟩,
      ⟨(some 5), none, .mov (.c (.bool false))⟩])
   (.ret)) (.skip)))
 (.seq (.reg none [
    ⟨(some 19), none, .load true 2 (.t 2)⟩,
    ⟨(some 20), none, .mov (.t 1)⟩,
    ⟨(some 21), none, .call .n (.f 46) [(.t 19), (.t 20)]⟩,
    ⟨(some 6), none, .mov (.t 21)⟩])
 (.seq (.seq (.reg none [
     ⟨(some 7), none, .mov (.c (.int .i64 0))⟩])
  (.block 0 (.loop (.seq (.seq (.reg none [
        ⟨(some 22), none, .mov (.t 7)⟩,
        ⟨(some 23), none, .fad 0 (.t 2)⟩,
        ⟨(some 24), none, .load false 1 (.t 23)⟩,
        ⟨(some 25), none, .len (.t 24)⟩,
        ⟨(some 26), none, .bin .lss (.t 22) (.t 25)⟩])
     (.cond (.t 26) (.skip) (.exit 0)))
    (.seq (.block 1 (.seq (.reg none [
         ⟨(some 8), none, .mov (.c (.bool false))⟩])
      (.seq (.seq (.reg none [
          ⟨(some 9), none, .mov (.c (.int .i64 0))⟩])
       (.block 2 (.loop (.seq (.seq (.reg none [
             ⟨(some 29), none, .mov (.t 9)⟩,
             ⟨(some 30), none, .bin .lss (.t 29) (.c (.int .i64 3))⟩])
          (.cond (.t 30) (.skip) (.exit 2)))
         (.seq (.block 3 (.reg none [
             ⟨(some 33), none, .mov (.t 8)⟩,
             ⟨(some 34), none, .mov (.t 33)⟩,
             ⟨(some 35), (some (34, false)), .mov (.t 6)⟩,
             ⟨(some 36), (some (34, false)), .mov (.t 7)⟩,
             ⟨(some 37), (some (34, false)), .mov (.t 9)⟩,
             ⟨(some 38), (some (34, false)), .call .q (.f 73) [(.t 35), (.t 36), (.t 37)]⟩,
             ⟨(some 39), none, .pick (.t 34) (.c (.bool true)) (.t 38)⟩,
             ⟨(some 8), none, .mov (.t 39)⟩]))
         (.reg none [
           ⟨(some 31), none, .mov (.t 9)⟩,
           ⟨(some 32), none, .bin .add (.t 31) (.c (.int .i64 1))⟩,
           ⟨(some 9), none, .mov (.t 32)⟩]))))))
      (.seq (.reg none [
         ⟨(some 40), none, .mov (.t 8)⟩,
         ⟨(some 41), none, .un .not (.t 40)⟩])
      (.cond (.t 41) (.seq (.reg none [
          ⟨(some 42), none, .mov (.t 7)⟩,
          ⟨(some 4), none, .mov (.t 42)⟩,
          ⟨(some 5), none, .mov (.c (.bool true))⟩])
       (.ret)) (.skip))))))
    (.reg none [
      ⟨(some 27), none, .mov (.t 7)⟩,
      ⟨(some 28), none, .bin .add (.t 27) (.c (.int .i64 1))⟩,
      ⟨(some 7), none, .mov (.t 28)⟩]))))))
 (.seq (.seq (.reg none [
     ⟨(some 10), none, .mov (.c (.int .i64 0))⟩])
  (.block 4 (.loop (.seq (.seq (.reg none [
        ⟨(some 43), none, .mov (.t 10)⟩,
        ⟨(some 44), none, .mov (.t 6)⟩,
        ⟨(some 45), none, .nilck (.t 44)⟩,
        ⟨(some 46), none, .fad 3 (.t 45)⟩,
        ⟨(some 47), none, .load false 1 (.t 46)⟩,
        ⟨(some 48), none, .len (.t 47)⟩,
        ⟨(some 49), none, .bin .lss (.t 43) (.t 48)⟩])
     (.cond (.t 49) (.skip) (.exit 4)))
    (.seq (.block 5 (.seq (.reg none [
         ⟨(some 52), none, .mov (.t 6)⟩,
         ⟨(some 53), none, .lit 1 3 0 [] []⟩,
         ⟨(some 54), none, .mov (.t 10)⟩,
         ⟨(some 55), none, .call .q (.f 74) [(.t 52), (.t 53), (.t 54)]⟩,
         ⟨(some 56), none, .un .not (.t 55)⟩])
      (.cond (.t 56) (.seq (.reg none [
          ⟨(some 57), none, .fad 0 (.t 2)⟩,
          ⟨(some 58), none, .load false 1 (.t 57)⟩,
          ⟨(some 59), none, .len (.t 58)⟩,
          ⟨(some 60), none, .mov (.t 10)⟩,
          ⟨(some 61), none, .bin .add (.t 59) (.t 60)⟩,
          ⟨(some 4), none, .mov (.t 61)⟩,
          ⟨(some 5), none, .mov (.c (.bool true))⟩])
       (.ret)) (.skip))))
    (.reg none [
      ⟨(some 50), none, .mov (.t 10)⟩,
      ⟨(some 51), none, .bin .add (.t 50) (.c (.int .i64 1))⟩,
      ⟨(some 10), none, .mov (.t 51)⟩]))))))
 (.seq (.reg none [
    ⟨(some 4), none, .mov (.c (.int .i64 0))⟩,
    ⟨(some 5), none, .mov (.c (.bool false))⟩])
 (.ret))))))⟩
/-- Whether some host may do the j-th step. -/
def anyDo (n : Nat) (ls : List (Int × Int)) (l : List (TStep n)) (ts : List Int) (j : Nat) (homes : List Int) : Bool := ([0, 1, 2] : List Int).any fun h => doN n ls l ts homes j h
theorem any_drop {P : Int → Bool} {i : Nat} (hi : i < 3) : (([0, 1, 2] : List Int).drop i).any P = (P i || (([0, 1, 2] : List Int).drop (i + 1)).any P) := by
  have hi3 : i = 0 ∨ i = 1 ∨ i = 2 := by omega
  rcases hi3 with rfl | rfl | rfl <;> simp
theorem hosts_rest {P : Int → Bool} {f : Int → List (List Int)} {i : Nat} (hi : i < 3) : ((([0, 1, 2] : List Int).drop i).filter P).flatMap f = (if P i = true then f i else []) ++ ((([0, 1, 2] : List Int).drop (i + 1)).filter P).flatMap f := by
  have hi3 : i = 0 ∨ i = 1 ∨ i = 2 := by omega
  rcases hi3 with rfl | rfl | rfl <;> simp only [List.drop_zero, List.drop_succ_cons, List.filter_cons, List.filter_nil] <;> split <;> simp_all
def LSome (F : Nat → Option IFn) (f m : Nat) : Prop := ∀ (lo : Nat) (H : Heap) (W n : Nat) (ls : List (Int × Int)) (l : List (TStep n)) (ts : List Int) (b : Nat) (so : Bool) (homes : List Int) (j : Nat), m + homes.length = ls.length → LookR H W n ls l ts → progB n (ls, l) = true → IntsO 3 lo H b so homes → (∀ x ∈ homes, 0 ≤ x ∧ x ≤ 2) → j < (allSL n l).length →
  QC F f [ptr W 0, sli b 0 homes.length, .int .i64 j] H (.bool ((extL ls ts m homes).any (anyDo n ls l ts j)))
theorem lSome_ok {F : Nat → Option IFn} {f m : Nat} (hf : F f = some c_lSome) (gh : LHome F 73) (gs : LStep F 85) (ih : ∀ m', m = m' + 1 → LSome F 74 m') : LSome F f m := by
  intro lo H W n ls l ts b so homes j hm hL hP hI hho hj
  have hlab : ls.all labB = true := progB_lab hP
  have hls4 : ls.length ≤ 4 := progB_len hP
  have hblt := hI.lt
  obtain ⟨lv, sv, tw, li, la, se, bv, osv, hW, r1, r2, r3, r4, r5, r6⟩ := hL.ex
  obtain ⟨_, lva, rfl, _⟩ := id r1
  refine QC.mk hf rfl ?_
  refine seq_reg ?_
  simp only [go_sem, binC]
  refine seq_assoc (seq_reg ?_)
  simp only [go_sem, binC, gc_of hW, inBlk_some, sli]
  cases m with
  | zero =>
    have hlen : homes.length = ls.length := by omega
    have hho' : homesP ls.length homes := ⟨hlen, hho⟩
    have hext : (extL ls ts 0 homes).any (anyDo n ls l ts j) = anyDo n ls l ts j homes := by simp [extL]
    rw [hext, hlen]
    refine seq_cond (t := true) (by simp only [go_sem, binC]; simp) ?_
    simp only [go_sem, binC]
    refine seq_assoc (seq_assoc (seq_reg ?_))
    simp only [go_sem, binC]
    refine seq_block (wpc_loop ?_)
    suffices hh : ∀ (k i : Nat) (e : Env), i + k = 3 → anyDo n ls l ts j homes = (([0, 1, 2] : List Int).drop i).any (fun h => doN n ls l ts homes j h) → e 0 = ptr W 0 → e 1 = .slice (some ⟨b, 0, none⟩) ls.length ls.length → e 2 = .int .i64 j → e 7 = .int .i64 i → Go.Proofs.YtiekbdijpfnagaaI.W F H.length _ e H _ from
      hh 3 0 _ rfl rfl (by simp only [go_sem, binC]) (by simp only [go_sem, binC]) (by simp only [go_sem, binC]) (by (simp only [go_sem, binC]) <;> rfl)
    intro k
    induction k with
    | zero =>
      intro i e hi hany e0 e1 e2 e7
      obtain rfl : i = 3 := by omega
      have hd3 : decide (((3 : Nat) : Int) < 3) = false := rfl
      refine lp_step ?_
      refine seq_assoc (seq_reg ?_)
      simp only [go_sem, binC, e7, hd3]
      refine seq_cond (t := false) (by simp only [go_sem, binC]) ?_
      simp only [go_sem, binC]
      refine seq_exit ?_
      simp only [go_sem, binC, thenX_e, out_e, thenX_n]
      refine seq_assoc (seq_reg ?_)
      simp only [go_sem, binC]
      refine seq_ret ⟨Or.inr rfl, .bool false, (by (simp only [go_sem, binC]) <;> rfl), ?_, rfl⟩
      rw [hany]
      rfl
    | succ k ihk =>
      intro i e hi hany e0 e1 e2 e7
      have hdi : decide ((i : Int) < 3) = true := decide_eq_true (by omega)
      have hw1 : IntKind.i64.wrap ((i : Int) + 1) = ((i + 1 : Nat) : Int) := by rw [wrap_id (by omega) (by omega)]; omega
      rw [any_drop (by omega)] at hany
      refine lp_step ?_
      refine seq_assoc (seq_reg ?_)
      simp only [go_sem, binC, e7, hdi]
      refine seq_cond (t := true) (by simp only [go_sem, binC]) ?_
      simp only [go_sem, binC]
      refine seq_skip (seq_block (seq_reg ?_))
      simp only [go_sem, binC, e0, e1, e2, e7]
      have hcall := gs H W n ls l ts (sli b 0 homes.length) homes j i hL hP hI.sl hho' hj (by omega) (by omega)
      rw [hlen] at hcall
      refine op_callQ (by simp only [go_sem, binC, e0, e1, e2, e7]; exact hcall) ?_
      cases hp : doN n ls l ts homes j i with
      | true =>
        rw [hp, Bool.true_or] at hany
        simp only [go_sem, binC]
        refine wpc_cond (t := true) rfl ?_
        simp only [go_sem, binC]
        refine seq_reg ?_
        simp only [go_sem, binC]
        refine wpc_ret ?_
        simp only [go_sem, binC, out_r, thenX_r]
        exact ⟨Or.inr rfl, .bool true, (by (simp only [go_sem, binC]) <;> rfl), by rw [hany], rfl⟩
      | false =>
        rw [hp, Bool.false_or] at hany
        simp only [go_sem, binC]
        refine wpc_cond (t := false) rfl ?_
        simp only [go_sem, binC]
        refine wpc_skip ?_
        simp only [go_sem, binC, out_n, thenX_n]
        refine wpc_reg ?_
        simp only [go_sem, binC, e7, hw1]
        simp only [go_sem, binC, thenX_n]
        exact ihk (i + 1) _ (by omega) hany (by simp only [go_sem, binC, e0]) (by simp only [go_sem, binC, e1]) (by simp only [go_sem, binC, e2]) (by simp only [go_sem, binC])
  | succ m =>
    have hlen : homes.length < ls.length := by omega
    have hne : ¬ ((homes.length : Int) = ls.length) := by omega
    refine seq_cond (t := false) (by simp only [go_sem, binC]; rw [beq_f hne]) ?_
    simp only [go_sem, binC]
    refine seq_skip (seq_assoc (seq_reg ?_))
    simp only [go_sem, binC]
    refine seq_block (wpc_loop ?_)
    have hsucc : (extL ls ts (m + 1) homes) = (hostsL (hmB ls ts homes.length) 3).flatMap fun h => extL ls ts m (homes ++ [h]) := rfl
    generalize hPd : hmB ls ts homes.length = P at *
    rw [hsucc]
    suffices hh : ∀ (k i : Nat) (e : Env) (Hc : Heap), i + k = 3 → AgX [] H Hc → ((hostsL P 3).flatMap fun h => extL ls ts m (homes ++ [h])).any (anyDo n ls l ts j) = (((([0, 1, 2] : List Int).drop i).filter P).flatMap (fun h => extL ls ts m (homes ++ [h]))).any (anyDo n ls l ts j) → e 0 = ptr W 0 → e 1 = .slice (some ⟨b, 0, none⟩) homes.length homes.length → e 2 = .int .i64 j → e 8 = .int .i64 i → Go.Proofs.YtiekbdijpfnagaaI.W F H.length _ e Hc _ from
      hh 3 0 _ H rfl (AgX.refl _ _) (by simp [hostsL]) (by simp only [go_sem, binC]) (by simp only [go_sem, binC]) (by simp only [go_sem, binC]) (by (simp only [go_sem, binC]) <;> rfl)
    intro k
    induction k with
    | zero =>
      intro i e Hc hi hxc hfd e0 e1 e2 e8
      obtain rfl : i = 3 := by omega
      have hd3 : decide (((3 : Nat) : Int) < 3) = false := rfl
      refine lp_step ?_
      refine seq_assoc (seq_reg ?_)
      simp only [go_sem, binC, e8, hd3]
      refine seq_cond (t := false) (by simp only [go_sem, binC]) ?_
      simp only [go_sem, binC]
      refine seq_exit ?_
      simp only [go_sem, binC, thenX_e, out_e, thenX_n]
      refine seq_reg ?_
      simp only [go_sem, binC]
      refine wpc_ret ⟨Or.inr rfl, .bool false, (by (simp only [go_sem, binC]) <;> rfl), ?_, rfl⟩
      rw [hfd]
      rfl
    | succ k ihk =>
      intro i e Hc hi hxc hfd e0 e1 e2 e8
      have hdi : decide ((i : Int) < 3) = true := decide_eq_true (by omega)
      have hw1 : IntKind.i64.wrap ((i : Int) + 1) = ((i + 1 : Nat) : Int) := by rw [wrap_id (by omega) (by omega)]; omega
      have hLc := hL.mono hxc
      have hcall := gh Hc W n ls l ts homes.length i hLc hlab (by omega) (by omega) (by omega) (by omega)
      rw [hPd] at hcall
      have hrs := hosts_rest (P := P) (f := fun h => extL ls ts m (homes ++ [h])) (i := i) (by omega)
      rw [hrs] at hfd
      refine lp_step ?_
      refine seq_assoc (seq_reg ?_)
      simp only [go_sem, binC, e8, hdi]
      refine seq_cond (t := true) (by simp only [go_sem, binC]) ?_
      simp only [go_sem, binC]
      refine seq_skip (seq_block (seq_reg ?_))
      simp only [go_sem, binC, e0, e1, e8]
      refine op_callQ (by simp only [go_sem, binC, e0, e1, e8]; exact hcall) ?_
      cases hp : P i with
      | false =>
        rw [hp, if_neg (by simp), List.nil_append] at hfd
        simp only [go_sem, binC]
        refine wpc_cond (t := false) rfl ?_
        simp only [go_sem, binC]
        refine wpc_skip ?_
        simp only [go_sem, binC, out_n, thenX_n]
        refine wpc_reg ?_
        simp only [go_sem, binC, e8, hw1]
        simp only [go_sem, binC, thenX_n]
        exact ihk (i + 1) _ Hc (by omega) hxc hfd (by simp only [go_sem, binC, e0]) (by simp only [go_sem, binC, e1]) (by simp only [go_sem, binC, e2]) (by simp only [go_sem, binC])
      | true =>
        rw [hp, if_pos rfl, List.any_append] at hfd
        simp only [go_sem, binC, e0, e1, e8]
        generalize hH3 : Hc ++ [(⟨[], 1, 3, true, true⟩ : Blk)] = H3
        have hx3 : AgX [] Hc H3 := hH3 ▸ AgX.app [] _ _
        have oI3 : IntsO 3 Hc.length H3 Hc.length true [] := hH3 ▸ IntsO.nil (Nat.le_refl _)
        clear hH3
        have hx03 := hxc.tr hx3
        have hlc := hxc.1
        have hl3 := hx3.1
        refine op_app_IK oI3 (by (simp only [go_sem, binC]) <;> rfl) (by (simp only [go_sem, binC]) <;> rfl) (show SlR Co.int (vw 0 H3) (.slice (some ⟨b, 0, none⟩) homes.length homes.length) homes from hI.sl.mono (agx_sub hx03)) (by omega) (by simp; omega) (by omega) fun H4 b4 so4 hx4 hb4' hso4 o4 => ?_
        rw [List.nil_append] at o4
        have hx34 : AgX [] Hc H4 := hx3.trans hx4 (fun _ h _ => h) (fun b' h1 h2 => by simp only [List.mem_singleton] at h1; omega)
        rw [List.nil_append]
        simp only [go_sem, binC, e8]
        refine op_app_I1 (a := (i : Int)) o4 (by (simp only [go_sem, binC]) <;> rfl) (by (simp only [go_sem, binC]) <;> rfl) ⟨by omega, by omega⟩ (by omega) (by omega) (by omega) fun H5 b5 so5 hx5 hb5 hso5 o5 => ?_
        have ho4g := o4.ge
        have hx35 : AgX [] Hc H5 := hx34.trans hx5 (fun _ h _ => h) (fun b' h1 h2 => by simp only [List.mem_singleton] at h1; omega)
        have hx05 := hxc.tr hx35
        simp only [go_sem, binC, e0, e2]
        have hrec := ih m rfl Hc.length H5 W n ls l ts b5 so5 (homes ++ [(i : Int)]) j (by rw [List.length_append, List.length_singleton]; omega) (hL.mono hx05) hP o5 (fun x hx => by
          rcases List.mem_append.1 hx with h | h
          · exact hho x h
          · simp only [List.mem_singleton] at h; omega) hj
        refine op_callQ (by simp only [go_sem, binC, e0, e2]; exact hrec) ?_
        cases hres : (extL ls ts m (homes ++ [(i : Int)])).any (anyDo n ls l ts j) with
        | false =>
          rw [hres, Bool.false_or] at hfd
          simp only [go_sem, binC]
          refine wpc_cond (t := false) rfl ?_
          simp only [go_sem, binC]
          refine wpc_skip ?_
          simp only [go_sem, binC, out_n, thenX_n]
          refine wpc_reg ?_
          simp only [go_sem, binC, e8, hw1]
          simp only [go_sem, binC, thenX_n]
          exact ihk (i + 1) _ H5 (by omega) hx05 hfd (by simp only [go_sem, binC, e0]) (by simp only [go_sem, binC, e1]) (by simp only [go_sem, binC, e2]) (by simp only [go_sem, binC])
        | true =>
          rw [hres, Bool.true_or] at hfd
          simp only [go_sem, binC]
          refine wpc_cond (t := true) rfl ?_
          simp only [go_sem, binC]
          refine seq_reg ?_
          simp only [go_sem, binC]
          refine wpc_ret ?_
          simp only [go_sem, binC, out_r, thenX_r]
          exact ⟨Or.inr rfl, .bool true, (by (simp only [go_sem, binC]) <;> rfl), by rw [hfd], rfl⟩
theorem lSome_all {F : Nat → Option IFn} (hf : F 74 = some c_lSome) (gh : LHome F 73) (gs : LStep F 85) : ∀ m, LSome F 74 m
  | 0 => lSome_ok hf gh gs fun m h => by omega
  | m + 1 => lSome_ok hf gh gs fun m' h => by cases h; exact lSome_all hf gh gs m
/-- The first that has no host: a variable, or a step, told behind all variables. -/
def noHome (ls : List (Int × Int)) (ts : List Int) (v : Nat) : Bool := !([0, 1, 2] : List Int).any (hmB ls ts v)
def noDo (n : Nat) (ls : List (Int × Int)) (l : List (TStep n)) (ts : List Int) (j : Nat) : Bool := !(hmL ls ts ls.length).any (anyDo n ls l ts j)
def lackV (n : Nat) (p : TProg n) (ts : List Int) : Int × Bool := if (typeP n p && trK ts) = true then (match (List.range p.1.length).find? (noHome p.1 ts) with
  | some v => ((v : Int), true)
  | none => match (List.range (allSL n p.2).length).find? (noDo n p.1 p.2 ts) with
    | some j => ((p.1.length : Int) + j, true)
    | none => (0, false)) else (0, false)
theorem find_some {P : Nat → Bool} {k i : Nat} (hi : i < k) (h0 : ∀ q, q < i → P q = false) (h1 : P i = true) : (List.range k).find? P = some i := by
  rw [List.find?_range_eq_some]
  exact ⟨h1, by simpa using hi, fun q hq => by simp [h0 q hq]⟩
theorem find_none {P : Nat → Bool} {k : Nat} (h0 : ∀ q, q < k → P q = false) : (List.range k).find? P = none := by
  rw [List.find?_range_eq_none]
  exact fun q hq => by simp [h0 q hq]
def LackOk (F : Nat → Option IFn) (f : Nat) : Prop := ∀ (H : Heap) (n : Nat) (lv sv tw : Value) (ls : List (Int × Int)) (l : List (TStep n)) (ts : List Int), SlR Co.p2 (vw 0 H) lv ls → SlR (Co.step n) (vw 0 H) sv l → (Co.prog n).sm (ls, l) → SlR Co.int (vw 0 H) tw ts → QC F f [.agg #[lv, sv], tw] H (.tuple #[.int .i64 (lackV n (ls, l) ts).1, .bool (lackV n (ls, l) ts).2])
end Go.Proofs.YtiekbdijpfnagaaI
end
section
/- What has no host (the reference's), of a program. -/
set_option linter.unusedVariables false
set_option linter.unusedSimpArgs false
namespace Go.Proofs.YtiekbdijpfnagaaI
open Go Go.RowKit
theorem any_take {P : Int → Bool} {i : Nat} (hi : i < 3) : (([0, 1, 2] : List Int).take (i + 1)).any P = ((([0, 1, 2] : List Int).take i).any P || P i) := by
  have hi3 : i = 0 ∨ i = 1 ∨ i = 2 := by omega
  rcases hi3 with rfl | rfl | rfl <;> simp [Bool.or_assoc]
theorem sPlanLack_ok {F : Nat → Option IFn} {f : Nat} (hf : F f = some c_sPlanLack) (gt : TypeP F 14) (gtr : TrOk F 45) (gs : SeeOk F 46) (gh : LHome F 73) (gm : ∀ m, LSome F 74 m) : LackOk F f := by
  intro H n lv sv tw ls l ts r1 r2 hsm r3
  have olv : one lv = true := by obtain ⟨_, a, rfl, _⟩ := r1; rfl
  have osv : one sv = true := by obtain ⟨_, a, rfl, _⟩ := r2; rfl
  obtain ⟨_, la, rfl, _⟩ := id r1
  refine QC.mk hf rfl ?_
  refine seq_reg ?_
  simp only [go_sem, binC, osv]
  refine wpc_gen fun H1 hH1 => ?_
  have hx1 : AgX [] H H1 := hH1 ▸ AgX.app [] _ _
  have hb2 : H1[H.length]? = some ⟨[.slice la ls.length ls.length, sv], 0, 0, false, true⟩ := hH1 ▸ get_new0 _ _
  clear hH1
  have hl1 := (List.getElem?_eq_some_iff.1 hb2).1
  refine seq_assoc (seq_reg ?_)
  simp only [go_sem, binC, gc_of hb2, inBlk_some, osv]
  refine op_callQ (by simp only [go_sem, binC]; exact gt H1 n _ _ ls l (r1.mono (agx_sub hx1)) (r2.mono (agx_sub hx1)) hsm) ?_
  cases ht : typeP n (ls, l) with
  | false =>
    have hn : lackV n (ls, l) ts = (0, false) := by unfold lackV; rw [ht]; rfl
    rw [hn]
    simp only [go_sem, binC]
    refine seq_cond (t := true) rfl ?_
    simp only [go_sem, binC]
    refine seq_assoc (seq_reg ?_)
    simp only [go_sem, binC]
    exact seq_ret ⟨Or.inr rfl, .tuple #[.int .i64 0, .bool false], by simp [resV, resL, res1, putE_get, notT], rfl, rfl⟩
  | true =>
  simp only [go_sem, binC]
  refine op_callQ (by simp only [go_sem, binC]; exact gtr.k H1 _ ts (r3.mono (agx_sub hx1))) ?_
  cases hk : trK ts with
  | false =>
    have hn : lackV n (ls, l) ts = (0, false) := by unfold lackV; rw [hk, Bool.and_false]; rfl
    rw [hn]
    simp only [go_sem, binC]
    refine seq_cond (t := true) rfl ?_
    simp only [go_sem, binC]
    refine seq_assoc (seq_reg ?_)
    simp only [go_sem, binC]
    exact seq_ret ⟨Or.inr rfl, .tuple #[.int .i64 0, .bool false], by simp [resV, resL, res1, putE_get, notT], rfl, rfl⟩
  | true =>
  simp only [go_sem, binC]
  refine seq_cond (t := false) rfl ?_
  simp only [go_sem, binC]
  have htr := trK_iff.1 hk
  have hP : progB n (ls, l) = true := by
    unfold typeP at ht
    simp only [Bool.and_eq_true] at ht
    exact ht.1
  have hlab : ls.all labB = true := progB_lab hP
  have hls4 : ls.length ≤ 4 := progB_len hP
  have hcnt : (allL n l).length ≤ 8 := progB_cnt hP hsm
  have hsl := allSL_len l
  have hlack : lackV n (ls, l) ts = (match (List.range ls.length).find? (noHome ls ts) with
  | some v => ((v : Int), true)
  | none => match (List.range (allSL n l).length).find? (noDo n ls l ts) with
    | some j => ((ls.length : Int) + j, true)
    | none => (0, false)) := by unfold lackV; rw [ht, hk]; rfl
  refine seq_skip (seq_reg ?_)
  simp only [go_sem, binC, gc_of hb2, inBlk_some, osv]
  obtain ⟨W, H2, k2, hx2, hWg, hL⟩ := gs H.length H1 n _ _ _ ls l ts (by omega) (r1.mono (agx_sub hx1)) (r2.mono (agx_sub hx1)) hsm hP (r3.mono (agx_sub hx1)) htr
  refine op_callN (by simp only [go_sem, binC]; exact k2) ?_
  simp only [go_sem, binC]
  have hb22 := hx2.get hb2 (by simp)
  refine seq_assoc (seq_reg ?_)
  simp only [go_sem, binC]
  refine seq_block (wpc_loop ?_)
  suffices hh : ∀ (k v : Nat) (e : Env), v + k = ls.length → (∀ q, q < v → noHome ls ts q = false) → e 2 = ptr H.length 0 → e 6 = ptr W 0 → e 7 = .int .i64 v → Go.Proofs.YtiekbdijpfnagaaI.W F H.length _ e H2 _ from
    hh ls.length 0 _ (by omega) (fun q h => by omega) (by simp only [go_sem, binC]) (by simp only [go_sem, binC]) (by (simp only [go_sem, binC]) <;> rfl)
  intro k
  induction k with
  | zero =>
    intro v e hv hno e2 e6 e7
    obtain rfl : v = ls.length := by omega
    have hlack2 := hlack
    rw [find_none hno] at hlack2
    simp only at hlack2
    refine lp_step ?_
    refine seq_assoc (seq_reg ?_)
    simp only [go_sem, binC, e2, e7, gc_of hb22, inBlk_some]
    refine seq_cond (t := false) (by simp only [go_sem, binC]; rw [decide_eq_false (by omega)]) ?_
    simp only [go_sem, binC]
    refine seq_exit ?_
    simp only [go_sem, binC, thenX_e, out_e, thenX_n]
    refine seq_assoc (seq_reg ?_)
    simp only [go_sem, binC]
    refine seq_block (wpc_loop ?_)
    suffices hh : ∀ (k j : Nat) (e : Env) (Hc : Heap), j + k = (allSL n l).length → AgX [] H2 Hc → (∀ q, q < j → noDo n ls l ts q = false) → e 2 = ptr H.length 0 → e 6 = ptr W 0 → e 10 = .int .i64 j → Go.Proofs.YtiekbdijpfnagaaI.W F H.length _ e Hc _ from
      hh (allSL n l).length 0 _ H2 (by omega) (AgX.refl _ _) (fun q h => by omega) (by simp only [go_sem, binC, e2]) (by simp only [go_sem, binC, e6]) (by (simp only [go_sem, binC]) <;> rfl)
    clear e2 e6 e7
    intro k
    induction k with
    | zero =>
      intro j e Hc hj hxc hnd e2 e6 e10
      obtain rfl : j = (allSL n l).length := by omega
      rw [find_none hnd] at hlack2
      obtain ⟨lv', sv', tw', li, la', se, bv, osv', hW, q1, q2, q3, q4, q5, q6⟩ := (hL.mono hxc).ex
      obtain ⟨_, lia, rfl, _⟩ := id q3
      refine lp_step ?_
      refine seq_assoc (seq_reg ?_)
      simp only [go_sem, binC, e6, e10, gc_of hW, inBlk_some]
      refine seq_cond (t := false) (by simp only [go_sem, binC]; rw [decide_eq_false (by omega)]) ?_
      simp only [go_sem, binC]
      refine seq_exit ?_
      simp only [go_sem, binC, thenX_e, out_e, thenX_n]
      refine seq_reg ?_
      simp only [go_sem, binC]
      rw [hlack2]
      exact wpc_ret ⟨Or.inr rfl, .tuple #[.int .i64 0, .bool false], by simp [resV, resL, res1, putE_get, notT], rfl, rfl⟩
    | succ k ihj =>
      intro j e Hc hj hxc hnd e2 e6 e10
      have hjl : j < (allSL n l).length := by omega
      have hw1 : IntKind.i64.wrap ((j : Int) + 1) = ((j + 1 : Nat) : Int) := by rw [wrap_id (by omega) (by omega)]; omega
      have hw2 : IntKind.i64.wrap ((ls.length : Int) + (j : Int)) = (ls.length : Int) + (j : Int) := wrap_id (by omega) (by omega)
      obtain ⟨lv', sv', tw', li, la', se, bv, osv', hW, q1, q2, q3, q4, q5, q6⟩ := (hL.mono hxc).ex
      obtain ⟨_, lia, rfl, _⟩ := id q3
      have hlc := hxc.1
      have hl2 := hx2.1
      refine lp_step ?_
      refine seq_assoc (seq_reg ?_)
      simp only [go_sem, binC, e6, e10, gc_of hW, inBlk_some]
      refine seq_cond (t := true) (by simp only [go_sem, binC]; rw [decide_eq_true (by omega)]) ?_
      simp only [go_sem, binC]
      refine seq_skip (seq_block (seq_reg ?_))
      simp only [go_sem, binC, e6, e10]
      generalize hH3 : Hc ++ [(⟨[], 1, 3, true, true⟩ : Blk)] = H3
      have hx3 : AgX [] Hc H3 := hH3 ▸ AgX.app [] _ _
      have oI3 : IntsO 3 Hc.length H3 Hc.length true [] := hH3 ▸ IntsO.nil (Nat.le_refl _)
      clear hH3
      have hx23 := hxc.tr hx3
      have hb23 := hx23.get hb22 (by simp)
      refine op_callQ (by simp only [go_sem, binC, e6, e10]; exact gm ls.length Hc.length H3 W n ls l ts Hc.length true [] j (by simp) (hL.mono hx23) hP oI3 (by simp) hjl) ?_
      rw [extL_nil]
      cases hres : (hmL ls ts ls.length).any (anyDo n ls l ts j) with
      | true =>
        have hnj : noDo n ls l ts j = false := by unfold noDo; rw [hres]; rfl
        simp only [go_sem, binC]
        refine wpc_cond (t := false) rfl ?_
        simp only [go_sem, binC]
        refine wpc_skip ?_
        simp only [go_sem, binC, out_n, thenX_n]
        refine wpc_reg ?_
        simp only [go_sem, binC, e10, hw1]
        simp only [go_sem, binC, thenX_n]
        refine ihj (j + 1) _ H3 (by omega) hx23 (fun q hq => ?_) (by simp only [go_sem, binC, e2]) (by simp only [go_sem, binC, e6]) (by simp only [go_sem, binC])
        by_cases hqj : q = j
        · subst hqj; exact hnj
        · exact hnd q (by omega)
      | false =>
        have hnj : noDo n ls l ts j = true := by unfold noDo; rw [hres]; rfl
        rw [find_some hjl hnd hnj] at hlack2
        simp only [go_sem, binC]
        refine wpc_cond (t := true) rfl ?_
        simp only [go_sem, binC]
        refine seq_reg ?_
        simp only [go_sem, binC, e2, e10, gc_of hb23, inBlk_some, hw2]
        refine wpc_ret ?_
        simp only [go_sem, binC, out_r, thenX_r]
        rw [hlack2]
        exact ⟨Or.inr rfl, .tuple #[.int .i64 ((ls.length : Int) + (j : Int)), .bool true], by simp [resV, resL, res1, putE_get, notT], rfl, rfl⟩
  | succ k ih =>
    intro v e hv hno e2 e6 e7
    have hvl : v < ls.length := by omega
    have hw1 : IntKind.i64.wrap ((v : Int) + 1) = ((v + 1 : Nat) : Int) := by rw [wrap_id (by omega) (by omega)]; omega
    refine lp_step ?_
    refine seq_assoc (seq_reg ?_)
    simp only [go_sem, binC, e2, e7, gc_of hb22, inBlk_some]
    refine seq_cond (t := true) (by simp only [go_sem, binC]; rw [decide_eq_true (by omega)]) ?_
    simp only [go_sem, binC]
    refine seq_skip (seq_block (seq_reg ?_))
    simp only [go_sem, binC]
    refine seq_assoc (seq_reg ?_)
    simp only [go_sem, binC]
    refine seq_block (wpc_loop ?_)
    suffices hh : ∀ (m i : Nat) (e : Env), i + m = 3 → e 2 = ptr H.length 0 → e 6 = ptr W 0 → e 7 = .int .i64 v → e 8 = .bool ((([0, 1, 2] : List Int).take i).any (hmB ls ts v)) → e 9 = .int .i64 i → Go.Proofs.YtiekbdijpfnagaaI.W F H.length _ e H2 _ from
      hh 3 0 _ rfl (by simp only [go_sem, binC, e2]) (by simp only [go_sem, binC, e6]) (by simp only [go_sem, binC, e7]) (by (simp only [go_sem, binC]) <;> rfl) (by (simp only [go_sem, binC]) <;> rfl)
    clear e2 e6 e7
    intro m
    induction m with
    | zero =>
      intro i e hi e2 e6 e7 e8 e9
      obtain rfl : i = 3 := by omega
      have hd3 : decide (((3 : Nat) : Int) < 3) = false := rfl
      refine lp_step ?_
      refine seq_assoc (seq_reg ?_)
      simp only [go_sem, binC, e9, hd3]
      refine seq_cond (t := false) (by simp only [go_sem, binC]) ?_
      simp only [go_sem, binC]
      refine seq_exit ?_
      simp only [go_sem, binC, thenX_e, out_e, thenX_n]
      refine seq_reg ?_
      simp only [go_sem, binC, e8]
      have htk3 : (!([0, 1, 2] : List Int).any (hmB ls ts v)) = noHome ls ts v := rfl
      rw [htk3]
      cases hnv : noHome ls ts v with
      | true =>
        rw [find_some hvl hno hnv] at hlack
        refine wpc_cond (t := true) rfl ?_
        simp only [go_sem, binC]
        refine seq_reg ?_
        simp only [go_sem, binC, e7]
        refine wpc_ret ?_
        simp only [go_sem, binC, out_r, thenX_r]
        rw [hlack]
        exact ⟨Or.inr rfl, .tuple #[.int .i64 (v : Int), .bool true], by simp [resV, resL, res1, putE_get, notT, e7], rfl, rfl⟩
      | false =>
        refine wpc_cond (t := false) rfl ?_
        simp only [go_sem, binC]
        refine wpc_skip ?_
        simp only [go_sem, binC, out_n, thenX_n]
        refine wpc_reg ?_
        simp only [go_sem, binC, e7, hw1]
        simp only [go_sem, binC, thenX_n]
        refine ih (v + 1) _ (by omega) (fun q hq => ?_) (by simp only [go_sem, binC, e2]) (by simp only [go_sem, binC, e6]) (by simp only [go_sem, binC])
        by_cases hqv : q = v
        · subst hqv; exact hnv
        · exact hno q (by omega)
    | succ m ihm =>
      intro i e hi e2 e6 e7 e8 e9
      have hdi : decide ((i : Int) < 3) = true := decide_eq_true (by omega)
      have hw2 : IntKind.i64.wrap ((i : Int) + 1) = ((i + 1 : Nat) : Int) := by rw [wrap_id (by omega) (by omega)]; omega
      refine lp_step ?_
      refine seq_assoc (seq_reg ?_)
      simp only [go_sem, binC, e9, hdi]
      refine seq_cond (t := true) (by simp only [go_sem, binC]) ?_
      simp only [go_sem, binC]
      refine seq_skip (seq_block ?_)
      refine wpc_reg ?_
      have htk := any_take (P := hmB ls ts v) (i := i) (by omega)
      cases hc : (([0, 1, 2] : List Int).take i).any (hmB ls ts v) with
      | true =>
        rw [hc] at e8
        rw [hc, Bool.true_or] at htk
        simp only [go_sem, binC, e8, out_n, thenX_n]
        refine wpc_reg ?_
        simp only [go_sem, binC, e9, hw2]
        simp only [go_sem, binC, thenX_n]
        exact ihm (i + 1) _ (by omega) (by simp only [go_sem, binC, e2]) (by simp only [go_sem, binC, e6]) (by simp only [go_sem, binC, e7]) (by rw [htk]; simp only [go_sem, binC, e8]) (by simp only [go_sem, binC])
      | false =>
        rw [hc] at e8
        rw [hc, Bool.false_or] at htk
        simp only [go_sem, binC, e6, e7, e8, e9]
        refine op_callQ (by simp only [go_sem, binC, e6, e7, e9]; exact gh H2 W n ls l ts v i hL hlab (by omega) (by omega) (by omega) (by omega)) ?_
        simp only [go_sem, binC, out_n, thenX_n]
        refine wpc_reg ?_
        simp only [go_sem, binC, e9, hw2]
        simp only [go_sem, binC, thenX_n]
        exact ihm (i + 1) _ (by omega) (by simp only [go_sem, binC, e2]) (by simp only [go_sem, binC, e6]) (by simp only [go_sem, binC, e7]) (by rw [htk]; simp only [go_sem, binC]) (by simp only [go_sem, binC])
end Go.Proofs.YtiekbdijpfnagaaI
end
section
/- What has no host (the program's). -/
set_option linter.unusedVariables false
set_option linter.unusedSimpArgs false
namespace Go.Proofs.YtiekbdijpfnagaaI
open Go Go.RowKit
def c_iPlanLack : IFn := ⟨2, 55, [.t 4, .t 5],
 .seq (.reg none [
    ⟨(some 2), none, .box (.t 0)⟩,
    ⟨(some 3), none, .box (.t 1)⟩,
    ⟨(some 4), none, .mov (.c (.int .i64 0))⟩,
    ⟨(some 5), none, .mov (.c (.bool false))⟩])
 (.seq (.seq (.reg none [
     ⟨(some 11), none, .load true 2 (.t 2)⟩,
     ⟨(some 12), none, .call .q (.f 48) [(.t 11)]⟩,
     ⟨(some 13), none, .un .not (.t 12)⟩,
     ⟨(some 14), none, .mov (.t 13)⟩,
     ⟨(some 15), (some (14, false)), .load false 1 (.t 3)⟩,
     ⟨(some 16), (some (14, false)), .call .q (.f 49) [(.t 15)]⟩,
     ⟨(some 17), (some (14, false)), .un .not (.t 16)⟩,
     ⟨(some 18), none, .pick (.t 14) (.c (.bool true)) (.t 17)⟩])
  (.cond (.t 18) (.seq (.reg none [
      ⟨(some 4), none, .mov (.c (.int .i64 0))⟩,
      ⟨(some 5), none, .mov (.c (.bool false))⟩])
   (.ret)) (.skip)))
 (.seq (.seq (.reg none [
     ⟨(some 19), none, .fad 0 (.t 2)⟩,
     ⟨(some 20), none, .load false 1 (.t 19)⟩,
     ⟨(some 21), none, .len (.t 20)⟩,
     ⟨(some 22), none, .mov (.c (.int .i64 0))⟩])
  (.block 0 (.loop (.seq (.reg none [
       ⟨(some 23), none, .bin .lss (.t 22) (.t 21)⟩])
    (.seq (.cond (.t 23) (.skip) (.exit 0))
    (.seq (.block 1 (.seq (.reg none [
         ⟨(some 24), none, .mov (.t 22)⟩,
         ⟨(some 6), none, .new [(.int .i64 0)]⟩,
         ⟨none, none, .store 1 (.t 6) (.t 24)⟩])
      (.seq (.reg none [
         ⟨(some 25), none, .lit 1 3 3 [(.int .i64 0), (.int .i64 0), (.int .i64 0)] [(0, 1, (.c (.int .i64 0))), (1, 1, (.c (.int .i64 1))), (2, 1, (.c (.int .i64 2)))]⟩,
         ⟨(some 26), none, .mkf 76 [] [(.t 2), (.t 3), (.t 6)]⟩,
         ⟨(some 27), none, .call .q (.f 75) [(.t 25), (.t 26)]⟩,
         ⟨(some 28), none, .un .not (.t 27)⟩])
      (.cond (.t 28) (.seq (.reg none [
          ⟨(some 29), none, .load false 1 (.t 6)⟩,
          ⟨(some 4), none, .mov (.t 29)⟩,
          ⟨(some 5), none, .mov (.c (.bool true))⟩])
       (.ret)) (.skip)))))
    (.reg none [
      ⟨(some 30), none, .bin .add (.t 22) (.c (.int .i64 1))⟩,
      ⟨(some 22), none, .mov (.t 30)⟩])))))))
 (.seq (.reg (some 6) [
    ⟨(some 31), none, .load true 2 (.t 2)⟩,
    ⟨(some 32), none, .call .k (.f 50) [(.t 31)]⟩,
    ⟨(some 33), none, .load true 2 (.t 2)⟩,
    ⟨(some 34), none, .load false 1 (.t 3)⟩,
    ⟨(some 35), none, .call .k (.f 51) [(.t 33), (.t 34)]⟩,
    ⟨(some 7), none, .new [(.slice none 0 0)]⟩,
    ⟨none, none, .store 1 (.t 7) (.t 32)⟩,
    ⟨(some 8), none, .mov (.t 35)⟩])
 (.seq (.seq (.reg none [
     ⟨(some 36), none, .fad 1 (.t 2)⟩,
     ⟨(some 37), none, .load false 1 (.t 36)⟩,
     ⟨(some 38), none, .call .k (.f 52) [(.t 37)]⟩,
     ⟨(some 39), none, .len (.t 38)⟩,
     ⟨(some 40), none, .mov (.c (.int .i64 0))⟩])
  (.block 2 (.loop (.seq (.reg none [
       ⟨(some 41), none, .bin .lss (.t 40) (.t 39)⟩])
    (.seq (.cond (.t 41) (.skip) (.exit 2))
    (.seq (.block 3 (.seq (.reg none [
         ⟨(some 42), none, .mov (.t 40)⟩,
         ⟨(some 43), none, .iad 8 (.t 38) (.t 40)⟩,
         ⟨(some 44), none, .load true 8 (.t 43)⟩,
         ⟨(some 9), none, .new [(.int .i64 0)]⟩,
         ⟨(some 10), none, .new [(.int .i64 0), (.int .i64 0), (.int .i64 0), (.int .i64 0), (.int .i64 0), (.int .i64 0), (.slice none 0 0), (.slice none 0 0)]⟩,
         ⟨none, none, .store 1 (.t 9) (.t 42)⟩,
         ⟨none, none, .store 8 (.t 10) (.t 44)⟩])
      (.seq (.reg none [
         ⟨(some 45), none, .mov (.t 8)⟩,
         ⟨(some 46), none, .mkf 78 [] [(.t 2), (.t 3), (.t 10), (.t 7), (.t 9)]⟩,
         ⟨(some 47), none, .call .q (.f 77) [(.t 45), (.t 46)]⟩,
         ⟨(some 48), none, .un .not (.t 47)⟩])
      (.cond (.t 48) (.seq (.reg none [
          ⟨(some 49), none, .fad 0 (.t 2)⟩,
          ⟨(some 50), none, .load false 1 (.t 49)⟩,
          ⟨(some 51), none, .len (.t 50)⟩,
          ⟨(some 52), none, .load false 1 (.t 9)⟩,
          ⟨(some 53), none, .bin .add (.t 51) (.t 52)⟩,
          ⟨(some 4), none, .mov (.t 53)⟩,
          ⟨(some 5), none, .mov (.c (.bool true))⟩])
       (.ret)) (.skip)))))
    (.reg none [
      ⟨(some 54), none, .bin .add (.t 40) (.c (.int .i64 1))⟩,
      ⟨(some 40), none, .mov (.t 54)⟩])))))))
 (.seq (.reg none [
    ⟨(some 4), none, .mov (.c (.int .i64 0))⟩,
    ⟨(some 5), none, .mov (.c (.bool false))⟩])
 (.ret))))))⟩
def c_pl1 : IFn := ⟨4, 11, [.t 5],
 .seq (.reg none [
    ⟨(some 5), none, .mov (.c (.bool false))⟩])
 (.seq (.reg none [
    ⟨(some 6), none, .load true 2 (.t 1)⟩,
    ⟨(some 7), none, .load false 1 (.t 2)⟩,
    ⟨(some 8), none, .load false 1 (.t 3)⟩,
    ⟨(some 9), none, .mov (.t 0)⟩,
    ⟨(some 10), none, .call .q (.f 61) [(.t 6), (.t 7), (.t 8), (.t 9)]⟩,
    ⟨(some 5), none, .mov (.t 10)⟩])
 (.ret))⟩
def c_pl2 : IFn := ⟨6, 18, [.t 7],
 .seq (.reg none [
    ⟨(some 7), none, .mov (.c (.bool false))⟩])
 (.seq (.reg (some 8) [
    ⟨(some 8), none, .load true 2 (.t 1)⟩,
    ⟨(some 9), none, .load false 1 (.t 2)⟩,
    ⟨(some 10), none, .mov (.t 0)⟩,
    ⟨(some 11), none, .load true 8 (.t 3)⟩,
    ⟨(some 12), none, .load false 1 (.t 4)⟩,
    ⟨(some 13), none, .load false 1 (.t 5)⟩,
    ⟨(some 14), none, .iad 2 (.t 12) (.t 13)⟩,
    ⟨(some 15), none, .load true 2 (.t 14)⟩,
    ⟨(some 16), none, .call .q (.f 53) [(.t 8), (.t 9), (.t 10), (.t 11), (.t 15)]⟩,
    ⟨(some 17), none, .bin .geq (.t 16) (.c (.int .i64 0))⟩,
    ⟨(some 7), none, .mov (.t 17)⟩])
 (.ret))⟩
def c_cfLL : IFn := ⟨2, 9, [.t 4],
 .seq (.reg none [
    ⟨(some 4), none, .mov (.c (.bool false))⟩])
 (.seq (.reg none [
    ⟨(some 5), none, .mov (.t 0)⟩,
    ⟨(some 6), none, .mov (.t 1)⟩,
    ⟨(some 7), none, .call .q (.f 133) [(.t 5), (.t 6)]⟩,
    ⟨(some 8), none, .bin .geq (.t 7) (.c (.int .i64 0))⟩,
    ⟨(some 4), none, .mov (.t 8)⟩])
 (.ret))⟩
def c_ifLL : IFn := ⟨2, 19, [.t 4],
 .seq (.reg none [
    ⟨(some 4), none, .mov (.c (.int .i64 0))⟩])
 (.seq (.seq (.reg none [
     ⟨(some 6), none, .mov (.t 0)⟩,
     ⟨(some 7), none, .len (.t 6)⟩,
     ⟨(some 8), none, .mov (.c (.int .i64 0))⟩])
  (.block 0 (.loop (.seq (.reg none [
       ⟨(some 9), none, .bin .lss (.t 8) (.t 7)⟩])
    (.seq (.cond (.t 9) (.skip) (.exit 0))
    (.seq (.block 1 (.seq (.reg none [
         ⟨(some 10), none, .mov (.t 8)⟩,
         ⟨(some 5), none, .mov (.t 10)⟩])
      (.seq (.reg none [
         ⟨(some 11), none, .mov (.t 1)⟩,
         ⟨(some 12), none, .mov (.t 0)⟩,
         ⟨(some 13), none, .mov (.t 5)⟩,
         ⟨(some 14), none, .iad 1 (.t 12) (.t 13)⟩,
         ⟨(some 15), none, .load false 1 (.t 14)⟩,
         ⟨(some 16), none, .call .q (.t 11) [(.t 15)]⟩])
      (.cond (.t 16) (.seq (.reg none [
          ⟨(some 17), none, .mov (.t 5)⟩,
          ⟨(some 4), none, .mov (.t 17)⟩])
       (.ret)) (.skip)))))
    (.reg none [
      ⟨(some 18), none, .bin .add (.t 8) (.c (.int .i64 1))⟩,
      ⟨(some 8), none, .mov (.t 18)⟩])))))))
 (.seq (.reg none [
    ⟨(some 4), none, .mov (.c (.int .i64 (-1)))⟩])
 (.ret)))⟩
theorem ifIntM_ok {F : Nat → Option IFn} {f g : Nat} {first cap : Array Value} {P : Int → Bool} (hf : F f = some c_ifInt) (H : Heap) {v : Value} {l : List Int} (gp : ∀ x ∈ l, QC F g (first.toList ++ [.int .i64 x] ++ cap.toList) H (.bool (P x))) : SlR Co.int (vw 0 H) v l → ∃ r : Int, QC F f [v, .func (.func g) first cap] H (.int .i64 r) ∧ (0 ≤ r ↔ l.any P = true) := by
  intro hv
  have hv0 := hv
  obtain ⟨hl0, a, rfl, _⟩ := id hv
  suffices hh : ∃ w, QC F f [.slice a l.length l.length, .func (.func g) first cap] H w ∧ ∃ r : Int, w = .int .i64 r ∧ (0 ≤ r ↔ l.any P = true) by
    obtain ⟨w, h1, r, rfl, h2⟩ := hh
    exact ⟨r, h1, h2⟩
  refine QC.mkE hf rfl ?_
  refine seq_reg ?_
  simp only [go_sem, binC]
  refine seq_assoc (seq_reg ?_)
  simp only [go_sem, binC]
  refine seq_block (wpc_loop ?_)
  suffices hh : ∀ (m i : Nat) (e : Env), i + m = l.length → (l.take i).any P = false → e 0 = .slice a l.length l.length → e 1 = .func (.func g) first cap → e 7 = .int .i64 l.length → e 8 = .int .i64 i → W F H.length _ e H _ from
    hh l.length 0 _ (by omega) (by simp) (by simp only [go_sem, binC]) (by simp only [go_sem, binC]) (by simp only [go_sem, binC]) (by (simp only [go_sem, binC]) <;> rfl)
  intro m
  induction m with
  | zero =>
    intro i e hi hn e0 e1 e7 e8
    rw [List.take_of_length_le (by omega)] at hn
    refine lp_step ?_
    refine seq_reg ?_
    simp only [go_sem, binC, e7, e8]
    refine seq_cond (t := false) (by simp only [go_sem, binC]; rw [decide_eq_false (by omega)]) ?_
    simp only [go_sem, binC]
    refine seq_exit ?_
    simp only [go_sem, binC, thenX_e, out_e, thenX_n]
    refine seq_reg ?_
    simp only [go_sem, binC]
    exact wpc_ret ⟨Or.inr rfl, .int .i64 (-1), (by (simp only [go_sem, binC]) <;> rfl), ⟨-1, rfl, ⟨fun h => by omega, fun h => by rw [hn] at h; cases h⟩⟩, rfl⟩
  | succ m ih =>
    intro i e hi hn e0 e1 e7 e8
    have hil : i < l.length := by omega
    have hw1 : IntKind.i64.wrap ((i : Int) + 1) = ((i + 1 : Nat) : Int) := by rw [wrap_id (by omega) (by omega)]; omega
    obtain ⟨b, o, hv1, hg⟩ := gcJ hv0 hil
    simp only [Value.slice.injEq, and_true] at hv1
    subst hv1
    refine lp_step ?_
    refine seq_reg ?_
    simp only [go_sem, binC, e7, e8]
    refine seq_cond (t := true) (by simp only [go_sem, binC]; rw [decide_eq_true (by omega)]) ?_
    simp only [go_sem, binC]
    refine seq_skip (seq_block (seq_reg ?_))
    simp only [go_sem, binC, e8]
    refine seq_reg ?_
    simp only [go_sem, binC, e0, e1]
    refine ⟨⟨by omega, by omega⟩, ?_⟩
    simp only [go_sem, binC, Int.toNat_natCast, Nat.mul_one, hg, e1]
    refine op_callQc (g := g) (first := first) (cap := cap) (by simp only [go_sem, binC, e1]) (by simp only [go_sem, binC]; exact gp l[i] (List.getElem_mem hil)) ?_
    cases hx : P l[i] with
    | true =>
      simp only [go_sem, binC]
      refine wpc_cond (t := true) rfl ?_
      simp only [go_sem, binC]
      refine seq_reg ?_
      simp only [go_sem, binC]
      refine wpc_ret ?_
      simp only [go_sem, binC, out_r, thenX_r]
      exact ⟨Or.inr rfl, .int .i64 i, (by (simp only [go_sem, binC]) <;> rfl), ⟨i, rfl, ⟨fun _ => List.any_eq_true.2 ⟨_, List.getElem_mem hil, hx⟩, fun _ => by omega⟩⟩, rfl⟩
    | false =>
      simp only [go_sem, binC]
      refine wpc_cond (t := false) rfl ?_
      simp only [go_sem, binC]
      refine wpc_skip ?_
      simp only [go_sem, binC, out_n, thenX_n]
      refine wpc_reg ?_
      simp only [go_sem, binC, e8, hw1]
      simp only [go_sem, binC, thenX_n]
      refine ih (i + 1) _ (by omega) ?_ (by simp only [go_sem, binC, e0]) (by simp only [go_sem, binC, e1]) (by simp only [go_sem, binC, e7]) (by simp only [go_sem, binC])
      rw [List.take_add_one, List.getElem?_eq_getElem hil, List.any_append, hn]
      simp [hx]
theorem cfIntM_ok {F : Nat → Option IFn} {f g : Nat} {first cap : Array Value} {P : Int → Bool} (hf : F f = some c_cfInt) (gi : F 132 = some c_ifInt) (H : Heap) {v : Value} {l : List Int} (gp : ∀ x ∈ l, QC F g (first.toList ++ [.int .i64 x] ++ cap.toList) H (.bool (P x))) : SlR Co.int (vw 0 H) v l → QC F f [v, .func (.func g) first cap] H (.bool (l.any P)) := by
  intro hv
  obtain ⟨r, h1, h2⟩ := ifIntM_ok gi H gp hv
  refine QC.mk hf rfl ?_
  refine seq_reg ?_
  simp only [go_sem, binC]
  refine seq_reg ?_
  simp only [go_sem, binC]
  refine op_callQ (by simp only [go_sem, binC]; exact h1) ?_
  simp only [go_sem, binC]
  refine wpc_ret ⟨Or.inr rfl, _, (by (simp only [go_sem, binC]) <;> rfl), ?_, rfl⟩
  have : decide (0 ≤ r) = l.any P := by
    rw [Bool.eq_iff_iff, decide_eq_true_eq]
    exact h2
  rw [this]
theorem gcLL {H : Heap} {v : Value} {l : List (List Int)} (h : SlR (Co.sl Co.int) (vw 0 H) v l) {i : Nat} (hi : i < l.length) : ∃ b o xv, v = .slice (some ⟨b, o, none⟩) l.length l.length ∧ getCells H b (o + i) 1 = some [xv] ∧ SlR Co.int (vw 0 H) xv l[i] := by
  obtain ⟨h0, a, rfl, h1⟩ := h
  obtain ⟨b, o, rfl, h2⟩ := h1.resolve_left (fun h => by rw [h] at hi; simp at hi)
  obtain ⟨cs, h3, h4⟩ := h2 i hi
  have h5 := rng_gc h3
  obtain ⟨xv, rfl, h6⟩ := h4
  have h7 : getCells H b (o + i * 1) 1 = some [xv] := h5
  rw [Nat.mul_one] at h7
  exact ⟨b, o, xv, rfl, h7, h6⟩
theorem ifLLM_ok {F : Nat → Option IFn} {f g : Nat} {first cap : Array Value} {P : List Int → Bool} (hf : F f = some c_ifLL) (H : Heap) {v : Value} {l : List (List Int)} (gp : ∀ x ∈ l, ∀ xv, SlR Co.int (vw 0 H) xv x → QC F g (first.toList ++ [xv] ++ cap.toList) H (.bool (P x))) : SlR (Co.sl Co.int) (vw 0 H) v l → ∃ r : Int, QC F f [v, .func (.func g) first cap] H (.int .i64 r) ∧ (0 ≤ r ↔ l.any P = true) := by
  intro hv
  have hv0 := hv
  obtain ⟨hl0, a, rfl, _⟩ := id hv
  suffices hh : ∃ w, QC F f [.slice a l.length l.length, .func (.func g) first cap] H w ∧ ∃ r : Int, w = .int .i64 r ∧ (0 ≤ r ↔ l.any P = true) by
    obtain ⟨w, h1, r, rfl, h2⟩ := hh
    exact ⟨r, h1, h2⟩
  refine QC.mkE hf rfl ?_
  refine seq_reg ?_
  simp only [go_sem, binC]
  refine seq_assoc (seq_reg ?_)
  simp only [go_sem, binC]
  refine seq_block (wpc_loop ?_)
  suffices hh : ∀ (m i : Nat) (e : Env), i + m = l.length → (l.take i).any P = false → e 0 = .slice a l.length l.length → e 1 = .func (.func g) first cap → e 7 = .int .i64 l.length → e 8 = .int .i64 i → W F H.length _ e H _ from
    hh l.length 0 _ (by omega) (by simp) (by simp only [go_sem, binC]) (by simp only [go_sem, binC]) (by simp only [go_sem, binC]) (by (simp only [go_sem, binC]) <;> rfl)
  intro m
  induction m with
  | zero =>
    intro i e hi hn e0 e1 e7 e8
    rw [List.take_of_length_le (by omega)] at hn
    refine lp_step ?_
    refine seq_reg ?_
    simp only [go_sem, binC, e7, e8]
    refine seq_cond (t := false) (by simp only [go_sem, binC]; rw [decide_eq_false (by omega)]) ?_
    simp only [go_sem, binC]
    refine seq_exit ?_
    simp only [go_sem, binC, thenX_e, out_e, thenX_n]
    refine seq_reg ?_
    simp only [go_sem, binC]
    exact wpc_ret ⟨Or.inr rfl, .int .i64 (-1), (by (simp only [go_sem, binC]) <;> rfl), ⟨-1, rfl, ⟨fun h => by omega, fun h => by rw [hn] at h; cases h⟩⟩, rfl⟩
  | succ m ih =>
    intro i e hi hn e0 e1 e7 e8
    have hil : i < l.length := by omega
    have hw1 : IntKind.i64.wrap ((i : Int) + 1) = ((i + 1 : Nat) : Int) := by rw [wrap_id (by omega) (by omega)]; omega
    obtain ⟨b, o, xv, hv1, hg, hxv⟩ := gcLL hv0 hil
    simp only [Value.slice.injEq, and_true] at hv1
    subst hv1
    refine lp_step ?_
    refine seq_reg ?_
    simp only [go_sem, binC, e7, e8]
    refine seq_cond (t := true) (by simp only [go_sem, binC]; rw [decide_eq_true (by omega)]) ?_
    simp only [go_sem, binC]
    refine seq_skip (seq_block (seq_reg ?_))
    simp only [go_sem, binC, e8]
    refine seq_reg ?_
    simp only [go_sem, binC, e0, e1]
    refine ⟨⟨by omega, by omega⟩, ?_⟩
    simp only [go_sem, binC, Int.toNat_natCast, Nat.mul_one, hg, e1]
    refine op_callQc (g := g) (first := first) (cap := cap) (by simp only [go_sem, binC, e1]) (by simp only [go_sem, binC]; exact gp l[i] (List.getElem_mem hil) xv hxv) ?_
    cases hx : P l[i] with
    | true =>
      simp only [go_sem, binC]
      refine wpc_cond (t := true) rfl ?_
      simp only [go_sem, binC]
      refine seq_reg ?_
      simp only [go_sem, binC]
      refine wpc_ret ?_
      simp only [go_sem, binC, out_r, thenX_r]
      exact ⟨Or.inr rfl, .int .i64 i, (by (simp only [go_sem, binC]) <;> rfl), ⟨i, rfl, ⟨fun _ => List.any_eq_true.2 ⟨_, List.getElem_mem hil, hx⟩, fun _ => by omega⟩⟩, rfl⟩
    | false =>
      simp only [go_sem, binC]
      refine wpc_cond (t := false) rfl ?_
      simp only [go_sem, binC]
      refine wpc_skip ?_
      simp only [go_sem, binC, out_n, thenX_n]
      refine wpc_reg ?_
      simp only [go_sem, binC, e8, hw1]
      simp only [go_sem, binC, thenX_n]
      refine ih (i + 1) _ (by omega) ?_ (by simp only [go_sem, binC, e0]) (by simp only [go_sem, binC, e1]) (by simp only [go_sem, binC, e7]) (by simp only [go_sem, binC])
      rw [List.take_add_one, List.getElem?_eq_getElem hil, List.any_append, hn]
      simp [hx]
theorem cfLLM_ok {F : Nat → Option IFn} {f g : Nat} {first cap : Array Value} {P : List Int → Bool} (hf : F f = some c_cfLL) (gi : F 133 = some c_ifLL) (H : Heap) {v : Value} {l : List (List Int)} (gp : ∀ x ∈ l, ∀ xv, SlR Co.int (vw 0 H) xv x → QC F g (first.toList ++ [xv] ++ cap.toList) H (.bool (P x))) : SlR (Co.sl Co.int) (vw 0 H) v l → QC F f [v, .func (.func g) first cap] H (.bool (l.any P)) := by
  intro hv
  obtain ⟨r, h1, h2⟩ := ifLLM_ok gi H gp hv
  refine QC.mk hf rfl ?_
  refine seq_reg ?_
  simp only [go_sem, binC]
  refine seq_reg ?_
  simp only [go_sem, binC]
  refine op_callQ (by simp only [go_sem, binC]; exact h1) ?_
  simp only [go_sem, binC]
  refine wpc_ret ⟨Or.inr rfl, _, (by (simp only [go_sem, binC]) <;> rfl), ?_, rfl⟩
  have : decide (0 ≤ r) = l.any P := by
    rw [Bool.eq_iff_iff, decide_eq_true_eq]
    exact h2
  rw [this]
theorem firstH_ge {P : Int → Bool} : (0 ≤ firstH P) ↔ ([0, 1, 2] : List Int).any P = true := by
  unfold firstH
  cases h0 : P 0 <;> cases h1 : P 1 <;> cases h2 : P 2 <;> simp [h0, h1, h2]
theorem pl1_ok {F : Nat → Option IFn} (hf : F 76 = some c_pl1) (gh : HomeI F 61) {H : Heap} {b2 b3 b6 : Nat} {lv sv tw : Value} {ls : List (Int × Int)} {ts : List Int} {v : Nat} (osv : one sv = true) (hb2 : H[b2]? = some ⟨[lv, sv], 0, 0, false, true⟩) (hb3 : H[b3]? = some ⟨[tw], 0, 0, false, true⟩) (hb6 : H[b6]? = some ⟨[.int .i64 v], 0, 0, false, true⟩) (r1 : SlR Co.p2 (vw 0 H) lv ls) (hlab : ls.all labB = true) (r2 : SlR Co.int (vw 0 H) tw ts) (htr : trP ts) (hv : v < ls.length) {h : Int} (h0 : 0 ≤ h) (h2 : h ≤ 2) :
    QC F 76 [.int .i64 h, ptr b2 0, ptr b3 0, ptr b6 0] H (.bool (hmB ls ts v h)) := by
  have olv : one lv = true := by obtain ⟨_, a, rfl, _⟩ := r1; rfl
  obtain ⟨_, ta, rfl, _⟩ := id r2
  refine QC.mk hf rfl ?_
  refine seq_reg ?_
  simp only [go_sem, binC]
  refine seq_reg ?_
  simp only [go_sem, binC, gc_of hb2, gc_of hb3, gc_of hb6, inBlk_some, olv, osv]
  refine op_callQ (by simp only [go_sem, binC]; exact gh H _ _ _ ls ts v h osv r1 hlab r2 htr (by omega) (by omega) h0 h2) ?_
  simp only [go_sem, binC]
  exact wpc_ret ⟨Or.inr rfl, _, (by (simp only [go_sem, binC]) <;> rfl), rfl, rfl⟩
theorem pl2_ok {F : Nat → Option IFn} (hf : F 78 = some c_pl2) (gd : DoerI F 53) {H : Heap} {b2 b3 b10 b7 b9 n : Nat} {lv sv tw wa tv ev : Value} {sk sx sa sbb sc sg : Int} {ls : List (Int × Int)} {l : List (TStep n)} {ts homes : List Int} {j : Nat} {hw : Value} (osv : one sv = true) (otv : one tv = true) (oev : one ev = true) (hb2 : H[b2]? = some ⟨[lv, sv], 0, 0, false, true⟩) (hb3 : H[b3]? = some ⟨[tw], 0, 0, false, true⟩) (hb10 : H[b10]? = some ⟨[.int .i64 sk, .int .i64 sx, .int .i64 sa, .int .i64 sbb, .int .i64 sc, .int .i64 sg, tv, ev], 0, 0, false, true⟩) (hb7 : H[b7]? = some ⟨[wa], 0, 0, false, true⟩) (hb9 : H[b9]? = some ⟨[.int .i64 j], 0, 0, false, true⟩)
    (hj : j < (allSL n l).length) (rds : Co.anyS.rd (vw 0 H) [.int .i64 sk, .int .i64 sx, .int .i64 sa, .int .i64 sbb, .int .i64 sc, .int .i64 sg, tv, ev] (allSL n l)[j]) (ra : SlR Co.p2 (vw 0 H) wa (atL n ls (7, 7) l)) (r1 : SlR Co.p2 (vw 0 H) lv ls) (hP : progB n (ls, l) = true) (r2 : SlR Co.int (vw 0 H) tw ts) (htr : trP ts) (rh : SlR Co.int (vw 0 H) hw homes) (hho : homesP ls.length homes) :
    QC F 78 [hw, ptr b2 0, ptr b3 0, ptr b10 0, ptr b7 0, ptr b9 0] H (.bool (anyDo n ls l ts j homes)) := by
  have hlab : ls.all labB = true := progB_lab hP
  have olv : one lv = true := by obtain ⟨_, a, rfl, _⟩ := r1; rfl
  obtain ⟨_, ta, rfl, _⟩ := id r2
  obtain ⟨_, ha, rfl, _⟩ := id rh
  have hja : j < (atL n ls (7, 7) l).length := by rw [atL_len, ← allSL_len]; exact hj
  have hokj := progB_okA hP (List.getElem_mem hj)
  have hoj : labB (atL n ls (7, 7) l)[j] = true := List.all_eq_true.1 (atL_lab hlab rfl l) _ (List.getElem_mem hja)
  obtain ⟨ab, ao, haw, hag⟩ := slP_at ra hja
  subst haw
  have hPd : doN n ls l ts homes j = doesB ls ts homes (shA (allSL n l)[j]) (stA ls (allSL n l)[j]) (atL n ls (7, 7) l)[j] := funext fun h => doN_eq hj hja
  have hfin : (decide (0 ≤ doerV ls ts homes (shA (allSL n l)[j]) (stA ls (allSL n l)[j]) (atL n ls (7, 7) l)[j])) = anyDo n ls l ts j homes := by
    unfold anyDo doerV
    rw [← hPd, Bool.eq_iff_iff, decide_eq_true_eq]
    exact firstH_ge
  refine QC.mk hf rfl ?_
  refine seq_reg ?_
  simp only [go_sem, binC]
  refine seq_regD ?_
  simp only [go_sem, binC, gc_of hb2, gc_of hb3, gc_of hb10, gc_of hb7, gc_of hb9, inBlk_some, olv, osv, otv, oev]
  refine ⟨⟨by omega, by omega⟩, ?_⟩
  simp only [go_sem, binC, Int.toNat_natCast, hag]
  refine op_callQ (by simp only [go_sem, binC]; exact gd H _ sv _ _ _ ls ts homes (allSL n l)[j] (atL n ls (7, 7) l)[j] osv r1 hlab r2 htr rh hho rds hokj hoj) ?_
  simp only [go_sem, binC, hfin]
  exact wpc_ret ⟨Or.inr rfl, _, (by (simp only [go_sem, binC]) <;> rfl), rfl, rfl⟩
theorem iPlanLack_ok {F : Nat → Option IFn} {f : Nat} (hf : F f = some c_iPlanLack) (gt : TypeP F 48) (gtr : TrOk F 49) (ga : AtP F 50) (gh : HomesI F 51) (gl : ∀ n, AllP F 52 n) (gho : HomeI F 61) (gd : DoerI F 53) (h1 : F 76 = some c_pl1) (h2 : F 78 = some c_pl2) (hcf : F 75 = some c_cfInt) (hif : F 132 = some c_ifInt) (hcl : F 77 = some c_cfLL) (hil' : F 133 = some c_ifLL) : LackOk F f := by
  intro H n lv sv tw ls l ts r1 r2 hsm r3
  have osv : one sv = true := by obtain ⟨_, a, rfl, _⟩ := r2; rfl
  obtain ⟨_, la, rfl, _⟩ := id r1
  obtain ⟨_, ta, rfl, _⟩ := id r3
  refine QC.mk hf rfl ?_
  refine seq_reg ?_
  simp only [go_sem, binC, osv]
  refine wpc_gen fun H1 hH1 => ?_
  have hx1 : AgX [] H H1 := hH1 ▸ AgX.app [] _ _
  have hb2 : H1[H.length]? = some ⟨[.slice la ls.length ls.length, sv], 0, 0, false, true⟩ := hH1 ▸ get_new0 _ _
  have hb3 : H1[H.length + 1]? = some ⟨[.slice ta ts.length ts.length], 0, 0, false, true⟩ := hH1 ▸ get_new _ _ 1
  clear hH1
  have hl1 := (List.getElem?_eq_some_iff.1 hb3).1
  refine seq_assoc (seq_reg ?_)
  simp only [go_sem, binC, gc_of hb2, gc_of hb3, inBlk_some, osv]
  refine op_callQ (by simp only [go_sem, binC]; exact gt H1 n _ _ ls l (r1.mono (agx_sub hx1)) (r2.mono (agx_sub hx1)) hsm) ?_
  cases ht : typeP n (ls, l) with
  | false =>
    have hn : lackV n (ls, l) ts = (0, false) := by unfold lackV; rw [ht]; rfl
    rw [hn]
    simp only [go_sem, binC]
    refine seq_cond (t := true) rfl ?_
    simp only [go_sem, binC]
    refine seq_assoc (seq_reg ?_)
    simp only [go_sem, binC]
    exact seq_ret ⟨Or.inr rfl, .tuple #[.int .i64 0, .bool false], by simp [resV, resL, res1, putE_get, notT], rfl, rfl⟩
  | true =>
  simp only [go_sem, binC, gc_of hb3, inBlk_some]
  refine op_callQ (by simp only [go_sem, binC]; exact gtr.k H1 _ ts (r3.mono (agx_sub hx1))) ?_
  cases hk : trK ts with
  | false =>
    have hn : lackV n (ls, l) ts = (0, false) := by unfold lackV; rw [hk, Bool.and_false]; rfl
    rw [hn]
    simp only [go_sem, binC]
    refine seq_cond (t := true) rfl ?_
    simp only [go_sem, binC]
    refine seq_assoc (seq_reg ?_)
    simp only [go_sem, binC]
    exact seq_ret ⟨Or.inr rfl, .tuple #[.int .i64 0, .bool false], by simp [resV, resL, res1, putE_get, notT], rfl, rfl⟩
  | true =>
  simp only [go_sem, binC]
  refine seq_cond (t := false) rfl ?_
  simp only [go_sem, binC]
  have htr := trK_iff.1 hk
  have hP : progB n (ls, l) = true := by
    unfold typeP at ht
    simp only [Bool.and_eq_true] at ht
    exact ht.1
  have hlab : ls.all labB = true := progB_lab hP
  have hls4 : ls.length ≤ 4 := progB_len hP
  have hcnt : (allL n l).length ≤ 8 := progB_cnt hP hsm
  have hsl := allSL_len l
  have hlack : lackV n (ls, l) ts = (match (List.range ls.length).find? (noHome ls ts) with
  | some v => ((v : Int), true)
  | none => match (List.range (allSL n l).length).find? (noDo n ls l ts) with
    | some j => ((ls.length : Int) + j, true)
    | none => (0, false)) := by unfold lackV; rw [ht, hk]; rfl
  refine seq_skip (seq_assoc (seq_reg ?_))
  simp only [go_sem, binC, gc_of hb2, inBlk_some]
  refine seq_block (wpc_loop ?_)
  suffices hh : ∀ (k v : Nat) (e : Env) (Hc : Heap), v + k = ls.length → AgX [] H1 Hc → (∀ q, q < v → noHome ls ts q = false) → e 2 = ptr H.length 0 → e 3 = ptr (H.length + 1) 0 → e 21 = .int .i64 ls.length → e 22 = .int .i64 v → Go.Proofs.YtiekbdijpfnagaaI.W F H.length _ e Hc _ from
    hh ls.length 0 _ H1 (by omega) (AgX.refl _ _) (fun q h => by omega) (by simp only [go_sem, binC]) (by simp only [go_sem, binC]) (by simp only [go_sem, binC]) (by (simp only [go_sem, binC]) <;> rfl)
  intro k
  induction k with
  | zero =>
    intro v e Hc hv hxc hno e2 e3 e21 e22
    obtain rfl : v = ls.length := by omega
    have hlack2 := hlack
    rw [find_none hno] at hlack2
    simp only at hlack2
    have hb2c := hxc.get hb2 (by simp)
    have hb3c := hxc.get hb3 (by simp)
    have hx0c := hx1.tr hxc
    refine lp_step ?_
    refine seq_reg ?_
    simp only [go_sem, binC, e21, e22]
    refine seq_cond (t := false) (by simp only [go_sem, binC]; rw [decide_eq_false (by omega)]) ?_
    simp only [go_sem, binC]
    refine seq_exit ?_
    simp only [go_sem, binC, thenX_e, out_e, thenX_n]
    refine seq_regD ?_
    simp only [go_sem, binC, e2, e3, gc_of hb2c, inBlk_some, osv]
    obtain ⟨wa, H2, k2, hx2, oa⟩ := ga Hc n _ sv ls l (r1.mono (agx_sub hx0c)) (r2.mono (agx_sub hx0c)) hsm hP
    refine op_callK (by simp only [go_sem, binC]; exact k2) ?_
    have hb22 := hx2.get hb2c (by simp)
    have hb32 := hx2.get hb3c (by simp)
    have hx02 := hx0c.tr hx2
    simp only [go_sem, binC, e2, e3, gc_of hb22, gc_of hb32, inBlk_some, osv]
    obtain ⟨wh, H3, k3, hx3, oh⟩ := gh H2 _ sv _ ls ts osv (r1.mono (agx_sub hx02)) hlab hls4 (r3.mono (agx_sub hx02)) htr
    refine op_callK (by simp only [go_sem, binC]; exact k3) ?_
    obtain ⟨aa, haa⟩ := oa.shape
    subst haa
    obtain ⟨ah, hah⟩ := oh.shape
    subst hah
    have hx03 := hx02.tr hx3
    have hl0c := hx0c.1
    have hl2' := hx2.1
    have hl3' := hx3.1
    simp only [go_sem, binC]
    refine ⟨by omega, ?_⟩
    refine wpc_gen fun H4 hH4 => ?_
    have hx4 : AgX [] H3 H4 := hH4 ▸ AgX.app [] _ _
    have hb7 : H4[H3.length]? = some ⟨[.slice aa (atL n ls (7, 7) l).length (atL n ls (7, 7) l).length], 0, 0, false, true⟩ := hH4 ▸ get_new0 _ _
    clear hH4
    have hx04 := hx03.tr hx4
    have hb24 := (hx3.tr hx4).get hb22 (by simp)
    have hb34 := (hx3.tr hx4).get hb32 (by simp)
    have qa : SlR Co.p2 (vw 0 H4) (.slice aa (atL n ls (7, 7) l).length (atL n ls (7, 7) l).length) (atL n ls (7, 7) l) := ((oa.keep (Nat.le_refl _) (hx3.tr hx4) (fun _ _ => by simp)).mono (agx_sub (hx2.tr (hx3.tr hx4)))).sl rfl (fun _ _ h => h)
    have qh : SlR (Co.sl Co.int) (vw 0 H4) (.slice ah (hmL ls ts ls.length).length (hmL ls ts ls.length).length) (hmL ls ts ls.length) := ((oh.keep (Nat.le_refl _) hx4 (fun _ _ => by simp)).mono (agx_sub hx4)).sl rfl (fun _ _ h => h)
    refine seq_assoc (seq_reg ?_)
    simp only [go_sem, binC, e2, gc_of hb24, inBlk_some]
    obtain ⟨wl, H5, k5, hx5, ol⟩ := gl n (vw 0 H) H4 sv l (agx_sub hx04) r2 (by omega)
    refine op_callK (by simp only [go_sem, binC]; exact k5) ?_
    obtain ⟨al, hal⟩ := ol.shape
    subst hal
    simp only [go_sem, binC]
    have hb25 := hx5.get hb24 (by simp)
    have hb35 := hx5.get hb34 (by simp)
    have hb75 := hx5.get hb7 (by simp)
    refine seq_block (wpc_loop ?_)
    suffices hh : ∀ (k j : Nat) (e : Env) (Hd : Heap), j + k = (allSL n l).length → AgX [] H5 Hd → (∀ q, q < j → noDo n ls l ts q = false) → e 2 = ptr H.length 0 → e 3 = ptr (H.length + 1) 0 → e 7 = ptr H3.length 0 → e 8 = .slice ah (hmL ls ts ls.length).length (hmL ls ts ls.length).length → e 38 = .slice al (allSL n l).length (allSL n l).length → e 39 = .int .i64 (allSL n l).length → e 40 = .int .i64 j → Go.Proofs.YtiekbdijpfnagaaI.W F H.length _ e Hd _ from
      hh (allSL n l).length 0 _ H5 (by omega) (AgX.refl _ _) (fun q h => by omega) (by simp only [go_sem, binC, e2]) (by simp only [go_sem, binC, e3]) (by simp only [go_sem, binC]) (by simp only [go_sem, binC]) (by simp only [go_sem, binC]) (by simp only [go_sem, binC]) (by (simp only [go_sem, binC]) <;> rfl)
    clear e2 e3 e21 e22
    intro k
    induction k with
    | zero =>
      intro j e Hd hj hxd hnd e2 e3 e7 e8 e38 e39 e40
      obtain rfl : j = (allSL n l).length := by omega
      rw [find_none hnd] at hlack2
      refine lp_step ?_
      refine seq_reg ?_
      simp only [go_sem, binC, e39, e40]
      refine seq_cond (t := false) (by simp only [go_sem, binC]; rw [decide_eq_false (by omega)]) ?_
      simp only [go_sem, binC]
      refine seq_exit ?_
      simp only [go_sem, binC, thenX_e, out_e, thenX_n]
      refine seq_reg ?_
      simp only [go_sem, binC]
      rw [hlack2]
      exact wpc_ret ⟨Or.inr rfl, .tuple #[.int .i64 0, .bool false], by simp [resV, resL, res1, putE_get, notT], rfl, rfl⟩
    | succ k ihj =>
      intro j e Hd hj hxd hnd e2 e3 e7 e8 e38 e39 e40
      have hjl : j < (allSL n l).length := by omega
      have hw1 : IntKind.i64.wrap ((j : Int) + 1) = ((j + 1 : Nat) : Int) := by rw [wrap_id (by omega) (by omega)]; omega
      have hw2 : IntKind.i64.wrap ((ls.length : Int) + (j : Int)) = (ls.length : Int) + (j : Int) := wrap_id (by omega) (by omega)
      have hx4d := hx5.tr hxd
      have hx0d := hx04.tr hx4d
      obtain ⟨bs, cs, hws, gcs, rds⟩ := (ol.keep (Nat.le_refl _) hxd (fun _ _ => by simp)).at hjl
      simp only [Value.slice.injEq, and_true] at hws
      subst hws
      have rdsc := rds
      obtain ⟨sk, sx, sa, sbb, sc, sg, tv, ev, tl, el, hs2, hcs, rg, otv, oev, _, _⟩ := anyS_rd rds
      subst hcs
      have hld := hx0d.1
      refine lp_step ?_
      refine seq_reg ?_
      simp only [go_sem, binC, e39, e40]
      refine seq_cond (t := true) (by simp only [go_sem, binC]; rw [decide_eq_true (by omega)]) ?_
      simp only [go_sem, binC]
      refine seq_skip (seq_block (seq_reg ?_))
      simp only [go_sem, binC, e38, e40]
      refine ⟨⟨by omega, by omega⟩, ?_⟩
      simp only [go_sem, binC, Int.toNat_natCast, Nat.zero_add, gcs, otv, oev]
      refine ⟨by omega, ?_⟩
      refine ⟨by omega, ?_⟩
      refine wpc_gen fun H6 hH6 => ?_
      have hx6 : AgX [] Hd H6 := hH6 ▸ AgX.app [] _ _
      have hb9 : H6[Hd.length]? = some ⟨[.int .i64 j], 0, 0, false, true⟩ := hH6 ▸ get_new0 _ _
      have hb10 : H6[Hd.length + 1]? = some ⟨[.int .i64 sk, .int .i64 sx, .int .i64 sa, .int .i64 sbb, .int .i64 sc, .int .i64 sg, tv, ev], 0, 0, false, true⟩ := hH6 ▸ get_new _ _ 1
      clear hH6
      have hx46 := hx4d.tr hx6
      have hx06 := hx0d.tr hx6
      have hx56 := hxd.tr hx6
      have hb26 := hx56.get hb25 (by simp)
      refine seq_reg ?_
      simp only [go_sem, binC, e2, e3, e7, e8]
      have hcall := cfLLM_ok (F := F) (g := 78) (first := #[]) (cap := #[ptr H.length 0, ptr (H.length + 1) 0, ptr (Hd.length + 1) 0, ptr H3.length 0, ptr Hd.length 0]) (P := anyDo n ls l ts j) hcl hil' H6 (v := .slice ah (hmL ls ts ls.length).length (hmL ls ts ls.length).length) (l := hmL ls ts ls.length) (fun x hx xv hxv => by
        have hel := hmL_el ls.length x hx
        exact pl2_ok h2 gd osv otv oev hb26 (hx56.get hb35 (by simp)) hb10 (hx56.get hb75 (by simp)) hb9 hjl (Co.anyS.mono (agx_sub hx06) rdsc) (qa.mono (agx_sub hx46)) (r1.mono (agx_sub hx06)) hP (r3.mono (agx_sub hx06)) htr hxv ⟨hel.1, hel.2.1⟩) (qh.mono (agx_sub hx46))
      refine ⟨rfl, ?_⟩
      refine op_callQ (by simp only [go_sem, binC]; exact hcall) ?_
      cases hres : (hmL ls ts ls.length).any (anyDo n ls l ts j) with
      | true =>
        have hnj : noDo n ls l ts j = false := by unfold noDo; rw [hres]; rfl
        simp only [go_sem, binC]
        refine wpc_cond (t := false) rfl ?_
        simp only [go_sem, binC]
        refine wpc_skip ?_
        simp only [go_sem, binC, out_n, thenX_n]
        refine wpc_reg ?_
        simp only [go_sem, binC, e40, hw1]
        simp only [go_sem, binC, thenX_n]
        refine ihj (j + 1) _ H6 (by omega) hx56 (fun q hq => ?_) (by simp only [go_sem, binC, e2]) (by simp only [go_sem, binC, e3]) (by simp only [go_sem, binC, e7]) (by simp only [go_sem, binC, e8]) (by simp only [go_sem, binC, e38]) (by simp only [go_sem, binC, e39]) (by simp only [go_sem, binC])
        by_cases hqj : q = j
        · subst hqj; exact hnj
        · exact hnd q (by omega)
      | false =>
        have hnj : noDo n ls l ts j = true := by unfold noDo; rw [hres]; rfl
        rw [find_some hjl hnd hnj] at hlack2
        simp only [go_sem, binC]
        refine wpc_cond (t := true) rfl ?_
        simp only [go_sem, binC]
        refine seq_reg ?_
        simp only [go_sem, binC, e2, gc_of hb26, gc_of hb9, inBlk_some, hw2]
        refine wpc_ret ?_
        simp only [go_sem, binC, out_r, thenX_r]
        rw [hlack2]
        exact ⟨Or.inr rfl, .tuple #[.int .i64 ((ls.length : Int) + (j : Int)), .bool true], by simp [resV, resL, res1, putE_get, notT], rfl, rfl⟩
  | succ k ih =>
    intro v e Hc hv hxc hno e2 e3 e21 e22
    have hvl : v < ls.length := by omega
    have hw1 : IntKind.i64.wrap ((v : Int) + 1) = ((v + 1 : Nat) : Int) := by rw [wrap_id (by omega) (by omega)]; omega
    have hlc := hxc.1
    refine lp_step ?_
    refine seq_reg ?_
    simp only [go_sem, binC, e21, e22]
    refine seq_cond (t := true) (by simp only [go_sem, binC]; rw [decide_eq_true (by omega)]) ?_
    simp only [go_sem, binC]
    refine seq_skip (seq_block (seq_reg ?_))
    simp only [go_sem, binC, e22]
    refine ⟨by omega, ?_⟩
    refine wpc_gen fun H2 hH2 => ?_
    have hx2 : AgX [] Hc H2 := hH2 ▸ AgX.app [] _ _
    have hb6 : H2[Hc.length]? = some ⟨[.int .i64 v], 0, 0, false, true⟩ := hH2 ▸ get_new0 _ _
    clear hH2
    refine seq_reg ?_
    simp only [go_sem, binC, e2, e3]
    generalize hH3 : H2 ++ [(⟨[.int .i64 0, .int .i64 1, .int .i64 2], 1, 3, true, true⟩ : Blk)] = H3
    have hx3 : AgX [] H2 H3 := hH3 ▸ AgX.app [] _ _
    have hbl : H3[H2.length]? = some ⟨ints [0, 1, 2], 1, 3, true, true⟩ := hH3 ▸ get_new0 _ _
    clear hH3
    have hx13 := hxc.tr (hx2.tr hx3)
    have hx03 := hx1.tr hx13
    have hb63 := hx3.get hb6 (by simp)
    have hcall := cfIntM_ok (F := F) (g := 76) (first := #[]) (cap := #[ptr H.length 0, ptr (H.length + 1) 0, ptr Hc.length 0]) (P := hmB ls ts v) hcf hif H3 (v := sli H2.length 0 3) (l := [0, 1, 2]) (fun x hx => by
      simp only [List.mem_cons, List.not_mem_nil, or_false] at hx
      exact pl1_ok h1 gho osv (hx13.get hb2 (by simp)) (hx13.get hb3 (by simp)) hb63 (r1.mono (agx_sub hx03)) hlab (r3.mono (agx_sub hx03)) htr hvl (by omega) (by omega)) (ints_sl0 (l := [0, 1, 2]) hbl (fun x hx => by simp only [List.mem_cons, List.not_mem_nil, or_false] at hx; unfold RgI; omega) (by simp))
    refine ⟨rfl, ?_⟩
    refine op_callQ (by simp only [go_sem, binC]; exact hcall) ?_
    cases hnv : noHome ls ts v with
    | true =>
      have hany : ([0, 1, 2] : List Int).any (hmB ls ts v) = false := by unfold noHome at hnv; simpa using hnv
      rw [hany]
      rw [find_some hvl hno hnv] at hlack
      simp only [go_sem, binC]
      refine wpc_cond (t := true) rfl ?_
      simp only [go_sem, binC]
      refine seq_reg ?_
      simp only [go_sem, binC, gc_of hb63, inBlk_some]
      refine wpc_ret ?_
      simp only [go_sem, binC, out_r, thenX_r]
      rw [hlack]
      exact ⟨Or.inr rfl, .tuple #[.int .i64 (v : Int), .bool true], by simp [resV, resL, res1, putE_get, notT], rfl, rfl⟩
    | false =>
      have hany : ([0, 1, 2] : List Int).any (hmB ls ts v) = true := by
        unfold noHome at hnv
        rw [Bool.not_eq_false'] at hnv
        exact hnv
      rw [hany]
      simp only [go_sem, binC]
      refine wpc_cond (t := false) rfl ?_
      simp only [go_sem, binC]
      refine wpc_skip ?_
      simp only [go_sem, binC, out_n, thenX_n]
      refine wpc_reg ?_
      simp only [go_sem, binC, e22, hw1]
      simp only [go_sem, binC, thenX_n]
      refine ih (v + 1) _ H3 (by omega) hx13 (fun q hq => ?_) (by simp only [go_sem, binC, e2]) (by simp only [go_sem, binC, e3]) (by simp only [go_sem, binC, e21]) (by simp only [go_sem, binC])
      by_cases hqv : q = v
      · subst hqv; exact hnv
      · exact hno q (by omega)
end Go.Proofs.YtiekbdijpfnagaaI
end
section
/- Whom each trusts, drawn; a program and whom each trusts, drawn; where a variable may be (the program's). -/
set_option linter.unusedVariables false
set_option linter.unusedSimpArgs false
namespace Go.Proofs.YtiekbdijpfnagaaI
open Go Go.RowKit
def c_drTrusts : IFn := ⟨1, 37, [.t 2],
 .seq (.reg none [
    ⟨(some 2), none, .mov (.c (.slice none 0 0))⟩])
 (.seq (.reg none [
    ⟨(some 5), none, .lit 1 3 0 [] []⟩,
    ⟨(some 3), none, .mov (.t 5)⟩])
 (.seq (.seq (.reg none [
     ⟨(some 4), none, .mov (.c (.int .i64 0))⟩])
  (.block 0 (.loop (.seq (.seq (.reg none [
        ⟨(some 6), none, .mov (.t 4)⟩,
        ⟨(some 7), none, .bin .lss (.t 6) (.c (.int .i64 3))⟩])
     (.cond (.t 7) (.skip) (.exit 0)))
    (.seq (.block 1 (.reg (some 10) [
        ⟨(some 10), none, .mov (.t 3)⟩,
        ⟨(some 11), none, .mov (.t 4)⟩,
        ⟨(some 12), none, .bin .shl (.c (.int .i64 1)) (.t 11)⟩,
        ⟨(some 13), none, .lit 1 3 9 [(.int .i64 0), (.int .i64 0), (.int .i64 0), (.int .i64 0), (.int .i64 0), (.int .i64 0), (.int .i64 0), (.int .i64 0), (.int .i64 0)] [(0, 1, (.c (.int .i64 7))), (1, 1, (.c (.int .i64 7))), (2, 1, (.c (.int .i64 3))), (3, 1, (.c (.int .i64 5))), (4, 1, (.c (.int .i64 6))), (5, 1, (.c (.int .i64 0))), (6, 1, (.c (.int .i64 1))), (7, 1, (.c (.int .i64 2))), (8, 1, (.c (.int .i64 4)))]⟩,
        ⟨(some 14), none, .mov (.t 0)⟩,
        ⟨(some 15), none, .call .n (.f 41) [(.t 14), (.c (.int .i64 9))]⟩,
        ⟨(some 16), none, .iad 1 (.t 13) (.t 15)⟩,
        ⟨(some 17), none, .load false 1 (.t 16)⟩,
        ⟨(some 18), none, .call .q (.f 98) [(.t 12), (.t 17)]⟩,
        ⟨(some 19), none, .lit 1 3 1 [(.int .i64 0)] [(0, 1, (.t 18))]⟩,
        ⟨(some 20), none, .app 1 3 8 true (.t 10) (.t 19)⟩,
        ⟨(some 3), none, .mov (.t 20)⟩]))
    (.reg none [
      ⟨(some 8), none, .mov (.t 4)⟩,
      ⟨(some 9), none, .bin .add (.t 8) (.c (.int .i64 1))⟩,
      ⟨(some 4), none, .mov (.t 9)⟩]))))))
 (.seq (.seq (.reg none [
     ⟨(some 21), none, .mov (.t 0)⟩,
     ⟨(some 22), none, .call .n (.f 41) [(.t 21), (.c (.int .i64 24))]⟩])
  (.block 2 (.seq (.reg none [
      ⟨(some 24), none, .bin .eql (.t 22) (.c (.int .i64 0))⟩,
      ⟨(some 23), none, .mov (.t 24)⟩])
   (.cond (.t 23) (.reg none [
      ⟨(some 25), none, .mov (.t 3)⟩,
      ⟨(some 26), none, .lit 1 3 3 [(.int .i64 0), (.int .i64 0), (.int .i64 0)] [(0, 1, (.c (.int .i64 (-1)))), (1, 1, (.c (.int .i64 8))), (2, 1, (.c (.int .i64 6)))]⟩,
      ⟨(some 27), none, .mov (.t 0)⟩,
      ⟨(some 28), none, .call .n (.f 41) [(.t 27), (.c (.int .i64 3))]⟩,
      ⟨(some 29), none, .iad 1 (.t 26) (.t 28)⟩,
      ⟨(some 30), none, .load false 1 (.t 29)⟩,
      ⟨(some 31), none, .iad 1 (.t 25) (.c (.int .i64 0))⟩,
      ⟨none, none, .store 1 (.t 31) (.t 30)⟩]) (.seq (.reg none [
       ⟨(some 33), none, .bin .eql (.t 22) (.c (.int .i64 1))⟩,
       ⟨(some 32), none, .mov (.t 33)⟩])
    (.cond (.t 32) (.seq (.reg none [
        ⟨(some 34), none, .mov (.t 3)⟩,
        ⟨(some 35), none, .sub 1 (.t 34) (some (.c (.int .i64 1))) none⟩,
        ⟨(some 2), none, .mov (.t 35)⟩])
     (.ret)) (.skip)))))))
 (.seq (.reg none [
    ⟨(some 36), none, .mov (.t 3)⟩,
    ⟨(some 2), none, .mov (.t 36)⟩])
 (.ret)))))⟩
theorem shl3 {i : Nat} (hi : i < 3) : IntKind.i64.wrap (1 * 2 ^ (min i 64)) = (2 : Int) ^ i := by
  have : i = 0 ∨ i = 1 ∨ i = 2 := by omega
  rcases this with rfl | rfl | rfl <;> decide
theorem pow3 {i : Nat} (hi : i < 3) : 0 ≤ (2 : Int) ^ i ∧ (2 : Int) ^ i ≤ 7 := by
  have : i = 0 ∨ i = 1 ∨ i = 2 := by omega
  rcases this with rfl | rfl | rfl <;> decide
def TrQ (H H' : Heap) (v : Value) : Prop := ∃ ts : List Int, SlR Co.int (vwl H.length [] H') v ts ∧ ts.length ≤ 3
theorem drTrusts_ok {F : Nat → Option IFn} {f : Nat} (hf : F f = some c_drTrusts) (hpk : F 41 = some c_pick) (ge : ∀ (H : Heap) (a b : Int), 0 ≤ a → a ≤ 7 → 0 ≤ b → b ≤ 7 → QC F 98 [.int .i64 a, .int .i64 b] H (.int .i64 (a + b - bothS a b 3))) {H0 : Heap} {rb : Nat} {bv : Value} {code : List Int} (hc : RdC H0 rb bv code) : DrawS F H0 rb bv f [] 10 TrQ := by
  refine DrawS.mk hf rfl fun H p lo hs hp hp2 hlo => ?_
  have hl := hs.lt
  have hc0 := hc.low
  refine seq_reg ?_
  simp only [go_sem, binC]
  refine seq_reg ?_
  simp only [go_sem, binC]
  refine wpc_gen fun H1 hH1 => ?_
  have hs1 : St H0 rb bv p H1 := hH1 ▸ hs.appN hc _
  have ht1 : AgX [rb] H H1 := hH1 ▸ AgX.app [rb] _ _
  have hb1 : H1[H.length]? = some ⟨ints [], 1, 3, true, true⟩ := hH1 ▸ get_new0 _ _
  clear hH1
  refine seq_assoc (seq_reg ?_)
  simp only [go_sem, binC]
  refine seq_block (wpc_loop ?_)
  suffices h : ∀ (k i : Nat) (e : Env) (Hc : Heap) (b : Nat) (l : List Int), i + k = 3 → l.length = i → St H0 rb bv (p + i) Hc → AgX [rb] H Hc → H.length ≤ b → Hc[b]? = some ⟨ints l, 1, 3, true, true⟩ → (∀ x ∈ l, RgI x) → e 0 = ptr rb 0 → e 3 = sli b 0 l.length → e 4 = .int .i64 i → W F lo _ e Hc _ from
    h 3 0 _ H1 H.length [] rfl rfl (by simpa using hs1) ht1 (Nat.le_refl _) hb1 (fun x h => by cases h) (by simp only [go_sem, binC]) (by (simp only [go_sem, binC]) <;> rfl) (by (simp only [go_sem, binC]) <;> rfl)
  intro k
  induction k with
  | zero =>
    intro i e Hc b l hik hli hsc htc hb hbk hr e0 e3 e4
    have hi3 : i = 3 := by omega
    have hl3 : l.length = 3 := by omega
    subst hi3
    have hlc := htc.1
    have hbl := (List.getElem?_eq_some_iff.1 hbk).1
    refine lp_step ?_
    refine seq_assoc (seq_reg ?_)
    simp only [go_sem, binC, e4]
    refine seq_cond (t := false) (by (simp only [go_sem, binC]) <;> rfl) ?_
    simp only [go_sem, binC]
    refine seq_exit ?_
    simp only [go_sem, binC, thenX_e, out_e, thenX_n]
    refine seq_assoc (seq_reg ?_)
    simp only [go_sem, binC, e0]
    refine op_draw (n := 24) hpk hc hsc (by omega) (by omega) hlo (by simp only [go_sem, binC, e0]) (by simp only [go_sem, binC]) fun H2 hl2 hx2 hs2 => ?_
    simp only [go_sem, binC]
    have hbk2 := hx2.get hbk (by simp; omega)
    have ht2 := htc.tr hx2
    refine seq_block ?_
    refine seq_reg ?_
    by_cases h0 : pickV code (p + (3 : Nat)) 24 = 0
    · simp only [go_sem, binC, beq_t h0]
      refine wpc_cond (t := true) rfl ?_
      simp only [go_sem, binC]
      refine wpc_reg ?_
      simp only [go_sem, binC, e0, e3]
      have hs3 := hs2.appN hc ([⟨[.int .i64 (-1), .int .i64 8, .int .i64 6], 1, 3, true, true⟩] : Heap)
      refine op_draw (n := 3) hpk hc hs3 (by omega) (by omega) hlo (by simp only [go_sem, binC, e0]) (by simp only [go_sem, binC]) fun H4 hl4 hx4 hs4 => ?_
      have hbd := pickV_bd code (p + (3 : Nat) + 1) (n := 3) (by omega)
      have hlit : H4[H2.length]? = some ⟨[.int .i64 (-1), .int .i64 8, .int .i64 6], 1, 3, true, true⟩ := hx4.get (get_new0 _ _) (by simp; omega)
      have hbk4 : H4[b]? = some ⟨ints l, 1, 3, true, true⟩ := hx4.get (by rw [List.getElem?_append_left (List.getElem?_eq_some_iff.1 hbk2).1]; exact hbk2) (by simp; omega)
      have hg4 : getCells H4 H2.length (pickV code (p + (3 : Nat) + 1) 3).toNat 1 = some [.int .i64 ([-1, 8, 6].getD (pickV code (p + (3 : Nat) + 1) 3).toNat 0)] := by
        rw [gc_of hlit, inBlk_some]
        simp only [List.length_cons, List.length_nil]
        rw [if_pos (by omega), tk3 (by omega)]
      simp only [go_sem, binC]
      refine ⟨⟨by omega, by omega⟩, ?_⟩
      simp only [go_sem, binC, Nat.mul_one, hg4, e3]
      refine ⟨by omega, ?_⟩
      simp only [go_sem, binC, hbk4]
      have hil : (ints l).length = 3 := by simp [ints, hl3]
      refine ⟨⟨by omega, by omega⟩, ?_⟩
      simp only [go_sem, binC, out_n, thenX_n]
      refine seq_reg ?_
      simp only [go_sem, binC, e3]
      obtain ⟨a0, a1, a2, rfl⟩ : ∃ a0 a1 a2, l = [a0, a1, a2] := by
        match l, hl3 with
        | [a, b, c], _ => exact ⟨a, b, c, rfl⟩
      have hv : RgI ([-1, 8, 6].getD (pickV code (p + (3 : Nat) + 1) 3).toNat 0) := by
        have : (pickV code (p + (3 : Nat) + 1) 3).toNat = 0 ∨ (pickV code (p + (3 : Nat) + 1) 3).toNat = 1 ∨ (pickV code (p + (3 : Nat) + 1) 3).toNat = 2 := by omega
        rcases this with h | h | h <;> rw [h] <;> simp [RgI]
      have ht4 : AgX [rb] H H4 := (ht2.appN _).tr hx4
      have hb4l := (List.getElem?_eq_some_iff.1 hbk4).1
      refine wpc_ret ⟨Or.inr rfl, _, (by (simp only [go_sem, binC]) <;> rfl), p + 5, ht4.setN hb _, ?_, by omega, [([-1, 8, 6].getD (pickV code (p + (3 : Nat) + 1) 3).toNat 0), a1, a2], ?_, by simp⟩
      · have := hs4.setN hc (b := b) (by omega) ⟨ints [([-1, 8, 6].getD (pickV code (p + (3 : Nat) + 1) 3).toNat 0), a1, a2], 1, 3, true, true⟩
        rw [show p + (3 : Nat) + 1 + 1 = p + 5 by omega] at this
        exact this
      · exact ints_sl (o := 0) (List.getElem?_set_self hb4l) hb (by simp) (fun x hx => by
          simp only [List.mem_cons, List.not_mem_nil, or_false] at hx
          rcases hx with rfl | rfl | rfl
          · exact hv
          · exact hr _ (by simp)
          · exact hr _ (by simp)) (by simp) (by simp)
    simp only [go_sem, binC, beq_f h0]
    refine wpc_cond (t := false) rfl ?_
    simp only [go_sem, binC]
    refine seq_reg ?_
    have hs2' : St H0 rb bv (p + 4) H2 := by
      have := hs2
      rw [show p + (3 : Nat) + 1 = p + 4 by omega] at this
      exact this
    by_cases h1 : pickV code (p + (3 : Nat)) 24 = 1
    · simp only [go_sem, binC, beq_t h1]
      refine wpc_cond (t := true) rfl ?_
      simp only [go_sem, binC]
      refine seq_reg ?_
      simp only [go_sem, binC, e3]
      have hsub : subV 1 (sli b 0 l.length) e (some (.c (.int .i64 1))) none = some (.slice (some ⟨b, 1, none⟩) (l.drop 1).length (l.drop 1).length) := by
        simp [subV, sli, subB, Opd.ev, hl3]
      have hsub' : ∀ e' : Env, subV 1 (sli b 0 l.length) e' (some (.c (.int .i64 1))) none = some (.slice (some ⟨b, 1, none⟩) (l.drop 1).length (l.drop 1).length) := fun e' => by
        simp [subV, sli, subB, Opd.ev, hl3]
      simp only [go_sem, binC, hsub']
      refine wpc_ret ?_
      simp only [go_sem, binC, out_r, thenX_r]
      exact ⟨Or.inr rfl, _, (by (simp only [go_sem, binC]) <;> rfl), p + 4, ht2, hs2', by omega, l.drop 1, ints_sl hbk2 hb (by simp) hr (by omega) (by omega), by rw [List.length_drop]; omega⟩
    · simp only [go_sem, binC, beq_f h1]
      refine wpc_cond (t := false) rfl ?_
      simp only [go_sem, binC]
      refine wpc_skip ?_
      simp only [go_sem, binC, out_n, thenX_n]
      refine seq_reg ?_
      simp only [go_sem, binC, e3]
      exact wpc_ret ⟨Or.inr rfl, _, (by (simp only [go_sem, binC]) <;> rfl), p + 4, ht2, hs2', by omega, l, ints_sl (o := 0) hbk2 hb (by simp) hr (by omega) (by omega), by omega⟩
  | succ k ih =>
    intro i e Hc b l hik hli hsc htc hb hbk hr e0 e3 e4
    have hi3 : i < 3 := by omega
    have hlc := htc.1
    have hbl := (List.getElem?_eq_some_iff.1 hbk).1
    have hw1 : IntKind.i64.wrap ((i : Int) + 1) = ((i + 1 : Nat) : Int) := by rw [wrap_id (by omega) (by omega)]; omega
    refine lp_step ?_
    refine seq_assoc (seq_reg ?_)
    simp only [go_sem, binC, e4]
    refine seq_cond (t := true) (by simp only [go_sem, binC]; rw [decide_eq_true (by omega)]) ?_
    simp only [go_sem, binC]
    refine seq_skip (seq_block ?_)
    obtain ⟨N, n1⟩ : ∃ N, Hc.length = N := ⟨_, rfl⟩
    refine wpc_regX [rb] (by simp; have := hsc.lt; omega) ?_
    refine wpx_A rfl ?_
    simp only [go_sem, binC, e3]
    refine wpx_A rfl ?_
    simp only [go_sem, binC, e4]
    refine wpx_A rfl ?_
    simp only [go_sem, binC]
    refine shl_rule (by omega) ?_
    simp only [go_sem, binC, IntKind.bits]
    rw [shl3 hi3]
    refine wpx_A rfl ?_
    simp only [go_sem, binC, hide_length, n1]
    refine wpx_A rfl ?_
    simp only [go_sem, binC, hide_length, n1, e0]
    refine wpx_pick (n := 9) hpk hc hsc (by omega) (by omega) hlo (by simp only [go_sem, binC]) (by simp only [go_sem, binC]) fun B1 hl1 hx1 hs1 => ?_
    have n2 := hl1.trans n1
    have hk1 := pickV_bd code (p + i) (n := 9) (by omega)
    refine wpx_A rfl ?_
    simp only [go_sem, binC]
    refine ⟨hk1, ?_⟩
    refine wpx_A rfl ?_
    have hi1 : (pickV code (p + i) 9).toNat + 1 ≤ 9 := by omega
    simp only [go_sem, binC, Nat.mul_one, gc_hid n2, gc_hid0 n2, inBlk_some, tk9 (i := (pickV code (p + i) 9).toNat) (by omega), hi1]
    have hb7 := lab_bd (a0 := 7) (a1 := 7) (a2 := 3) (a3 := 5) (a4 := 6) (a5 := 0) (a6 := 1) (a7 := 2) (a8 := 4) (by simp) (pickV code (p + i) 9).toNat
    have hp7 := pow3 hi3
    refine wpx_A rfl ?_
    refine op_callQ (by simp only [go_sem, binC]; exact ge _ _ _ hp7.1 hp7.2 hb7.1 hb7.2) ?_
    simp only [go_sem, binC, hide_length, n2]
    refine wpx_A rfl ?_
    simp only [go_sem, binC, hide_length, n2]
    refine wpx_zero ?_
    subst n2
    simp only [go_sem, binC, hide_length]
    generalize hel : (2 : Int) ^ i + [7, 7, 3, 5, 6, 0, 1, 2, 4].getD (pickV code (p + i) 9).toNat 0 - bothS (2 ^ i) ([7, 7, 3, 5, 6, 0, 1, 2, 4].getD (pickV code (p + i) 9).toNat 0) 3 = el
    have hrel : RgI el := by
      have := bothS_bd ((2 : Int) ^ i) ([7, 7, 3, 5, 6, 0, 1, 2, 4].getD (pickV code (p + i) 9).toNat 0)
      unfold RgI
      omega
    have hbk1 := hx1.get hbk (by simp; omega)
    have happ : ∀ (L : Blk) (H' : Heap), H' = B1 ++ [L] → H'[b]? = some ⟨ints l, 1, 3, true, true⟩ := fun L H' h => by rw [h, List.getElem?_append_left (List.getElem?_eq_some_iff.1 hbk1).1]; exact hbk1
    obtain ⟨H2, hH2⟩ : ∃ H2 : Heap, H2 = B1 ++ [⟨[.int .i64 7, .int .i64 7, .int .i64 3, .int .i64 5, .int .i64 6, .int .i64 0, .int .i64 1, .int .i64 2, .int .i64 4], 1, 3, true, true⟩] := ⟨_, rfl⟩
    have hn2 : H2.length = B1.length + 1 := by rw [hH2, List.length_append]; rfl
    have hsplit : (B1 ++ [⟨[.int .i64 7, .int .i64 7, .int .i64 3, .int .i64 5, .int .i64 6, .int .i64 0, .int .i64 1, .int .i64 2, .int .i64 4], 1, 3, true, true⟩, ⟨[.int .i64 el], 1, 3, true, true⟩] : Heap) = H2 ++ [⟨[.int .i64 el], 1, 3, true, true⟩] := by rw [hH2, List.append_assoc]; rfl
    rw [hsplit]
    have hx2 : AgX [] B1 H2 := hH2 ▸ AgX.app [] _ _
    refine op_app_kill (n := l.length) (happ _ H2 hH2) (by simp [ints]) (by simp only [go_sem, binC, e3]) (by simp only [go_sem, binC]; rw [hn2]) (by omega) rfl (by omega) (by omega) fun H3 hx3 hb3 => ?_
    simp only [go_sem, binC, out_n, thenX_n]
    refine wpc_reg ?_
    simp only [go_sem, binC, e4, hw1]
    simp only [go_sem, binC, thenX_n]
    have ht2 : AgX [rb] H H2 := (htc.tr hx1).trans hx2 (fun _ h _ => h) (fun _ h _ => by cases h)
    have hs2 := hs1.mono hc hx2 (fun _ h => by cases h)
    have ht3 : AgX [rb] H H3 := ht2.trans hx3 (fun _ h _ => h) (fun b' h1 h2 => by simp only [List.mem_singleton] at h1; omega)
    have hs3 : St H0 rb bv (p + i + 1) H3 := hs2.mono hc hx3 (fun b' h => by simp only [List.mem_singleton] at h; omega)
    refine ih (i + 1) _ H3 (H2.length + 1) (l ++ [el]) (by omega) (by simp [hli]) (by rw [show p + ((i + 1 : Nat) : Int) = p + i + 1 by omega]; exact hs3) ht3 (by have := ht2.1; omega) ?_ ?_ (by simp only [go_sem, binC, e0]) (by (simp only [go_sem, binC]) <;> (rw [List.length_append]; rfl)) (by simp only [go_sem, binC])
    · rw [hb3]
      simp [ints]
    · intro x hx
      rcases List.mem_append.1 hx with hx | hx
      · exact hr x hx
      · simp only [List.mem_singleton] at hx; subst hx; exact hrel
def c_drPL : IFn := ⟨1, 11, [.cell true 2 2, .t 3],
 .seq (.reg none [
    ⟨(some 2), none, .new [(.slice none 0 0), (.slice none 0 0)]⟩,
    ⟨(some 3), none, .mov (.c (.slice none 0 0))⟩])
 (.seq (.reg none [
    ⟨(some 5), none, .mov (.t 0)⟩,
    ⟨(some 6), none, .call .n (.f 40) [(.t 5)]⟩,
    ⟨(some 4), none, .mov (.t 6)⟩])
 (.seq (.reg none [
    ⟨(some 7), none, .mov (.t 4)⟩,
    ⟨(some 8), none, .call .n (.f 72) [(.t 7)]⟩,
    ⟨(some 9), none, .mov (.t 4)⟩,
    ⟨(some 10), none, .call .n (.f 44) [(.t 9)]⟩,
    ⟨none, none, .store 2 (.t 2) (.t 8)⟩,
    ⟨(some 3), none, .mov (.t 10)⟩])
 (.ret)))⟩
def c_iPlanHome : IFn := ⟨4, 31, [.t 8],
 .seq (.reg none [
    ⟨(some 4), none, .box (.t 0)⟩,
    ⟨(some 8), none, .mov (.c (.bool false))⟩])
 (.seq (.reg none [
    ⟨(some 9), none, .load true 2 (.t 4)⟩,
    ⟨(some 10), none, .call .q (.f 58) [(.t 9)]⟩,
    ⟨(some 11), none, .mov (.t 10)⟩,
    ⟨(some 12), (some (11, true)), .mov (.t 1)⟩,
    ⟨(some 13), (some (11, true)), .call .q (.f 49) [(.t 12)]⟩,
    ⟨(some 14), none, .pick (.t 11) (.t 13) (.c (.bool false))⟩,
    ⟨(some 15), none, .mov (.t 14)⟩,
    ⟨(some 16), (some (15, true)), .load true 2 (.t 4)⟩,
    ⟨(some 17), (some (15, true)), .mov (.t 2)⟩,
    ⟨(some 18), (some (15, true)), .call .q (.f 79) [(.t 16), (.t 17)]⟩,
    ⟨(some 19), none, .pick (.t 15) (.t 18) (.c (.bool false))⟩,
    ⟨(some 20), none, .mov (.t 19)⟩,
    ⟨(some 21), (some (20, true)), .mov (.t 3)⟩,
    ⟨(some 22), (some (20, true)), .call .q (.f 80) [(.t 21)]⟩,
    ⟨(some 23), none, .pick (.t 20) (.t 22) (.c (.bool false))⟩,
    ⟨(some 24), none, .mov (.t 23)⟩,
    ⟨(some 25), (some (24, true)), .load true 2 (.t 4)⟩,
    ⟨(some 26), (some (24, true)), .mov (.t 1)⟩,
    ⟨(some 27), (some (24, true)), .mov (.t 2)⟩,
    ⟨(some 28), (some (24, true)), .mov (.t 3)⟩,
    ⟨(some 29), (some (24, true)), .call .q (.f 61) [(.t 25), (.t 26), (.t 27), (.t 28)]⟩,
    ⟨(some 30), none, .pick (.t 24) (.t 29) (.c (.bool false))⟩,
    ⟨(some 8), none, .mov (.t 30)⟩])
 (.ret))⟩
theorem drPL_ok {F : Nat → Option IFn} {f : Nat} (hf : F f = some c_drPL) (hop : F 40 = some c_l6Open) (gan : ∀ {H0 : Heap} {rb : Nat} {bv : Value} {code : List Int}, RdC H0 rb bv code → DrawS F H0 rb bv 72 [] 40000 (ProgQ 3)) (gtr : ∀ {H0 : Heap} {rb : Nat} {bv : Value} {code : List Int}, RdC H0 rb bv code → DrawS F H0 rb bv 44 [] 10 TrQ) : DrawNumsOk F f := by
  refine DrawNumsV.ok fun H v code hv => ?_
  suffices h : ∃ w H', KC F f [v] H w H' ∧ (∃ (d : Nat) (lv sv nv : Value) (ls : List (Int × Int)) (l : List (TStep d)) (nums : List Int), w = .tuple #[.agg #[lv, sv], nv] ∧ (AgX [] H H' ∧ SlR Co.p2 (vwl H.length [] H') lv ls ∧ SlR (Co.step d) (vwl H.length [] H') sv l ∧ (Co.prog d).sm (ls, l) ∧ SlR Co.int (vwl H.length [] H') nv nums)) by
    obtain ⟨w, H', h1, d, lv, sv, nv, ls, l, nums, rfl, h2⟩ := h
    exact ⟨d, lv, sv, nv, ls, l, nums, H', h1, h2⟩
  refine KC.mk hf rfl ?_
  refine seq_reg ?_
  simp only [go_sem, binC]
  refine wpc_gen fun H1 hH1 => ?_
  have ht1 : AgX [] H H1 := hH1 ▸ AgX.app [] _ _
  have hb1 : H1[H.length]? = some ⟨[nilS, nilS], 0, 0, false, true⟩ := hH1 ▸ get_new0 _ _
  have hn1 : H1.length = H.length + 1 := by rw [hH1, List.length_append]; rfl
  clear hH1
  refine seq_reg ?_
  simp only [go_sem, binC]
  obtain ⟨bv, code', k2, hc, hs2⟩ := l6Open_ok hop (hv.mono (agx_sub ht1)) H.length ht1.1
  refine op_callN (by simp only [go_sem, binC]; exact k2) ?_
  simp only [go_sem, binC]
  refine wpc_gen fun H2 hH2 => ?_
  rw [← hH2] at hs2
  have ht2 : AgX [] H H2 := hH2 ▸ ht1.appN _
  have hb2 : H2[H.length]? = some ⟨[nilS, nilS], 0, 0, false, true⟩ := by rw [hH2, List.getElem?_append_left (List.getElem?_eq_some_iff.1 hb1).1]; exact hb1
  have hn2 : H2.length = H1.length + 1 := by rw [hH2, List.length_append]; rfl
  clear hH2
  refine seq_reg ?_
  simp only [go_sem, binC]
  obtain ⟨v3, H3, p3, k3, x3, s3, c3, lv, sv, ls, l, rfl, hpv⟩ := gan hc H2 0 H.length hs2 (by omega) (by omega) (by omega)
  refine op_callN (by simp only [go_sem, binC]; exact k3) ?_
  obtain ⟨r1, r2, r3, r4⟩ := hpv
  have olv : one lv = true := by obtain ⟨_, a, rfl, _⟩ := r1; rfl
  have osv : one sv = true := by obtain ⟨_, a, rfl, _⟩ := r2; rfl
  have hl3 := x3.1
  simp only [go_sem, binC]
  obtain ⟨v5, H5, p5, k5, x5, s5, c5, ts, hts, htl⟩ := gtr hc H3 p3 H.length s3 (by omega) (by omega) (by omega)
  refine op_callN (by simp only [go_sem, binC]; exact k5) ?_
  have hb5 := x5.get (x3.get hb2 (by simp; omega)) (by simp; omega)
  have hb5l := (List.getElem?_eq_some_iff.1 hb5).1
  have hl5 := x5.1
  simp only [go_sem, binC, hb5, olv, osv]
  have hvf : Sub (vwl H2.length [] H3) (vwl H.length [] (H5.set H.length ⟨[lv, sv], 0, 0, false, true⟩)) := (vwl_sub x5 (Nat.le_refl _) (xs' := []) fun b' h1 h2 _ => ⟨by simp; omega, by simp⟩ : Sub (vwl H2.length [] H3) (vwl H2.length [] H5)).trans (vwl_sub (AgX.set H5 H.length _) (show H.length ≤ H2.length by omega) (xs' := []) fun b' h1 h2 h3 => ⟨by simp; omega, h3⟩)
  have hvn : Sub (vwl H3.length [] H5) (vwl H.length [] (H5.set H.length ⟨[lv, sv], 0, 0, false, true⟩)) := vwl_sub (AgX.set H5 H.length _) (show H.length ≤ H3.length by omega) (xs' := []) fun b' h1 h2 h3 => ⟨by simp; omega, h3⟩
  refine wpc_ret ⟨Or.inr rfl, .tuple #[.agg #[lv, sv], v5], ?_, ?_⟩
  · obtain ⟨_, a5, rfl, _⟩ := hts
    simp [resV, resL, res1, putE_get, notT, ptr, gc_set hb5l, inBlk_some, valOf]
  · refine ⟨3, lv, sv, v5, ls, l, ts, rfl, ?_, r1.mono hvf, r2.mono hvf, r3, hts.mono hvn⟩
    exact (ht2.trans (x3.tr x5) (fun _ h _ => h) (fun b h1 h2 => by simp at h1; omega)).setN (Nat.le_refl _) _
/-- Where a variable may be, of a program. -/
def homeV (n : Nat) (p : TProg n) (ts : List Int) (v h : Int) : Bool := progB n p && (trK ts && (varB p.1.length v && (inB h 0 2 && hmB p.1 ts v h)))
def HomeV (F : Nat → Option IFn) (f : Nat) : Prop := ∀ (H : Heap) (n : Nat) (lv sv tw : Value) (ls : List (Int × Int)) (l : List (TStep n)) (ts : List Int) (v h : Int), SlR Co.p2 (vw 0 H) lv ls → SlR (Co.step n) (vw 0 H) sv l → (Co.prog n).sm (ls, l) → SlR Co.int (vw 0 H) tw ts → QC F f [.agg #[lv, sv], tw, .int .i64 v, .int .i64 h] H (.bool (homeV n (ls, l) ts v h))
theorem iPlanHomeV_ok {F : Nat → Option IFn} {f : Nat} (hf : F f = some c_iPlanHome) (gp : ProgOk F 58) (gt : TrOk F 49) (gv : VarOk F 79) (gi : ∀ (H : Heap) (a : Int), QC F 80 [.int .i64 a] H (.bool (inB a 0 2))) (gh : HomeI F 61) : HomeV F f := by
  intro H n lv sv tw ls l ts v h r1 r2 hsm r3
  have olv : one lv = true := by obtain ⟨_, a, rfl, _⟩ := r1; rfl
  have osv : one sv = true := by obtain ⟨_, a, rfl, _⟩ := r2; rfl
  obtain ⟨_, ta, rfl, _⟩ := id r3
  refine QC.mk hf rfl ?_
  refine seq_reg ?_
  simp only [go_sem, binC, olv, osv]
  refine wpc_gen fun H1 hH1 => ?_
  have hx1 : AgX [] H H1 := hH1 ▸ AgX.app [] _ _
  have hb : H1[H.length]? = some ⟨[lv, sv], 0, 0, false, true⟩ := hH1 ▸ get_new0 _ _
  clear hH1
  have hS := agx_sub hx1
  have hrd : Rd (Co.prog n) true (vw 0 H1) (.agg #[lv, sv]) (ls, l) := prog_rd (r1.mono hS) (r2.mono hS)
  unfold homeV
  refine seq_reg ?_
  simp only [go_sem, binC, gc_of hb, inBlk_some, olv, osv]
  refine op_callQ (by simp only [go_sem, binC]; exact gp H1 n _ (ls, l) hrd hsm) ?_
  cases hP : progB n (ls, l) with
  | false =>
    simp only [go_sem, binC]
    exact wpc_ret ⟨Or.inr rfl, .bool false, (by (simp only [go_sem, binC]) <;> rfl), rfl, rfl⟩
  | true =>
  simp only [go_sem, binC]
  refine op_callQ (by simp only [go_sem, binC]; exact gt.k H1 _ ts (r3.mono hS)) ?_
  cases hk : trK ts with
  | false =>
    simp only [go_sem, binC]
    exact wpc_ret ⟨Or.inr rfl, .bool false, (by (simp only [go_sem, binC]) <;> rfl), rfl, rfl⟩
  | true =>
  simp only [go_sem, binC, gc_of hb, inBlk_some, olv, osv]
  refine op_callQ (by simp only [go_sem, binC]; exact gv H1 n _ (ls, l) v hrd) ?_
  cases hv : varB ls.length v with
  | false =>
    simp only [go_sem, binC]
    exact wpc_ret ⟨Or.inr rfl, .bool false, (by (simp only [go_sem, binC]) <;> rfl), rfl, rfl⟩
  | true =>
  simp only [go_sem, binC]
  refine op_callQ (by simp only [go_sem, binC]; exact gi H1 h) ?_
  cases hh : inB h 0 2 with
  | false =>
    simp only [go_sem, binC]
    exact wpc_ret ⟨Or.inr rfl, .bool false, (by (simp only [go_sem, binC]) <;> rfl), rfl, rfl⟩
  | true =>
  have q1 := varB_i.1 hv
  have q2 := inB_iff.1 hh
  simp only [go_sem, binC, gc_of hb, inBlk_some, olv, osv]
  refine op_callQ (by simp only [go_sem, binC]; exact gh H1 _ _ _ ls ts v h osv (r1.mono hS) (progB_lab hP) (r3.mono hS) (trK_iff.1 hk) q1.1 q1.2 q2.1 q2.2) ?_
  simp only [go_sem, binC]
  exact wpc_ret ⟨Or.inr rfl, .bool (hmB ls ts v h), (by (simp only [go_sem, binC]) <;> rfl), rfl, rfl⟩
end Go.Proofs.YtiekbdijpfnagaaI
end
