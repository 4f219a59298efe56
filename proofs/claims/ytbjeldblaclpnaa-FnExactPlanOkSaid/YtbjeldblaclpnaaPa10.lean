/- Texts of this proof, merged: K9, K10, K11, K12, K19, K20, K21, K23, K24, GL33. -/
import Derived.Test.YtbjeldblaclpnaaPa8
import Derived.Test.YtbjeldblaclpnaaPa9
import Derived.Test.YtbjeldblaclpnaaRows
section
/- Where a variable may be, who may do a step (the reference's, of what is looked at). -/
set_option linter.unusedVariables false
set_option linter.unusedSimpArgs false
namespace Go.Proofs.YtbjeldblaclpnaaI
open Go Go.RowKit
def c_lHome : IFn := ⟨3, 37, [.t 6],
 .seq (.reg none [
    ⟨(some 6), none, .mov (.c (.bool false))⟩])
 (.seq (.reg (some 28) [
    ⟨(some 7), none, .mov (.t 0)⟩,
    ⟨(some 8), none, .nilck (.t 7)⟩,
    ⟨(some 9), none, .fad 0 (.t 8)⟩,
    ⟨(some 10), none, .fad 0 (.t 9)⟩,
    ⟨(some 11), none, .load false 1 (.t 10)⟩,
    ⟨(some 12), none, .mov (.t 1)⟩,
    ⟨(some 13), none, .iad 2 (.t 11) (.t 12)⟩,
    ⟨(some 14), none, .fad 0 (.t 13)⟩,
    ⟨(some 15), none, .load false 1 (.t 14)⟩,
    ⟨(some 16), none, .mov (.t 2)⟩,
    ⟨(some 17), none, .call .q (.f 92) [(.t 15), (.t 16)]⟩,
    ⟨(some 18), none, .mov (.t 17)⟩,
    ⟨(some 19), (some (18, true)), .mov (.t 0)⟩,
    ⟨(some 20), (some (18, true)), .nilck (.t 19)⟩,
    ⟨(some 21), (some (18, true)), .fad 0 (.t 20)⟩,
    ⟨(some 22), (some (18, true)), .fad 0 (.t 21)⟩,
    ⟨(some 23), (some (18, true)), .load false 1 (.t 22)⟩,
    ⟨(some 24), (some (18, true)), .mov (.t 1)⟩,
    ⟨(some 25), (some (18, true)), .iad 2 (.t 23) (.t 24)⟩,
    ⟨(some 26), (some (18, true)), .fad 1 (.t 25)⟩,
    ⟨(some 27), (some (18, true)), .load false 1 (.t 26)⟩,
    ⟨(some 28), (some (18, true)), .mov (.t 0)⟩,
    ⟨(some 29), (some (18, true)), .nilck (.t 28)⟩,
    ⟨(some 30), (some (18, true)), .fad 6 (.t 29)⟩,
    ⟨(some 31), (some (18, true)), .load false 1 (.t 30)⟩,
    ⟨(some 32), (some (18, true)), .mov (.t 2)⟩,
    ⟨(some 33), (some (18, true)), .iad 1 (.t 31) (.t 32)⟩,
    ⟨(some 34), (some (18, true)), .load false 1 (.t 33)⟩,
    ⟨(some 35), (some (18, true)), .call .q (.f 122) [(.t 27), (.t 34)]⟩,
    ⟨(some 36), none, .pick (.t 18) (.t 35) (.c (.bool false))⟩,
    ⟨(some 6), none, .mov (.t 36)⟩])
 (.ret))⟩
def c_lStep : IFn := ⟨4, 99, [.t 8],
 .seq (.reg none [
    ⟨(some 8), none, .mov (.c (.bool false))⟩])
 (.seq (.reg none [
    ⟨(some 13), none, .mov (.t 0)⟩,
    ⟨(some 14), none, .nilck (.t 13)⟩,
    ⟨(some 15), none, .fad 3 (.t 14)⟩,
    ⟨(some 16), none, .load false 1 (.t 15)⟩,
    ⟨(some 17), none, .mov (.t 2)⟩,
    ⟨(some 18), none, .iad 8 (.t 16) (.t 17)⟩,
    ⟨(some 19), none, .load true 8 (.t 18)⟩,
    ⟨(some 9), none, .new [(.int .i64 0), (.int .i64 0), (.int .i64 0), (.int .i64 0), (.int .i64 0), (.int .i64 0), (.slice none 0 0), (.slice none 0 0)]⟩,
    ⟨none, none, .store 8 (.t 9) (.t 19)⟩])
 (.seq (.reg none [
    ⟨(some 20), none, .mov (.t 0)⟩,
    ⟨(some 21), none, .nilck (.t 20)⟩,
    ⟨(some 22), none, .fad 4 (.t 21)⟩,
    ⟨(some 23), none, .load false 1 (.t 22)⟩,
    ⟨(some 24), none, .mov (.t 2)⟩,
    ⟨(some 25), none, .iad 2 (.t 23) (.t 24)⟩,
    ⟨(some 26), none, .load true 2 (.t 25)⟩,
    ⟨(some 10), none, .new [(.int .i64 0), (.int .i64 0)]⟩,
    ⟨none, none, .store 2 (.t 10) (.t 26)⟩])
 (.seq (.seq (.reg (some 20) [
     ⟨(some 27), none, .fad 0 (.t 10)⟩,
     ⟨(some 28), none, .load false 1 (.t 27)⟩,
     ⟨(some 29), none, .mov (.t 3)⟩,
     ⟨(some 30), none, .call .q (.f 92) [(.t 28), (.t 29)]⟩,
     ⟨(some 31), none, .un .not (.t 30)⟩,
     ⟨(some 32), none, .mov (.t 31)⟩,
     ⟨(some 33), (some (32, false)), .mov (.t 0)⟩,
     ⟨(some 34), (some (32, false)), .nilck (.t 33)⟩,
     ⟨(some 35), (some (32, false)), .fad 5 (.t 34)⟩,
     ⟨(some 36), (some (32, false)), .load false 1 (.t 35)⟩,
     ⟨(some 37), (some (32, false)), .mov (.t 2)⟩,
     ⟨(some 38), (some (32, false)), .iad 1 (.t 36) (.t 37)⟩,
     ⟨(some 39), (some (32, false)), .load false 1 (.t 38)⟩,
     ⟨(some 40), (some (32, false)), .mov (.t 0)⟩,
     ⟨(some 41), (some (32, false)), .nilck (.t 40)⟩,
     ⟨(some 42), (some (32, false)), .fad 6 (.t 41)⟩,
     ⟨(some 43), (some (32, false)), .load false 1 (.t 42)⟩,
     ⟨(some 44), (some (32, false)), .mov (.t 3)⟩,
     ⟨(some 45), (some (32, false)), .iad 1 (.t 43) (.t 44)⟩,
     ⟨(some 46), (some (32, false)), .load false 1 (.t 45)⟩,
     ⟨(some 47), (some (32, false)), .call .q (.f 122) [(.t 39), (.t 46)]⟩,
     ⟨(some 48), (some (32, false)), .un .not (.t 47)⟩,
     ⟨(some 49), none, .pick (.t 32) (.c (.bool true)) (.t 48)⟩])
  (.cond (.t 49) (.seq (.reg none [
      ⟨(some 8), none, .mov (.c (.bool false))⟩])
   (.ret)) (.skip)))
 (.seq (.reg none [
    ⟨(some 50), none, .load true 8 (.t 9)⟩,
    ⟨(some 51), none, .call .k (.f 123) [(.t 50)]⟩,
    ⟨(some 11), none, .mov (.t 51)⟩])
 (.seq (.seq (.reg none [
     ⟨(some 12), none, .mov (.c (.int .i64 0))⟩])
  (.block 0 (.loop (.seq (.seq (.reg none [
        ⟨(some 52), none, .mov (.t 12)⟩,
        ⟨(some 53), none, .mov (.t 11)⟩,
        ⟨(some 54), none, .len (.t 53)⟩,
        ⟨(some 55), none, .bin .lss (.t 52) (.t 54)⟩])
     (.cond (.t 55) (.skip) (.exit 0)))
    (.seq (.block 1 (.seq (.reg (some 25) [
         ⟨(some 58), none, .mov (.t 0)⟩,
         ⟨(some 59), none, .nilck (.t 58)⟩,
         ⟨(some 60), none, .fad 0 (.t 59)⟩,
         ⟨(some 61), none, .fad 0 (.t 60)⟩,
         ⟨(some 62), none, .load false 1 (.t 61)⟩,
         ⟨(some 63), none, .mov (.t 11)⟩,
         ⟨(some 64), none, .mov (.t 12)⟩,
         ⟨(some 65), none, .iad 1 (.t 63) (.t 64)⟩,
         ⟨(some 66), none, .load false 1 (.t 65)⟩,
         ⟨(some 67), none, .iad 2 (.t 62) (.t 66)⟩,
         ⟨(some 68), none, .fad 0 (.t 67)⟩,
         ⟨(some 69), none, .load false 1 (.t 68)⟩,
         ⟨(some 70), none, .mov (.t 3)⟩,
         ⟨(some 71), none, .call .q (.f 92) [(.t 69), (.t 70)]⟩,
         ⟨(some 72), none, .un .not (.t 71)⟩,
         ⟨(some 73), none, .mov (.t 72)⟩,
         ⟨(some 74), (some (73, false)), .fad 0 (.t 10)⟩,
         ⟨(some 75), (some (73, false)), .load false 1 (.t 74)⟩,
         ⟨(some 76), (some (73, false)), .mov (.t 1)⟩,
         ⟨(some 77), (some (73, false)), .mov (.t 11)⟩,
         ⟨(some 78), (some (73, false)), .mov (.t 12)⟩,
         ⟨(some 79), (some (73, false)), .iad 1 (.t 77) (.t 78)⟩,
         ⟨(some 80), (some (73, false)), .load false 1 (.t 79)⟩,
         ⟨(some 81), (some (73, false)), .iad 1 (.t 76) (.t 80)⟩,
         ⟨(some 82), (some (73, false)), .load false 1 (.t 81)⟩,
         ⟨(some 83), (some (73, false)), .call .q (.f 92) [(.t 75), (.t 82)]⟩,
         ⟨(some 84), (some (73, false)), .un .not (.t 83)⟩,
         ⟨(some 85), none, .pick (.t 73) (.c (.bool true)) (.t 84)⟩])
      (.cond (.t 85) (.seq (.reg none [
          ⟨(some 8), none, .mov (.c (.bool false))⟩])
       (.ret)) (.skip))))
    (.reg none [
      ⟨(some 56), none, .mov (.t 12)⟩,
      ⟨(some 57), none, .bin .add (.t 56) (.c (.int .i64 1))⟩,
      ⟨(some 12), none, .mov (.t 57)⟩]))))))
 (.seq (.reg (some 11) [
    ⟨(some 86), none, .fad 0 (.t 9)⟩,
    ⟨(some 87), none, .load false 1 (.t 86)⟩,
    ⟨(some 88), none, .bin .neq (.t 87) (.c (.int .i64 1))⟩,
    ⟨(some 89), none, .mov (.t 88)⟩,
    ⟨(some 90), (some (89, false)), .fad 0 (.t 10)⟩,
    ⟨(some 91), (some (89, false)), .load false 1 (.t 90)⟩,
    ⟨(some 92), (some (89, false)), .mov (.t 1)⟩,
    ⟨(some 93), (some (89, false)), .fad 1 (.t 9)⟩,
    ⟨(some 94), (some (89, false)), .load false 1 (.t 93)⟩,
    ⟨(some 95), (some (89, false)), .iad 1 (.t 92) (.t 94)⟩,
    ⟨(some 96), (some (89, false)), .load false 1 (.t 95)⟩,
    ⟨(some 97), (some (89, false)), .call .q (.f 92) [(.t 91), (.t 96)]⟩,
    ⟨(some 98), none, .pick (.t 89) (.c (.bool true)) (.t 97)⟩,
    ⟨(some 8), none, .mov (.t 98)⟩])
 (.ret)))))))⟩
theorem byL_at (ts : List Int) {h : Int} (h0 : 0 ≤ h) (h2 : h ≤ 2) : ∃ hl : h.toNat < (byL ts).length, (byL ts)[h.toNat] = byS ts h 3 := by
  have hh : h = 0 ∨ h = 1 ∨ h = 2 := by omega
  rcases hh with rfl | rfl | rfl <;> exact ⟨by simp [byL], rfl⟩
def LHome (F : Nat → Option IFn) (f : Nat) : Prop := ∀ (H : Heap) (W n : Nat) (ls : List (Int × Int)) (l : List (TStep n)) (ts : List Int) (v h : Int), LookR H W n ls l ts → ls.all labB = true → 0 ≤ v → v < ls.length → 0 ≤ h → h ≤ 2 → QC F f [ptr W 0, .int .i64 v, .int .i64 h] H (.bool (hmB ls ts v h))
theorem lHome_ok {F : Nat → Option IFn} {f : Nat} (hf : F f = some c_lHome) (gh : HasOk F 92) (gw : WitOk F 122) : LHome F f := by
  intro H W n ls l ts v h hL hlab hv0 hv1 hh0 hh2
  obtain ⟨lv, sv, tw, li, la, se, bv, osv, hW, r1, r2, r3, r4, r5, r6⟩ := hL.ex
  have hlx := labB_i.1 (lab_getD hlab v.toNat)
  have hby := byS_lt ts h 3
  have h8 : (2 : Int) ^ 3 = 8 := by decide
  rw [h8] at hby
  obtain ⟨_, lva, rfl, _⟩ := id r1
  obtain ⟨_, bva, rfl, _⟩ := id r6
  obtain ⟨hbl, hbe⟩ := byL_at ts hh0 hh2
  obtain ⟨bb, bo, hbv, hbg⟩ := gcJ r6 hbl
  simp only [Value.slice.injEq, and_true] at hbv
  subst hbv
  rw [hbe] at hbg
  have hb3 : (byL ts).length = 3 := rfl
  obtain ⟨lb, lo', hla, hgl0, _⟩ := lab_at r1 (H := H) (fun _ _ h => h) hv0 hv1
  simp only [Value.slice.injEq, and_true] at hla
  subst hla
  have hgl := hgl0 []
  rw [List.append_nil] at hgl
  have g0 : getCells H lb (lo' + v.toNat * 2) 1 = some [.int .i64 (ls.getD v.toNat (0, 0)).1] := by have := gc_part (off := 0) (k := 1) hgl (by omega); simpa using this
  have g1 : getCells H lb (lo' + v.toNat * 2 + 1) 1 = some [.int .i64 (ls.getD v.toNat (0, 0)).2] := gc_part (off := 1) (k := 1) hgl (by omega)
  refine QC.mk hf rfl ?_
  refine seq_reg ?_
  simp only [go_sem, binC]
  refine seq_regD ?_
  simp only [go_sem, binC, gc_of hW, inBlk_some]
  refine ⟨⟨by omega, by omega⟩, ?_⟩
  simp only [go_sem, binC, g0]
  refine op_callQ (by simp only [go_sem, binC]; exact gh H _ h hlx.1.1 hlx.1.2) ?_
  unfold hmB
  cases q1 : hasB (ls.getD v.toNat (0, 0)).1 h with
  | false =>
    simp only [go_sem, binC]
    exact wpc_ret ⟨Or.inr rfl, _, (by (simp only [go_sem, binC]) <;> rfl), rfl, rfl⟩
  | true =>
    simp only [go_sem, binC, gc_of hW, inBlk_some]
    refine ⟨⟨by omega, by omega⟩, ?_⟩
    simp only [go_sem, binC, g1, gc_of hW, inBlk_some]
    refine ⟨⟨by omega, by omega⟩, ?_⟩
    simp only [go_sem, binC, Nat.mul_one, hbg]
    refine op_callQ (by simp only [go_sem, binC]; exact gw H _ _ hlx.2.1 hlx.2.2 hby.1 (by omega)) ?_
    simp only [go_sem, binC]
    exact wpc_ret ⟨Or.inr rfl, _, (by (simp only [go_sem, binC]) <;> rfl), rfl, rfl⟩
theorem slA_at {H : Heap} {v : Value} {l : List AnyS} (h : SlR Co.anyS (vw 0 H) v l) {i : Nat} (hi : i < l.length) : ∃ b o cs, v = .slice (some ⟨b, o, none⟩) l.length l.length ∧ getCells H b (o + i * 8) 8 = some cs ∧ Co.anyS.rd (vw 0 H) cs l[i] := by
  obtain ⟨h0, a, rfl, h1⟩ := h
  obtain ⟨b, o, rfl, h2⟩ := h1.resolve_left (fun h => by rw [h] at hi; simp at hi)
  obtain ⟨cs, h3, h4⟩ := h2 i hi
  have h5 := rng_gc h3
  exact ⟨b, o, cs, rfl, h5, h4⟩
theorem slP_at {H : Heap} {v : Value} {l : List (Int × Int)} (h : SlR Co.p2 (vw 0 H) v l) {i : Nat} (hi : i < l.length) : ∃ b o, v = .slice (some ⟨b, o, none⟩) l.length l.length ∧ getCells H b (o + i * 2) 2 = some [.int .i64 l[i].1, .int .i64 l[i].2] := by
  obtain ⟨h0, a, rfl, h1⟩ := h
  obtain ⟨b, o, rfl, h2⟩ := h1.resolve_left (fun h => by rw [h] at hi; simp at hi)
  obtain ⟨cs, h3, h4⟩ := h2 i hi
  have h5 := rng_gc h3
  obtain ⟨_, _, rfl, ⟨hq1, _⟩, ⟨hq2, _⟩⟩ := h4
  subst hq1 hq2
  exact ⟨b, o, rfl, h5⟩
/-- Whether a host may do the j-th step. -/
def doN (n : Nat) (ls : List (Int × Int)) (l : List (TStep n)) (ts homes : List Int) (j : Nat) (h : Int) : Bool := match (allSL n l)[j]?, (atL n ls (7, 7) l)[j]? with
  | some s, some own => doesB ls ts homes (shA s) (stA ls s) own h
  | _, _ => false
theorem doN_eq {n : Nat} {ls : List (Int × Int)} {l : List (TStep n)} {ts homes : List Int} {j : Nat} {h : Int} (h1 : j < (allSL n l).length) (h2 : j < (atL n ls (7, 7) l).length) : doN n ls l ts homes j h = doesB ls ts homes (shA (allSL n l)[j]) (stA ls (allSL n l)[j]) (atL n ls (7, 7) l)[j] h := by
  unfold doN
  rw [List.getElem?_eq_getElem h1, List.getElem?_eq_getElem h2]
def LStep (F : Nat → Option IFn) (f : Nat) : Prop := ∀ (H : Heap) (W n : Nat) (ls : List (Int × Int)) (l : List (TStep n)) (ts : List Int) (hw : Value) (homes : List Int) (j : Nat) (h : Int), LookR H W n ls l ts → progB n (ls, l) = true → SlR Co.int (vw 0 H) hw homes → homesP ls.length homes → j < (allSL n l).length → 0 ≤ h → h ≤ 2 → QC F f [ptr W 0, hw, .int .i64 j, .int .i64 h] H (.bool (doN n ls l ts homes j h))
theorem lStep_ok {F : Nat → Option IFn} {f : Nat} (hf : F f = some c_lStep) (gh : HasOk F 92) (gw : WitOk F 122) (gm : MakesOk F 123) : LStep F f := by
  intro H W n ls l ts hw homes j h hL hP rh hho hj hh0 hh2
  have hlab : ls.all labB = true := progB_lab hP
  have hatl := atL_len ls (7, 7) l
  have hsl := allSL_len l
  have hja : j < (atL n ls (7, 7) l).length := by omega
  obtain ⟨lv, sv, tw, li, la, se, bv, osv, hW, r1, r2, r3, r4, r5, r6⟩ := hL.ex
  have hokA := progB_okA hP (List.getElem_mem hj)
  have hown : labB (atL n ls (7, 7) l)[j] = true := List.all_eq_true.1 (atL_lab hlab rfl l) _ (List.getElem_mem hja)
  rw [doN_eq hj hja]
  obtain ⟨_, lva, rfl, _⟩ := id r1
  obtain ⟨_, ha, rfl, _⟩ := id rh
  obtain ⟨_, sea, rfl, hse⟩ := id r5
  obtain ⟨_, bva, rfl, _⟩ := id r6
  obtain ⟨hbl, hbe⟩ := byL_at ts hh0 hh2
  obtain ⟨bb, bo, hbv, hbg⟩ := gcJ r6 hbl
  simp only [Value.slice.injEq, and_true] at hbv
  subst hbv
  rw [hbe] at hbg
  have hb3 : (byL ts).length = 3 := rfl
  have hsel : (setsA n ls l).length = (allSL n l).length := by unfold setsA; rw [List.length_map]
  obtain ⟨sb, so, hsv, hsg⟩ := gcJ r5 (i := j) (by omega)
  have hsei : (setsA n ls l)[j]'(by omega) = stA ls (allSL n l)[j] := by unfold setsA; rw [List.getElem_map]
  rw [hsei] at hsg
  simp only [Value.slice.injEq, and_true] at hsv
  subst hsv
  obtain ⟨lib, lio, css, hli, gcs, rds⟩ := slA_at r3 hj
  subst hli
  obtain ⟨lab, lao, hla, gca⟩ := slP_at r4 hja
  subst hla
  have hst := stT_bd hlab ((allSL n l)[j].1 + 1) (allSL n l)[j].2
  have hst' : R7 (stA ls (allSL n l)[j]) := hst
  generalize (allSL n l)[j] = s at *
  generalize (atL n ls (7, 7) l)[j] = own at *
  obtain ⟨sk, sx, sa, sbb, sc, sg, tv, ev, tl, el, hs2, hcs, rg, otv, oev, htl, hel⟩ := anyS_rd rds
  subst hcs
  have hsh : shA s = (sk, sx, (sa, sbb, sc), sg) := by unfold shA; rw [hs2]
  obtain ⟨hok1, hok2⟩ := hokA
  rw [hsh] at hok1
  have hvx : 0 ≤ sx ∧ sx < ls.length := by
    have := hok1
    simp only [shB, Bool.and_eq_true] at this
    exact varB_i.1 this.1
  have hmin := makesL_in hok1
  obtain ⟨ho1, ho2⟩ := hown |> fun h => labB_i.1 h
  obtain ⟨hhl, hhr⟩ := hho
  have hby := byS_lt ts h 3
  have h8 : (2 : Int) ^ 3 = 8 := by decide
  rw [h8] at hby
  rw [hsh]
  refine QC.mk hf rfl ?_
  refine seq_reg ?_
  simp only [go_sem, binC]
  refine seq_reg ?_
  simp only [go_sem, binC, gc_of hW, inBlk_some]
  refine ⟨⟨by omega, by omega⟩, ?_⟩
  simp only [go_sem, binC, Int.toNat_natCast, gcs, otv, oev]
  refine wpc_gen fun H1 hH1 => ?_
  have hx1 : AgX [] H H1 := hH1 ▸ AgX.app [] _ _
  have hb9 : H1[H.length]? = some ⟨[.int .i64 sk, .int .i64 sx, .int .i64 sa, .int .i64 sbb, .int .i64 sc, .int .i64 sg, tv, ev], 0, 0, false, true⟩ := hH1 ▸ get_new0 _ _
  have hl1 : H1.length = H.length + 1 := by rw [hH1, List.length_append]; rfl
  clear hH1
  have hW1 := hx1.get hW (by simp)
  refine seq_reg ?_
  simp only [go_sem, binC, gc_of hW1, inBlk_some]
  refine ⟨⟨by omega, by omega⟩, ?_⟩
  simp only [go_sem, binC, Int.toNat_natCast, gcK gca hx1]
  refine ⟨by omega, ?_⟩
  refine wpc_gen fun H2 hH2 => ?_
  have hx2 : AgX [] H1 H2 := hH2 ▸ AgX.app [] _ _
  have hb10 : H2[H1.length]? = some ⟨[.int .i64 own.1, .int .i64 own.2], 0, 0, false, true⟩ := hH2 ▸ get_new0 _ _
  clear hH2
  have hx02 := hx1.tr hx2
  have hW2 := hx2.get hW1 (by simp)
  have hb92 := hx2.get hb9 (by simp)
  refine seq_assoc (seq_regD ?_)
  simp only [go_sem, binC, gc_of hb10, inBlk_some]
  refine op_callQ (by simp only [go_sem, binC]; exact gh H2 own.1 h ho1.1 ho1.2) ?_
  cases q1 : hasB own.1 h with
  | false =>
    simp only [go_sem, binC]
    refine seq_cond (t := true) rfl ?_
    simp only [go_sem, binC]
    refine seq_assoc (seq_reg ?_)
    simp only [go_sem, binC]
    refine seq_ret ⟨Or.inr rfl, .bool false, (by (simp only [go_sem, binC]) <;> rfl), ?_, rfl⟩
    unfold doesB
    rw [q1]
    rfl
  | true =>
  simp only [go_sem, binC, gc_of hW2, inBlk_some]
  refine ⟨⟨by omega, by omega⟩, ?_⟩
  simp only [go_sem, binC, Int.toNat_natCast, Nat.mul_one, gcK hsg hx02, gc_of hW2, inBlk_some]
  refine ⟨⟨by omega, by omega⟩, ?_⟩
  simp only [go_sem, binC, Nat.mul_one, gcK hbg hx02]
  refine op_callQ (by simp only [go_sem, binC]; exact gw H2 _ _ hst'.1 hst'.2 hby.1 (by omega)) ?_
  generalize stA ls s = st at *
  cases q2 : witB st (byS ts h 3) with
  | false =>
    simp only [go_sem, binC]
    refine seq_cond (t := true) rfl ?_
    simp only [go_sem, binC]
    refine seq_assoc (seq_reg ?_)
    simp only [go_sem, binC]
    refine seq_ret ⟨Or.inr rfl, .bool false, (by (simp only [go_sem, binC]) <;> rfl), ?_, rfl⟩
    unfold doesB
    rw [q1, q2]
    rfl
  | true =>
  simp only [go_sem, binC]
  refine seq_cond (t := false) rfl ?_
  simp only [go_sem, binC]
  refine seq_skip (seq_reg ?_)
  simp only [go_sem, binC, gc_of hb92, inBlk_some, otv, oev]
  obtain ⟨mw, H3, k3, hx3, hm3⟩ := gm H2 ls.length sk sx sa sbb sc sg tv ev otv oev rg hok1
  refine op_callK (by simp only [go_sem, binC]; exact k3) ?_
  obtain ⟨_, ma, rfl, _⟩ := id hm3
  simp only [go_sem, binC]
  refine seq_assoc (seq_reg ?_)
  simp only [go_sem, binC]
  have hx03 := hx02.tr hx3
  have hW3 := hx3.get hW2 (by simp)
  have hb93 := hx3.get hb92 (by simp)
  have hb103 := hx3.get hb10 (by simp)
  have r13 := r1.mono (agx_sub hx03)
  have rh3 := rh.mono (agx_sub hx03)
  have hm3' := hm3.mono (vwl0 _ _ _)
  generalize hML : makesL (sk, sx, (sa, sbb, sc), sg) = ml at *
  have hdo : doesB ls ts homes (sk, sx, (sa, sbb, sc), sg) st own h = (ml.all (mkP ls homes own h) && (decide (sk ≠ 1) || hasB own.1 (homes.getD sx.toNat 0))) := by
    unfold doesB
    rw [q1, q2, hML]
    rfl
  rw [hdo]
  have hhome : ∀ v : Int, 0 ≤ v → v < ls.length → ∃ hb ho, ha = some ⟨hb, ho, none⟩ ∧ getCells H3 hb (ho + v.toNat) 1 = some [.int .i64 (homes.getD v.toNat 0)] := fun v h1 h2 => by
    have hl : v.toNat < homes.length := by omega
    obtain ⟨b, o, hv, hg⟩ := gcJ rh3 hl
    simp only [Value.slice.injEq, and_true] at hv
    refine ⟨b, o, hv, ?_⟩
    rw [hg]
    simp [List.getD, hl]
  have hlabel : ∀ v : Int, 0 ≤ v → v < ls.length → ∃ lb lo', lva = some ⟨lb, lo', none⟩ ∧ getCells H3 lb (lo' + v.toNat * 2) 1 = some [.int .i64 (ls.getD v.toNat (0, 0)).1] := fun v h1 h2 => by
    obtain ⟨lb, lo', hla, hgl0, _⟩ := lab_at r13 (H := H3) (fun _ _ h => h) h1 h2
    simp only [Value.slice.injEq, and_true] at hla
    have hgl1 := hgl0 []
    rw [List.append_nil] at hgl1
    have := gc_part (off := 0) (k := 1) hgl1 (by omega)
    exact ⟨lb, lo', hla, by simpa using this⟩
  have hl3 := hx03.1
  refine seq_block (wpc_loop ?_)
  suffices hh : ∀ (m i : Nat) (e : Env), i + m = ml.length → (ml.take i).all (mkP ls homes own h) = true → e 0 = ptr W 0 → e 1 = .slice ha homes.length homes.length → e 3 = .int .i64 h → e 9 = ptr H.length 0 → e 10 = ptr H1.length 0 → e 11 = .slice ma ml.length ml.length → e 12 = .int .i64 i → Go.Proofs.YtbjeldblaclpnaaI.W F H.length _ e H3 _ from
    hh ml.length 0 _ (by omega) rfl (by simp only [go_sem, binC]) (by simp only [go_sem, binC]) (by simp only [go_sem, binC]) (by simp only [go_sem, binC]) (by simp only [go_sem, binC]) (by simp only [go_sem, binC]) (by (simp only [go_sem, binC]) <;> rfl)
  intro m
  induction m with
  | zero =>
    intro i e hi hall e0 e1 e3 e9 e10 e11 e12
    rw [List.take_of_length_le (by omega)] at hall
    refine lp_step ?_
    refine seq_assoc (seq_reg ?_)
    simp only [go_sem, binC, e11, e12]
    refine seq_cond (t := false) (by simp only [go_sem, binC]; rw [decide_eq_false (by omega)]) ?_
    simp only [go_sem, binC]
    refine seq_exit ?_
    simp only [go_sem, binC, thenX_e, out_e, thenX_n]
    refine seq_regD ?_
    simp only [go_sem, binC, e9, gc_of hb93, inBlk_some]
    by_cases k1 : sk = 1
    · simp only [go_sem, binC, bne_fJ k1]
      obtain ⟨hb, ho, rfl, hg⟩ := hhome sx hvx.1 hvx.2
      simp only [go_sem, binC, e1, e9, e10, gc_of hb93, gc_of hb103, inBlk_some]
      refine ⟨⟨by omega, by omega⟩, ?_⟩
      simp only [go_sem, binC, Int.toNat_natCast, Nat.mul_one, hg]
      refine op_callQ (by simp only [go_sem, binC]; exact gh H3 own.1 _ ho1.1 ho1.2) ?_
      simp only [go_sem, binC]
      refine wpc_ret ⟨Or.inr rfl, _, (by (simp only [go_sem, binC]) <;> rfl), ?_, rfl⟩
      rw [hall, decide_eq_false (by simpa using k1)]
      rfl
    · simp only [go_sem, binC, bne_tJ k1]
      refine wpc_ret ⟨Or.inr rfl, _, (by (simp only [go_sem, binC]) <;> rfl), ?_, rfl⟩
      rw [hall, decide_eq_true (by simpa using k1)]
      rfl
  | succ m ih =>
    intro i e hi hall e0 e1 e3 e9 e10 e11 e12
    have hil : i < ml.length := by omega
    have hw1 : IntKind.i64.wrap ((i : Int) + 1) = ((i + 1 : Nat) : Int) := by rw [wrap_id (by omega) (by omega)]; omega
    have hvi := hmin _ (List.getElem_mem hil)
    obtain ⟨mb, mo, hmv, hmg⟩ := gcJ hm3' hil
    simp only [Value.slice.injEq, and_true] at hmv
    subst hmv
    obtain ⟨lb, lo', rfl, hlg⟩ := hlabel _ hvi.1 hvi.2
    obtain ⟨hb, ho, rfl, hhg⟩ := hhome _ hvi.1 hvi.2
    have hlx := labB_i.1 (lab_getD hlab ml[i].toNat)
    have hPf : mkP ls homes own h ml[i] = false → ml.all (mkP ls homes own h) = false := fun hp => by
      rw [Bool.eq_false_iff]
      intro hall'
      have := List.all_eq_true.1 hall' _ (List.getElem_mem hil)
      rw [hp] at this
      cases this
    refine lp_step ?_
    refine seq_assoc (seq_reg ?_)
    simp only [go_sem, binC, e11, e12]
    refine seq_cond (t := true) (by simp only [go_sem, binC]; rw [decide_eq_true (by omega)]) ?_
    simp only [go_sem, binC]
    refine seq_skip (seq_block (seq_regD ?_))
    simp only [go_sem, binC, e0, e3, e11, e12, gc_of hW3, inBlk_some]
    refine ⟨⟨by omega, by omega⟩, ?_⟩
    simp only [go_sem, binC, Int.toNat_natCast, Nat.mul_one, hmg]
    refine ⟨⟨by omega, by omega⟩, ?_⟩
    simp only [go_sem, binC, hlg, e3]
    refine op_callQ (by simp only [go_sem, binC, e3]; exact gh H3 _ h hlx.1.1 hlx.1.2) ?_
    cases p1 : hasB (ls.getD ml[i].toNat (0, 0)).1 h with
    | false =>
      simp only [go_sem, binC]
      refine wpc_cond (t := true) rfl ?_
      simp only [go_sem, binC]
      refine seq_reg ?_
      simp only [go_sem, binC]
      refine wpc_ret ?_
      simp only [go_sem, binC, out_r, thenX_r]
      refine ⟨Or.inr rfl, .bool false, (by (simp only [go_sem, binC]) <;> rfl), ?_, rfl⟩
      rw [hPf (by unfold mkP; rw [p1]; rfl)]
      rfl
    | true =>
    simp only [go_sem, binC, e1, e10, e11, e12, gc_of hb103, inBlk_some]
    refine ⟨⟨by omega, by omega⟩, ?_⟩
    simp only [go_sem, binC, Int.toNat_natCast, Nat.mul_one, hmg]
    refine ⟨⟨by omega, by omega⟩, ?_⟩
    simp only [go_sem, binC, Int.toNat_natCast, Nat.mul_one, hhg]
    refine op_callQ (by simp only [go_sem, binC]; exact gh H3 own.1 _ ho1.1 ho1.2) ?_
    cases p2 : hasB own.1 (homes.getD ml[i].toNat 0) with
    | false =>
      simp only [go_sem, binC]
      refine wpc_cond (t := true) rfl ?_
      simp only [go_sem, binC]
      refine seq_reg ?_
      simp only [go_sem, binC]
      refine wpc_ret ?_
      simp only [go_sem, binC, out_r, thenX_r]
      refine ⟨Or.inr rfl, .bool false, (by (simp only [go_sem, binC]) <;> rfl), ?_, rfl⟩
      rw [hPf (by unfold mkP; rw [p1, p2]; rfl)]
      rfl
    | true =>
    simp only [go_sem, binC]
    refine wpc_cond (t := false) rfl ?_
    simp only [go_sem, binC]
    refine wpc_skip ?_
    simp only [go_sem, binC, out_n, thenX_n]
    refine wpc_reg ?_
    simp only [go_sem, binC, e12, hw1]
    simp only [go_sem, binC, thenX_n]
    refine ih (i + 1) _ (by omega) ?_ (by simp only [go_sem, binC, e0]) (by simp only [go_sem, binC, e1]) (by simp only [go_sem, binC, e3]) (by simp only [go_sem, binC, e9]) (by simp only [go_sem, binC, e10]) (by simp only [go_sem, binC, e11]) (by simp only [go_sem, binC])
    rw [List.take_add_one, List.getElem?_eq_getElem hil, List.all_append, hall]
    simp only [Option.toList, List.all_cons, List.all_nil, Bool.true_and, Bool.and_true]
    unfold mkP
    rw [p1, p2]
    rfl
end Go.Proofs.YtbjeldblaclpnaaI
end
section
/- Lists of numbers of one's own, appended to; who does all steps (the reference's). -/
set_option linter.unusedVariables false
set_option linter.unusedSimpArgs false
namespace Go.Proofs.YtbjeldblaclpnaaI
open Go Go.RowKit
/-- A list of numbers in a block of its own that may be appended to. -/
structure IntsO (et lo : Nat) (H : Heap) (b : Nat) (so : Bool) (l : List Int) : Prop where
  ge : lo ≤ b
  len : l.length ≤ 1048576
  blk : H[b]? = some ⟨ints l, 1, et, true, so⟩
  rg : ∀ x ∈ l, RgI x
theorem IntsO.sl {et lo : Nat} {H : Heap} {b : Nat} {so : Bool} {l : List Int} (h : IntsO et lo H b so l) : SlR Co.int (vw 0 H) (sli b 0 l.length) l := ints_sl0 h.blk h.rg (by have := h.len; omega)
theorem IntsO.keep {et lo lo' : Nat} {H H' : Heap} {b : Nat} {so : Bool} {l : List Int} {xs : List Nat} (h : IntsO et lo H b so l) (hl : lo' ≤ lo) (hx : AgX xs H H') (hn : b ∉ xs) : IntsO et lo' H' b so l := ⟨Nat.le_trans hl h.ge, h.len, hx.get h.blk hn, h.rg⟩
theorem IntsO.lt {et lo : Nat} {H : Heap} {b : Nat} {so : Bool} {l : List Int} (h : IntsO et lo H b so l) : b < H.length := (List.getElem?_eq_some_iff.1 h.blk).1
theorem IntsO.nil {et lo : Nat} {H : Heap} (h : lo ≤ H.length) : IntsO et lo (H ++ [⟨[], 1, et, true, true⟩]) H.length true [] := ⟨h, by simp, get_new0 _ _, by simp⟩
end Go.Proofs.YtbjeldblaclpnaaI
end
section
/- The first plan (the reference's). -/
set_option linter.unusedVariables false
set_option linter.unusedSimpArgs false
namespace Go.Proofs.YtbjeldblaclpnaaI
open Go Go.RowKit
def c_sTypeOk : IFn := ⟨1, 16, [.t 2],
 .seq (.reg none [
    ⟨(some 1), none, .box (.t 0)⟩,
    ⟨(some 2), none, .mov (.c (.bool false))⟩])
 (.seq (.reg none [
    ⟨(some 6), none, .load true 2 (.t 1)⟩,
    ⟨(some 7), none, .call .q (.f 59) [(.t 6)]⟩,
    ⟨(some 5), none, .mov (.t 7)⟩,
    ⟨(some 8), none, .ext (.t 5) 0⟩,
    ⟨(some 9), none, .ext (.t 5) 1⟩,
    ⟨(some 3), none, .mov (.t 8)⟩,
    ⟨(some 4), none, .mov (.t 9)⟩])
 (.seq (.reg none [
    ⟨(some 10), none, .load true 2 (.t 1)⟩,
    ⟨(some 11), none, .call .q (.f 60) [(.t 10)]⟩,
    ⟨(some 12), none, .mov (.t 11)⟩,
    ⟨(some 13), (some (12, true)), .mov (.t 4)⟩,
    ⟨(some 14), (some (12, true)), .un .not (.t 13)⟩,
    ⟨(some 15), none, .pick (.t 12) (.t 14) (.c (.bool false))⟩,
    ⟨(some 2), none, .mov (.t 15)⟩])
 (.ret)))⟩
theorem sTypeOk_ok {F : Nat → Option IFn} {f : Nat} (hf : F f = some c_sTypeOk) (gw : WhyV F 59) (gp : ProgOk F 60) : TypeP F f := by
  intro H n lv sv ls l r1 r2 hsm
  have olv : one lv = true := by obtain ⟨_, a, rfl, _⟩ := r1; rfl
  have osv : one sv = true := by obtain ⟨_, a, rfl, _⟩ := r2; rfl
  refine QC.mk hf rfl ?_
  refine seq_reg ?_
  simp only [go_sem, binC, olv, osv]
  refine wpc_gen fun H1 hH1 => ?_
  have hx1 : AgX [] H H1 := hH1 ▸ AgX.app [] _ _
  have hb : H1[H.length]? = some ⟨[lv, sv], 0, 0, false, true⟩ := hH1 ▸ get_new0 _ _
  clear hH1
  have hS := agx_sub hx1
  refine seq_reg ?_
  simp only [go_sem, binC, gc_of hb, inBlk_some, olv, osv]
  refine op_callQ (by simp only [go_sem, binC]; exact gw H1 n _ _ ls l (r1.mono hS) (r2.mono hS) hsm) ?_
  simp only [go_sem, binC]
  refine seq_reg ?_
  simp only [go_sem, binC, gc_of hb, inBlk_some, olv, osv]
  refine op_callQ (by simp only [go_sem, binC]; exact gp H1 n _ (ls, l) (prog_rd (r1.mono hS) (r2.mono hS)) hsm) ?_
  cases hP : progB n (ls, l) with
  | false =>
    simp only [go_sem, binC]
    refine wpc_ret ⟨Or.inr rfl, .bool false, (by (simp only [go_sem, binC]) <;> rfl), ?_, rfl⟩
    refine congrArg _ ?_
    show _ = typeP n (ls, l)
    unfold typeP
    rw [hP]
    rfl
  | true =>
    simp only [go_sem, binC]
    refine wpc_ret ⟨Or.inr rfl, .bool (!(whyV n (ls, l)).2), (by (simp only [go_sem, binC]) <;> rfl), ?_, rfl⟩
    refine congrArg _ ?_
    show _ = typeP n (ls, l)
    unfold typeP
    rw [hP]
    rfl
def PlanX (lo b : Nat) (H : Heap) (tv hv dv : Value) (ts : List Int) (o : Option (List Int)) (d : List Int → List Int) : Prop := match o with
  | none => one tv = true ∧ one hv = true ∧ one dv = true
  | some homes => ∃ b1 b2 b3, tv = sli b1 0 ts.length ∧ hv = sli b2 0 homes.length ∧ dv = sli b3 0 (d homes).length ∧ IntsO 3 lo H b1 true ts ∧ IntsO 3 0 H b2 true homes ∧ IntsO 3 lo H b3 true (d homes) ∧ (b2 = b ∨ lo ≤ b2) ∧ b1 ≠ b2 ∧ b1 ≠ b3 ∧ b2 ≠ b3
theorem PlanX.one {lo b : Nat} {H : Heap} {tv hv dv : Value} {ts : List Int} {o : Option (List Int)} {d : List Int → List Int} (h : PlanX lo b H tv hv dv ts o d) : Go.Proofs.YtbjeldblaclpnaaI.one tv = true ∧ Go.Proofs.YtbjeldblaclpnaaI.one hv = true ∧ Go.Proofs.YtbjeldblaclpnaaI.one dv = true := by
  cases o with
  | none => exact h
  | some homes =>
    obtain ⟨b1, b2, b3, rfl, rfl, rfl, _⟩ := h
    exact ⟨rfl, rfl, rfl⟩
theorem PlanX.keep {lo lo' b b' : Nat} {H H' : Heap} {tv hv dv : Value} {ts : List Int} {o : Option (List Int)} {d : List Int → List Int} {xs : List Nat} (h : PlanX lo b H tv hv dv ts o d) (hl : lo' ≤ lo) (hx : AgX xs H H') (hn : ∀ c, c = b ∨ lo ≤ c → c ∉ xs) (hb : b = b' ∨ lo' ≤ b) : PlanX lo' b' H' tv hv dv ts o d := by
  cases o with
  | none => exact h
  | some homes =>
    obtain ⟨b1, b2, b3, h1, h2, h3, q1, q2, q3, q4, q5⟩ := h
    refine ⟨b1, b2, b3, h1, h2, h3, q1.keep hl hx (hn _ (.inr q1.ge)), q2.keep (Nat.le_refl _) hx (hn _ q4), q3.keep hl hx (hn _ (.inr q3.ge)), ?_, q5⟩
    rcases q4 with h | h
    · subst h
      rcases hb with h | h
      · exact .inl h
      · exact .inr h
    · exact .inr (by omega)
end Go.Proofs.YtbjeldblaclpnaaI
end
section
/- The first plan (the reference's), of a program. -/
set_option linter.unusedVariables false
set_option linter.unusedSimpArgs false
namespace Go.Proofs.YtbjeldblaclpnaaI
open Go Go.RowKit
end Go.Proofs.YtbjeldblaclpnaaI
end
section
/- Whether a plan, and a step of it, is as it may be (the reference's). -/
set_option linter.unusedVariables false
set_option linter.unusedSimpArgs false
namespace Go.Proofs.YtbjeldblaclpnaaI
open Go Go.RowKit
def c_sProgSize : IFn := ⟨1, 9, [.t 2],
 .seq (.reg none [
    ⟨(some 1), none, .box (.t 0)⟩,
    ⟨(some 2), none, .mov (.c (.int .i64 0))⟩])
 (.seq (.seq (.reg none [
     ⟨(some 3), none, .load true 2 (.t 1)⟩,
     ⟨(some 4), none, .call .q (.f 60) [(.t 3)]⟩,
     ⟨(some 5), none, .un .not (.t 4)⟩])
  (.cond (.t 5) (.seq (.reg none [
      ⟨(some 2), none, .mov (.c (.int .i64 (-1)))⟩])
   (.ret)) (.skip)))
 (.seq (.reg none [
    ⟨(some 6), none, .fad 1 (.t 1)⟩,
    ⟨(some 7), none, .load false 1 (.t 6)⟩,
    ⟨(some 8), none, .call .q (.f 107) [(.t 7)]⟩,
    ⟨(some 2), none, .mov (.t 8)⟩])
 (.ret)))⟩
def c_sHomes21 : IFn := ⟨2, 24, [.t 4],
 .seq (.reg none [
    ⟨(some 2), none, .box (.t 0)⟩,
    ⟨(some 4), none, .mov (.c (.bool false))⟩])
 (.seq (.seq (.reg none [
     ⟨(some 6), none, .mov (.t 1)⟩,
     ⟨(some 7), none, .len (.t 6)⟩,
     ⟨(some 8), none, .fad 0 (.t 2)⟩,
     ⟨(some 9), none, .load false 1 (.t 8)⟩,
     ⟨(some 10), none, .len (.t 9)⟩,
     ⟨(some 11), none, .bin .neq (.t 7) (.t 10)⟩])
  (.cond (.t 11) (.seq (.reg none [
      ⟨(some 4), none, .mov (.c (.bool false))⟩])
   (.ret)) (.skip)))
 (.seq (.seq (.reg none [
     ⟨(some 5), none, .mov (.c (.int .i64 0))⟩])
  (.block 0 (.loop (.seq (.seq (.reg none [
        ⟨(some 12), none, .mov (.t 5)⟩,
        ⟨(some 13), none, .mov (.t 1)⟩,
        ⟨(some 14), none, .len (.t 13)⟩,
        ⟨(some 15), none, .bin .lss (.t 12) (.t 14)⟩])
     (.cond (.t 15) (.skip) (.exit 0)))
    (.seq (.block 1 (.seq (.reg none [
         ⟨(some 18), none, .mov (.t 1)⟩,
         ⟨(some 19), none, .mov (.t 5)⟩,
         ⟨(some 20), none, .iad 1 (.t 18) (.t 19)⟩,
         ⟨(some 21), none, .load false 1 (.t 20)⟩,
         ⟨(some 22), none, .call .q (.f 79) [(.t 21), (.c (.int .i64 0)), (.c (.int .i64 2))]⟩,
         ⟨(some 23), none, .un .not (.t 22)⟩])
      (.cond (.t 23) (.seq (.reg none [
          ⟨(some 4), none, .mov (.c (.bool false))⟩])
       (.ret)) (.skip))))
    (.reg none [
      ⟨(some 16), none, .mov (.t 5)⟩,
      ⟨(some 17), none, .bin .add (.t 16) (.c (.int .i64 1))⟩,
      ⟨(some 5), none, .mov (.t 17)⟩]))))))
 (.seq (.reg none [
    ⟨(some 4), none, .mov (.c (.bool true))⟩])
 (.ret))))⟩
def c_sPlanOk : IFn := ⟨2, 79, [.t 4],
 .seq (.reg none [
    ⟨(some 2), none, .box (.t 0)⟩,
    ⟨(some 3), none, .box (.t 1)⟩,
    ⟨(some 4), none, .mov (.c (.bool false))⟩])
 (.seq (.seq (.reg (some 22) [
     ⟨(some 8), none, .load true 2 (.t 2)⟩,
     ⟨(some 9), none, .call .q (.f 18) [(.t 8)]⟩,
     ⟨(some 10), none, .un .not (.t 9)⟩,
     ⟨(some 11), none, .mov (.t 10)⟩,
     ⟨(some 12), (some (11, false)), .fad 0 (.t 3)⟩,
     ⟨(some 13), (some (11, false)), .load false 1 (.t 12)⟩,
     ⟨(some 14), (some (11, false)), .call .q (.f 49) [(.t 13)]⟩,
     ⟨(some 15), (some (11, false)), .un .not (.t 14)⟩,
     ⟨(some 16), none, .pick (.t 11) (.c (.bool true)) (.t 15)⟩,
     ⟨(some 17), none, .mov (.t 16)⟩,
     ⟨(some 18), (some (17, false)), .load true 2 (.t 2)⟩,
     ⟨(some 19), (some (17, false)), .fad 1 (.t 3)⟩,
     ⟨(some 20), (some (17, false)), .load false 1 (.t 19)⟩,
     ⟨(some 21), (some (17, false)), .call .q (.f 76) [(.t 18), (.t 20)]⟩,
     ⟨(some 22), (some (17, false)), .un .not (.t 21)⟩,
     ⟨(some 23), none, .pick (.t 17) (.c (.bool true)) (.t 22)⟩,
     ⟨(some 24), none, .mov (.t 23)⟩,
     ⟨(some 25), (some (24, false)), .fad 2 (.t 3)⟩,
     ⟨(some 26), (some (24, false)), .load false 1 (.t 25)⟩,
     ⟨(some 27), (some (24, false)), .len (.t 26)⟩,
     ⟨(some 28), (some (24, false)), .load true 2 (.t 2)⟩,
     ⟨(some 29), (some (24, false)), .call .q (.f 77) [(.t 28)]⟩,
     ⟨(some 30), (some (24, false)), .bin .neq (.t 27) (.t 29)⟩,
     ⟨(some 31), none, .pick (.t 24) (.c (.bool true)) (.t 30)⟩])
  (.cond (.t 31) (.seq (.reg none [
      ⟨(some 4), none, .mov (.c (.bool false))⟩])
   (.ret)) (.skip)))
 (.seq (.reg none [
    ⟨(some 32), none, .load true 2 (.t 2)⟩,
    ⟨(some 33), none, .fad 0 (.t 3)⟩,
    ⟨(some 34), none, .load false 1 (.t 33)⟩,
    ⟨(some 35), none, .call .n (.f 50) [(.t 32), (.t 34)]⟩,
    ⟨(some 5), none, .mov (.t 35)⟩])
 (.seq (.seq (.reg none [
     ⟨(some 6), none, .mov (.c (.int .i64 0))⟩])
  (.block 0 (.loop (.seq (.seq (.reg none [
        ⟨(some 36), none, .mov (.t 6)⟩,
        ⟨(some 37), none, .fad 0 (.t 2)⟩,
        ⟨(some 38), none, .load false 1 (.t 37)⟩,
        ⟨(some 39), none, .len (.t 38)⟩,
        ⟨(some 40), none, .bin .lss (.t 36) (.t 39)⟩])
     (.cond (.t 40) (.skip) (.exit 0)))
    (.seq (.block 1 (.seq (.reg none [
         ⟨(some 43), none, .mov (.t 5)⟩,
         ⟨(some 44), none, .mov (.t 6)⟩,
         ⟨(some 45), none, .fad 1 (.t 3)⟩,
         ⟨(some 46), none, .load false 1 (.t 45)⟩,
         ⟨(some 47), none, .mov (.t 6)⟩,
         ⟨(some 48), none, .iad 1 (.t 46) (.t 47)⟩,
         ⟨(some 49), none, .load false 1 (.t 48)⟩,
         ⟨(some 50), none, .call .q (.f 78) [(.t 43), (.t 44), (.t 49)]⟩,
         ⟨(some 51), none, .un .not (.t 50)⟩])
      (.cond (.t 51) (.seq (.reg none [
          ⟨(some 4), none, .mov (.c (.bool false))⟩])
       (.ret)) (.skip))))
    (.reg none [
      ⟨(some 41), none, .mov (.t 6)⟩,
      ⟨(some 42), none, .bin .add (.t 41) (.c (.int .i64 1))⟩,
      ⟨(some 6), none, .mov (.t 42)⟩]))))))
 (.seq (.seq (.reg none [
     ⟨(some 7), none, .mov (.c (.int .i64 0))⟩])
  (.block 2 (.loop (.seq (.seq (.reg none [
        ⟨(some 52), none, .mov (.t 7)⟩,
        ⟨(some 53), none, .fad 2 (.t 3)⟩,
        ⟨(some 54), none, .load false 1 (.t 53)⟩,
        ⟨(some 55), none, .len (.t 54)⟩,
        ⟨(some 56), none, .bin .lss (.t 52) (.t 55)⟩])
     (.cond (.t 56) (.skip) (.exit 2)))
    (.seq (.block 3 (.seq (.reg (some 17) [
         ⟨(some 59), none, .fad 2 (.t 3)⟩,
         ⟨(some 60), none, .load false 1 (.t 59)⟩,
         ⟨(some 61), none, .mov (.t 7)⟩,
         ⟨(some 62), none, .iad 1 (.t 60) (.t 61)⟩,
         ⟨(some 63), none, .load false 1 (.t 62)⟩,
         ⟨(some 64), none, .call .q (.f 79) [(.t 63), (.c (.int .i64 0)), (.c (.int .i64 2))]⟩,
         ⟨(some 65), none, .un .not (.t 64)⟩,
         ⟨(some 66), none, .mov (.t 65)⟩,
         ⟨(some 67), (some (66, false)), .mov (.t 5)⟩,
         ⟨(some 68), (some (66, false)), .fad 1 (.t 3)⟩,
         ⟨(some 69), (some (66, false)), .load false 1 (.t 68)⟩,
         ⟨(some 70), (some (66, false)), .mov (.t 7)⟩,
         ⟨(some 71), (some (66, false)), .fad 2 (.t 3)⟩,
         ⟨(some 72), (some (66, false)), .load false 1 (.t 71)⟩,
         ⟨(some 73), (some (66, false)), .mov (.t 7)⟩,
         ⟨(some 74), (some (66, false)), .iad 1 (.t 72) (.t 73)⟩,
         ⟨(some 75), (some (66, false)), .load false 1 (.t 74)⟩,
         ⟨(some 76), (some (66, false)), .call .q (.f 80) [(.t 67), (.t 69), (.t 70), (.t 75)]⟩,
         ⟨(some 77), (some (66, false)), .un .not (.t 76)⟩,
         ⟨(some 78), none, .pick (.t 66) (.c (.bool true)) (.t 77)⟩])
      (.cond (.t 78) (.seq (.reg none [
          ⟨(some 4), none, .mov (.c (.bool false))⟩])
       (.ret)) (.skip))))
    (.reg none [
      ⟨(some 57), none, .mov (.t 7)⟩,
      ⟨(some 58), none, .bin .add (.t 57) (.c (.int .i64 1))⟩,
      ⟨(some 7), none, .mov (.t 58)⟩]))))))
 (.seq (.reg none [
    ⟨(some 4), none, .mov (.c (.bool true))⟩])
 (.ret))))))⟩
def sizeV (n : Nat) (p : TProg n) : Int := if progB n p = true then ((allL n p.2).length : Int) else -1
def SizeV (F : Nat → Option IFn) (f : Nat) : Prop := ∀ (H : Heap) (n : Nat) (lv sv : Value) (ls : List (Int × Int)) (l : List (TStep n)), SlR Co.p2 (vw 0 H) lv ls → SlR (Co.step n) (vw 0 H) sv l → (Co.prog n).sm (ls, l) → QC F f [.agg #[lv, sv]] H (.int .i64 (sizeV n (ls, l)))
theorem sizeV_yes {n : Nat} {ls : List (Int × Int)} {l : List (TStep n)} (h : progB n (ls, l) = true) : sizeV n (ls, l) = ((allL n l).length : Int) := if_pos h
theorem sProgSizeV_ok {F : Nat → Option IFn} {f : Nat} (hf : F f = some c_sProgSize) (gp : ProgOk F 60) (gc : ∀ n, CntOk F 107 n) : SizeV F f := by
  intro H n lv sv ls l r1 r2 hsm
  have olv : one lv = true := by obtain ⟨_, a, rfl, _⟩ := r1; rfl
  have osv : one sv = true := by obtain ⟨_, a, rfl, _⟩ := r2; rfl
  refine QC.mk hf rfl ?_
  refine seq_reg ?_
  simp only [go_sem, binC, olv, osv]
  refine wpc_gen fun H1 hH1 => ?_
  have hx1 : AgX [] H H1 := hH1 ▸ AgX.app [] _ _
  have hb : H1[H.length]? = some ⟨[lv, sv], 0, 0, false, true⟩ := hH1 ▸ get_new0 _ _
  clear hH1
  have hS := agx_sub hx1
  refine seq_assoc (seq_reg ?_)
  simp only [go_sem, binC, gc_of hb, inBlk_some, olv, osv]
  refine op_callQ (by simp only [go_sem, binC]; exact gp H1 n _ (ls, l) (prog_rd (r1.mono hS) (r2.mono hS)) hsm) ?_
  unfold sizeV
  cases hP : progB n (ls, l) with
  | false =>
    simp only [go_sem, binC]
    refine seq_cond (t := true) rfl ?_
    simp only [go_sem, binC]
    refine seq_assoc (seq_reg ?_)
    simp only [go_sem, binC]
    exact seq_ret ⟨Or.inr rfl, .int .i64 (-1), (by (simp only [go_sem, binC]) <;> rfl), rfl, rfl⟩
  | true =>
  simp only [go_sem, binC]
  refine seq_cond (t := false) rfl ?_
  simp only [go_sem, binC]
  refine seq_skip (seq_reg ?_)
  simp only [go_sem, binC, gc_of hb, inBlk_some]
  refine op_callQ (by simp only [go_sem, binC]; exact gc n H1 sv l (r2.mono hS)) ?_
  simp only [go_sem, binC]
  refine wpc_ret ⟨Or.inr rfl, _, (by (simp only [go_sem, binC]) <;> rfl), ?_, rfl⟩
  have hc := progB_cnt hP hsm
  simp only at hc
  rw [cntL_len]
  unfold Wr
  rw [wrap_id (by omega) (by omega)]
def homesB (k : Nat) (homes : List Int) : Bool := decide (homes.length = k) && hostsB homes
theorem homesB_iff {k : Nat} {homes : List Int} : homesB k homes = true ↔ homesP k homes := by
  unfold homesB homesP hostsB
  rw [Bool.and_eq_true, decide_eq_true_eq, List.all_eq_true]
  exact and_congr_right fun _ => forall_congr' fun x => imp_congr_right fun _ => inB_iff
def Homes21 (F : Nat → Option IFn) (f : Nat) : Prop := ∀ (H : Heap) (lv sv hw : Value) (ls : List (Int × Int)) (homes : List Int), one sv = true → SlR Co.p2 (vw 0 H) lv ls → SlR Co.int (vw 0 H) hw homes → QC F f [.agg #[lv, sv], hw] H (.bool (homesB ls.length homes))
theorem sHomes21_ok {F : Nat → Option IFn} {f : Nat} (hf : F f = some c_sHomes21) (gi : ∀ (H : Heap) (a b c : Int), QC F 79 [.int .i64 a, .int .i64 b, .int .i64 c] H (.bool (inB a b c))) : Homes21 F f := by
  intro H lv sv hw ls homes osv r1 r2
  obtain ⟨hls0, la, rfl, _⟩ := id r1
  obtain ⟨hh0, ha, rfl, _⟩ := id r2
  refine QC.mk hf rfl ?_
  refine seq_reg ?_
  simp only [go_sem, binC, osv]
  refine wpc_gen fun H1 hH1 => ?_
  have hx1 : AgX [] H H1 := hH1 ▸ AgX.app [] _ _
  have hb : H1[H.length]? = some ⟨[.slice la ls.length ls.length, sv], 0, 0, false, true⟩ := hH1 ▸ get_new0 _ _
  clear hH1
  have rh := r2.mono (agx_sub hx1)
  refine seq_assoc (seq_reg ?_)
  simp only [go_sem, binC, gc_of hb, inBlk_some]
  by_cases hlen : homes.length = ls.length
  · have hl' : (homes.length : Int) = ls.length := by omega
    simp only [go_sem, binC, bne_fJ hl']
    refine seq_cond (t := false) rfl ?_
    simp only [go_sem, binC]
    refine seq_skip (seq_assoc (seq_reg ?_))
    simp only [go_sem, binC]
    refine seq_block (wpc_loop ?_)
    have hB : homesB ls.length homes = hostsB homes := by unfold homesB; rw [decide_eq_true hlen]; rfl
    rw [hB]
    suffices hh : ∀ (k i : Nat) (e : Env), i + k = homes.length → (homes.take i).all (fun h => inB h 0 2) = true → e 1 = .slice ha homes.length homes.length → e 5 = .int .i64 i → Go.Proofs.YtbjeldblaclpnaaI.W F H.length _ e H1 _ from
      hh homes.length 0 _ (by omega) rfl (by simp only [go_sem, binC]) (by (simp only [go_sem, binC]) <;> rfl)
    intro k
    induction k with
    | zero =>
      intro i e hi hall e1 e5
      rw [List.take_of_length_le (by omega)] at hall
      refine lp_step ?_
      refine seq_assoc (seq_reg ?_)
      simp only [go_sem, binC, e1, e5]
      refine seq_cond (t := false) (by simp only [go_sem, binC]; rw [decide_eq_false (by omega)]) ?_
      simp only [go_sem, binC]
      refine seq_exit ?_
      simp only [go_sem, binC, thenX_e, out_e, thenX_n]
      refine seq_reg ?_
      simp only [go_sem, binC]
      exact wpc_ret ⟨Or.inr rfl, .bool true, (by (simp only [go_sem, binC]) <;> rfl), by unfold hostsB; rw [hall], rfl⟩
    | succ k ih =>
      intro i e hi hall e1 e5
      have hil : i < homes.length := by omega
      have hw1 : IntKind.i64.wrap ((i : Int) + 1) = ((i + 1 : Nat) : Int) := by rw [wrap_id (by omega) (by omega)]; omega
      obtain ⟨b, o, hv1, hg⟩ := gcJ rh hil
      simp only [Value.slice.injEq, and_true] at hv1
      subst hv1
      refine lp_step ?_
      refine seq_assoc (seq_reg ?_)
      simp only [go_sem, binC, e1, e5]
      refine seq_cond (t := true) (by simp only [go_sem, binC]; rw [decide_eq_true (by omega)]) ?_
      simp only [go_sem, binC]
      refine seq_skip (seq_block (seq_reg ?_))
      simp only [go_sem, binC, e1, e5]
      refine ⟨⟨by omega, by omega⟩, ?_⟩
      simp only [go_sem, binC, Int.toNat_natCast, Nat.mul_one, hg]
      refine op_callQ (by simp only [go_sem, binC]; exact gi H1 homes[i] 0 2) ?_
      cases hp : inB homes[i] 0 2 with
      | false =>
        simp only [go_sem, binC]
        refine wpc_cond (t := true) rfl ?_
        simp only [go_sem, binC]
        refine seq_reg ?_
        simp only [go_sem, binC]
        refine wpc_ret ?_
        simp only [go_sem, binC, out_r, thenX_r]
        refine ⟨Or.inr rfl, .bool false, (by (simp only [go_sem, binC]) <;> rfl), ?_, rfl⟩
        have : hostsB homes = false := by
          rw [Bool.eq_false_iff]
          intro h
          unfold hostsB at h
          rw [List.all_eq_true.1 h _ (List.getElem_mem hil)] at hp
          cases hp
        rw [this]
      | true =>
        simp only [go_sem, binC]
        refine wpc_cond (t := false) rfl ?_
        simp only [go_sem, binC]
        refine wpc_skip ?_
        simp only [go_sem, binC, out_n, thenX_n]
        refine wpc_reg ?_
        simp only [go_sem, binC, e5, hw1]
        simp only [go_sem, binC, thenX_n]
        refine ih (i + 1) _ (by omega) ?_ (by simp only [go_sem, binC, e1]) (by simp only [go_sem, binC])
        rw [List.take_add_one, List.getElem?_eq_getElem hil, List.all_append, hall]
        simp [hp]
  · have hl' : ¬ ((homes.length : Int) = ls.length) := by omega
    simp only [go_sem, binC, bne_tJ hl']
    refine seq_cond (t := true) rfl ?_
    simp only [go_sem, binC]
    refine seq_assoc (seq_reg ?_)
    simp only [go_sem, binC]
    refine seq_ret ⟨Or.inr rfl, .bool false, (by (simp only [go_sem, binC]) <;> rfl), ?_, rfl⟩
    unfold homesB
    rw [decide_eq_false hlen]
    rfl
end Go.Proofs.YtbjeldblaclpnaaI
end
section
/- Whether a plan is as it may be (the reference's). -/
set_option linter.unusedVariables false
set_option linter.unusedSimpArgs false
namespace Go.Proofs.YtbjeldblaclpnaaI
open Go Go.RowKit
/-- Whether all variables are where they may be; whether all steps are done by whom they may be. -/
def allHome (ls : List (Int × Int)) (ts homes : List Int) : Bool := (List.range ls.length).all fun v => hmB ls ts v (homes.getD v 0)
def allDo (n : Nat) (ls : List (Int × Int)) (l : List (TStep n)) (ts homes does : List Int) : Bool := (List.range does.length).all fun j => inB (does.getD j 0) 0 2 && doN n ls l ts homes j (does.getD j 0)
def planOkV (n : Nat) (p : TProg n) (ts homes does : List Int) : Bool := typeP n p && (trK ts && (homesB p.1.length homes && (decide ((does.length : Int) = sizeV n p) && (allHome p.1 ts homes && allDo n p.1 p.2 ts homes does))))
def PlanOkV (F : Nat → Option IFn) (f : Nat) : Prop := ∀ (H : Heap) (n : Nat) (lv sv tw hw dw : Value) (ls : List (Int × Int)) (l : List (TStep n)) (ts homes does : List Int), SlR Co.p2 (vw 0 H) lv ls → SlR (Co.step n) (vw 0 H) sv l → (Co.prog n).sm (ls, l) → SlR Co.int (vw 0 H) tw ts → SlR Co.int (vw 0 H) hw homes → SlR Co.int (vw 0 H) dw does → QC F f [.agg #[lv, sv], .agg #[tw, hw, dw]] H (.bool (planOkV n (ls, l) ts homes does))
theorem all_no {P : Nat → Bool} {k i : Nat} (hi : i < k) (h : P i = false) : (List.range k).all P = false := by
  rw [Bool.eq_false_iff]
  intro h'
  rw [List.all_eq_true.1 h' i (by simpa using hi)] at h
  cases h
theorem all_yes {P : Nat → Bool} {k : Nat} (h : ∀ i, i < k → P i = true) : (List.range k).all P = true := List.all_eq_true.2 fun i hi => h i (by simpa using hi)
theorem gcD {H : Heap} {v : Value} {l : List Int} (h : SlR Co.int (vw 0 H) v l) {i : Nat} (hi : i < l.length) : ∃ b o, v = .slice (some ⟨b, o, none⟩) l.length l.length ∧ getCells H b (o + i) 1 = some [.int .i64 (l.getD i 0)] := by
  obtain ⟨b, o, h1, h2⟩ := gcJ h hi
  exact ⟨b, o, h1, by rw [h2]; simp [List.getD, hi]⟩
theorem sPlanOk_ok {F : Nat → Option IFn} {f : Nat} (hf : F f = some c_sPlanOk) (gty : TypeP F 18) (gt : TrOk F 49) (gho : Homes21 F 76) (gz : SizeV F 77) (gi : ∀ (H : Heap) (a b c : Int), QC F 79 [.int .i64 a, .int .i64 b, .int .i64 c] H (.bool (inB a b c))) (gs : SeeOk F 50) (ghm : LHome F 78) (gst : LStep F 80) : PlanOkV F f := by
  intro H n lv sv tw hw dw ls l ts homes does r1 r2 hsm r3 r4 r5
  have osv : one sv = true := by obtain ⟨_, a, rfl, _⟩ := r2; rfl
  obtain ⟨_, la, rfl, _⟩ := id r1
  obtain ⟨_, ta, rfl, _⟩ := id r3
  obtain ⟨_, ha, rfl, _⟩ := id r4
  obtain ⟨hd0, da, rfl, _⟩ := id r5
  refine QC.mk hf rfl ?_
  refine seq_reg ?_
  simp only [go_sem, binC, osv]
  refine wpc_gen fun H1 hH1 => ?_
  have hx1 : AgX [] H H1 := hH1 ▸ AgX.app [] _ _
  have hb : H1[H.length]? = some ⟨[.slice la ls.length ls.length, sv], 0, 0, false, true⟩ := hH1 ▸ get_new0 _ _
  have hb3 : H1[H.length + 1]? = some ⟨[.slice ta ts.length ts.length, .slice ha homes.length homes.length, .slice da does.length does.length], 0, 0, false, true⟩ := hH1 ▸ get_new _ _ 1
  clear hH1
  have hS := agx_sub hx1
  have hl1 := hx1.1
  have hgz := gz H1 n _ _ ls l (r1.mono hS) (r2.mono hS) hsm
  have hcntz : progB n (ls, l) = true → sizeV n (ls, l) = ((allL n l).length : Int) := sizeV_yes
  unfold planOkV
  show wpc F H.length _ _ _ (fin _ fun w _ => w = .bool (typeP n (ls, l) && (trK ts && (homesB ls.length homes && (decide ((does.length : Int) = sizeV n (ls, l)) && (allHome ls ts homes && allDo n ls l ts homes does))))) ∧ scal w = true)
  generalize sizeV n (ls, l) = z at *
  refine seq_assoc (seq_regD ?_)
  simp only [go_sem, binC, gc_of hb, inBlk_some, osv]
  refine op_callQ (by simp only [go_sem, binC]; exact gty H1 n _ _ ls l (r1.mono hS) (r2.mono hS) hsm) ?_
  cases hT : typeP n (ls, l) with
  | false =>
    simp only [go_sem, binC]
    refine seq_cond (t := true) rfl ?_
    simp only [go_sem, binC]
    refine seq_assoc (seq_reg ?_)
    simp only [go_sem, binC]
    exact seq_ret ⟨Or.inr rfl, .bool false, (by (simp only [go_sem, binC]) <;> rfl), rfl, rfl⟩
  | true =>
  have hP : progB n (ls, l) = true := by
    unfold typeP at hT
    simp only [Bool.and_eq_true] at hT
    exact hT.1
  simp only [go_sem, binC, gc_of hb3, inBlk_some]
  refine op_callQ (by simp only [go_sem, binC]; exact gt.k H1 _ ts (r3.mono hS)) ?_
  cases hk : trK ts with
  | false =>
    simp only [go_sem, binC]
    refine seq_cond (t := true) rfl ?_
    simp only [go_sem, binC]
    refine seq_assoc (seq_reg ?_)
    simp only [go_sem, binC]
    exact seq_ret ⟨Or.inr rfl, .bool false, (by (simp only [go_sem, binC]) <;> rfl), rfl, rfl⟩
  | true =>
  simp only [go_sem, binC, gc_of hb, gc_of hb3, inBlk_some, osv]
  refine op_callQ (by simp only [go_sem, binC]; exact gho H1 _ _ _ ls homes osv (r1.mono hS) (r4.mono hS)) ?_
  cases hh : homesB ls.length homes with
  | false =>
    simp only [go_sem, binC]
    refine seq_cond (t := true) rfl ?_
    simp only [go_sem, binC]
    refine seq_assoc (seq_reg ?_)
    simp only [go_sem, binC]
    exact seq_ret ⟨Or.inr rfl, .bool false, (by (simp only [go_sem, binC]) <;> rfl), rfl, rfl⟩
  | true =>
  simp only [go_sem, binC, gc_of hb, gc_of hb3, inBlk_some, osv]
  refine op_callQ (by simp only [go_sem, binC]; exact hgz) ?_
  by_cases hz : (does.length : Int) = z
  case neg =>
    simp only [go_sem, binC, bne_tJ hz]
    refine seq_cond (t := true) rfl ?_
    simp only [go_sem, binC]
    refine seq_assoc (seq_reg ?_)
    simp only [go_sem, binC]
    refine seq_ret ⟨Or.inr rfl, .bool false, (by (simp only [go_sem, binC]) <;> rfl), ?_, rfl⟩
    rw [decide_eq_false hz]
    rfl
  rw [decide_eq_true hz]
  simp only [go_sem, binC, bne_fJ hz]
  refine seq_cond (t := false) rfl ?_
  simp only [go_sem, binC]
  have hsz := hcntz hP
  have hlab : ls.all labB = true := progB_lab hP
  have hls4 : ls.length ≤ 4 := progB_len hP
  have hcnt : (allL n l).length ≤ 8 := progB_cnt hP hsm
  have hsl := allSL_len l
  have hho := homesB_iff.1 hh
  refine seq_skip (seq_reg ?_)
  simp only [go_sem, binC, gc_of hb, gc_of hb3, inBlk_some, osv]
  obtain ⟨W, H2, k2, hx2, hWg, hL⟩ := gs H.length H1 n _ _ _ ls l ts (by omega) (r1.mono hS) (r2.mono hS) hsm hP (r3.mono hS) (trK_iff.1 hk)
  refine op_callN (by simp only [go_sem, binC]; exact k2) ?_
  simp only [go_sem, binC]
  have hb2 := hx2.get hb (by simp)
  have hb32 := hx2.get hb3 (by simp)
  have hx02 := hx1.tr hx2
  have r42 := r4.mono (agx_sub hx02)
  have r52 := r5.mono (agx_sub hx02)
  refine seq_assoc (seq_reg ?_)
  simp only [go_sem, binC]
  refine seq_block (wpc_loop ?_)
  suffices hh : ∀ (k v : Nat) (e : Env), v + k = ls.length → (∀ q, q < v → hmB ls ts q (homes.getD q 0) = true) → e 2 = ptr H.length 0 → e 3 = ptr (H.length + 1) 0 → e 5 = ptr W 0 → e 6 = .int .i64 v → Go.Proofs.YtbjeldblaclpnaaI.W F H.length _ e H2 _ from
    hh ls.length 0 _ (by omega) (fun q h => by omega) (by simp only [go_sem, binC]) (by simp only [go_sem, binC]) (by simp only [go_sem, binC]) (by (simp only [go_sem, binC]) <;> rfl)
  intro k
  induction k with
  | zero =>
    intro v e hv hall e2 e3 e5 e6
    obtain rfl : v = ls.length := by omega
    have hAH : allHome ls ts homes = true := all_yes hall
    rw [hAH]
    refine lp_step ?_
    refine seq_assoc (seq_reg ?_)
    simp only [go_sem, binC, e2, e6, gc_of hb2, inBlk_some]
    refine seq_cond (t := false) (by simp only [go_sem, binC]; rw [decide_eq_false (by omega)]) ?_
    simp only [go_sem, binC]
    refine seq_exit ?_
    simp only [go_sem, binC, thenX_e, out_e, thenX_n]
    refine seq_assoc (seq_reg ?_)
    simp only [go_sem, binC]
    refine seq_block (wpc_loop ?_)
    suffices hh : ∀ (k j : Nat) (e : Env), j + k = does.length → (∀ q, q < j → (inB (does.getD q 0) 0 2 && doN n ls l ts homes q (does.getD q 0)) = true) → e 2 = ptr H.length 0 → e 3 = ptr (H.length + 1) 0 → e 5 = ptr W 0 → e 7 = .int .i64 j → Go.Proofs.YtbjeldblaclpnaaI.W F H.length _ e H2 _ from
      hh does.length 0 _ (by omega) (fun q h => by omega) (by simp only [go_sem, binC, e2]) (by simp only [go_sem, binC, e3]) (by simp only [go_sem, binC, e5]) (by (simp only [go_sem, binC]) <;> rfl)
    clear e2 e3 e5 e6
    intro k
    induction k with
    | zero =>
      intro j e hj hdo e2 e3 e5 e7
      obtain rfl : j = does.length := by omega
      have hAD : allDo n ls l ts homes does = true := all_yes hdo
      refine lp_step ?_
      refine seq_assoc (seq_reg ?_)
      simp only [go_sem, binC, e3, e7, gc_of hb32, inBlk_some]
      refine seq_cond (t := false) (by simp only [go_sem, binC]; rw [decide_eq_false (by omega)]) ?_
      simp only [go_sem, binC]
      refine seq_exit ?_
      simp only [go_sem, binC, thenX_e, out_e, thenX_n]
      refine seq_reg ?_
      simp only [go_sem, binC]
      rw [hAD]
      exact wpc_ret ⟨Or.inr rfl, .bool true, (by (simp only [go_sem, binC]) <;> rfl), rfl, rfl⟩
    | succ k ihj =>
      intro j e hj hdo e2 e3 e5 e7
      have hjl : j < does.length := by omega
      have hw1 : IntKind.i64.wrap ((j : Int) + 1) = ((j + 1 : Nat) : Int) := by rw [wrap_id (by omega) (by omega)]; omega
      obtain ⟨db, do_, hdv, hdg⟩ := gcD r52 hjl
      simp only [Value.slice.injEq, and_true] at hdv
      subst hdv
      have hno : (inB (does.getD j 0) 0 2 && doN n ls l ts homes j (does.getD j 0)) = false → allDo n ls l ts homes does = false := fun h => all_no hjl h
      refine lp_step ?_
      refine seq_assoc (seq_reg ?_)
      simp only [go_sem, binC, e3, e7, gc_of hb32, inBlk_some]
      refine seq_cond (t := true) (by simp only [go_sem, binC]; rw [decide_eq_true (by omega)]) ?_
      simp only [go_sem, binC]
      refine seq_skip (seq_block (seq_regD ?_))
      simp only [go_sem, binC, e3, e7, gc_of hb32, inBlk_some]
      refine ⟨⟨by omega, by omega⟩, ?_⟩
      simp only [go_sem, binC, Int.toNat_natCast, Nat.mul_one, hdg]
      refine op_callQ (by simp only [go_sem, binC]; exact gi H2 _ 0 2) ?_
      cases hin : inB (does.getD j 0) 0 2 with
      | false =>
        simp only [go_sem, binC]
        refine wpc_cond (t := true) rfl ?_
        simp only [go_sem, binC]
        refine seq_reg ?_
        simp only [go_sem, binC]
        refine wpc_ret ?_
        simp only [go_sem, binC, out_r, thenX_r]
        refine ⟨Or.inr rfl, .bool false, (by (simp only [go_sem, binC]) <;> rfl), ?_, rfl⟩
        rw [hno (by rw [hin]; rfl)]
      | true =>
      have qd := inB_iff.1 hin
      simp only [go_sem, binC, e3, e5, e7, gc_of hb32, inBlk_some]
      refine ⟨⟨by omega, by omega⟩, ?_⟩
      simp only [go_sem, binC, Int.toNat_natCast, Nat.mul_one, hdg]
      refine op_callQ (by simp only [go_sem, binC, e5, e7]; exact gst H2 W n ls l ts _ homes j (does.getD j 0) hL hP r42 hho (by omega) qd.1 qd.2) ?_
      cases hst : doN n ls l ts homes j (does.getD j 0) with
      | false =>
        simp only [go_sem, binC]
        refine wpc_cond (t := true) rfl ?_
        simp only [go_sem, binC]
        refine seq_reg ?_
        simp only [go_sem, binC]
        refine wpc_ret ?_
        simp only [go_sem, binC, out_r, thenX_r]
        refine ⟨Or.inr rfl, .bool false, (by (simp only [go_sem, binC]) <;> rfl), ?_, rfl⟩
        rw [hno (by rw [hin, hst]; rfl)]
      | true =>
        simp only [go_sem, binC]
        refine wpc_cond (t := false) rfl ?_
        simp only [go_sem, binC]
        refine wpc_skip ?_
        simp only [go_sem, binC, out_n, thenX_n]
        refine wpc_reg ?_
        simp only [go_sem, binC, e7, hw1]
        simp only [go_sem, binC, thenX_n]
        refine ihj (j + 1) _ (by omega) (fun q hq => ?_) (by simp only [go_sem, binC, e2]) (by simp only [go_sem, binC, e3]) (by simp only [go_sem, binC, e5]) (by simp only [go_sem, binC])
        by_cases hqj : q = j
        · subst hqj; rw [hin, hst]; rfl
        · exact hdo q (by omega)
  | succ k ih =>
    intro v e hv hall e2 e3 e5 e6
    have hvl : v < ls.length := by omega
    have hvh : v < homes.length := by have := hho.1; omega
    have hw1 : IntKind.i64.wrap ((v : Int) + 1) = ((v + 1 : Nat) : Int) := by rw [wrap_id (by omega) (by omega)]; omega
    obtain ⟨hb', ho', hhv, hhg⟩ := gcD r42 hvh
    simp only [Value.slice.injEq, and_true] at hhv
    subst hhv
    have hrg : 0 ≤ homes.getD v 0 ∧ homes.getD v 0 ≤ 2 := by
      have := hho.2 homes[v] (List.getElem_mem hvh)
      simpa [List.getD, hvh] using this
    refine lp_step ?_
    refine seq_assoc (seq_reg ?_)
    simp only [go_sem, binC, e2, e6, gc_of hb2, inBlk_some]
    refine seq_cond (t := true) (by simp only [go_sem, binC]; rw [decide_eq_true (by omega)]) ?_
    simp only [go_sem, binC]
    refine seq_skip (seq_block (seq_reg ?_))
    simp only [go_sem, binC, e3, e5, e6, gc_of hb32, inBlk_some]
    refine ⟨⟨by omega, by omega⟩, ?_⟩
    simp only [go_sem, binC, Int.toNat_natCast, Nat.mul_one, hhg]
    refine op_callQ (by simp only [go_sem, binC, e5, e6]; exact ghm H2 W n ls l ts v (homes.getD v 0) hL hlab (by omega) (by omega) hrg.1 hrg.2) ?_
    cases hp : hmB ls ts v (homes.getD v 0) with
    | false =>
      have hAH : allHome ls ts homes = false := all_no hvl hp
      simp only [go_sem, binC]
      refine wpc_cond (t := true) rfl ?_
      simp only [go_sem, binC]
      refine seq_reg ?_
      simp only [go_sem, binC]
      refine wpc_ret ?_
      simp only [go_sem, binC, out_r, thenX_r]
      refine ⟨Or.inr rfl, .bool false, (by (simp only [go_sem, binC]) <;> rfl), ?_, rfl⟩
      rw [hAH]
      rfl
    | true =>
      simp only [go_sem, binC]
      refine wpc_cond (t := false) rfl ?_
      simp only [go_sem, binC]
      refine wpc_skip ?_
      simp only [go_sem, binC, out_n, thenX_n]
      refine wpc_reg ?_
      simp only [go_sem, binC, e6, hw1]
      simp only [go_sem, binC, thenX_n]
      refine ih (v + 1) _ (by omega) (fun q hq => ?_) (by simp only [go_sem, binC, e2]) (by simp only [go_sem, binC, e3]) (by simp only [go_sem, binC, e5]) (by simp only [go_sem, binC])
      by_cases hqv : q = v
      · subst hqv; exact hp
      · exact hall q (by omega)
end Go.Proofs.YtbjeldblaclpnaaI
end
section
/- Whether a plan is as it may be (the program's). -/
set_option linter.unusedVariables false
set_option linter.unusedSimpArgs false
namespace Go.Proofs.YtbjeldblaclpnaaI
open Go Go.RowKit
def c_iPlanOk : IFn := ⟨2, 82, [.t 4],
 .seq (.reg none [
    ⟨(some 2), none, .box (.t 0)⟩,
    ⟨(some 3), none, .box (.t 1)⟩,
    ⟨(some 4), none, .mov (.c (.bool false))⟩])
 (.seq (.seq (.reg (some 24) [
     ⟨(some 10), none, .load true 2 (.t 2)⟩,
     ⟨(some 11), none, .call .q (.f 43) [(.t 10)]⟩,
     ⟨(some 12), none, .un .not (.t 11)⟩,
     ⟨(some 13), none, .mov (.t 12)⟩,
     ⟨(some 14), (some (13, false)), .fad 0 (.t 3)⟩,
     ⟨(some 15), (some (13, false)), .load false 1 (.t 14)⟩,
     ⟨(some 16), (some (13, false)), .call .q (.f 52) [(.t 15)]⟩,
     ⟨(some 17), (some (13, false)), .un .not (.t 16)⟩,
     ⟨(some 18), none, .pick (.t 13) (.c (.bool true)) (.t 17)⟩,
     ⟨(some 19), none, .mov (.t 18)⟩,
     ⟨(some 20), (some (19, false)), .fad 1 (.t 3)⟩,
     ⟨(some 21), (some (19, false)), .load false 1 (.t 20)⟩,
     ⟨(some 22), (some (19, false)), .fad 0 (.t 2)⟩,
     ⟨(some 23), (some (19, false)), .load false 1 (.t 22)⟩,
     ⟨(some 24), (some (19, false)), .len (.t 23)⟩,
     ⟨(some 25), (some (19, false)), .call .q (.f 63) [(.t 21), (.t 24)]⟩,
     ⟨(some 26), (some (19, false)), .un .not (.t 25)⟩,
     ⟨(some 27), none, .pick (.t 19) (.c (.bool true)) (.t 26)⟩,
     ⟨(some 28), none, .mov (.t 27)⟩,
     ⟨(some 29), (some (28, false)), .fad 2 (.t 3)⟩,
     ⟨(some 30), (some (28, false)), .load false 1 (.t 29)⟩,
     ⟨(some 31), (some (28, false)), .fad 1 (.t 2)⟩,
     ⟨(some 32), (some (28, false)), .load false 1 (.t 31)⟩,
     ⟨(some 33), (some (28, false)), .call .q (.f 62) [(.t 32)]⟩,
     ⟨(some 34), (some (28, false)), .call .q (.f 63) [(.t 30), (.t 33)]⟩,
     ⟨(some 35), (some (28, false)), .un .not (.t 34)⟩,
     ⟨(some 36), none, .pick (.t 28) (.c (.bool true)) (.t 35)⟩])
  (.cond (.t 36) (.seq (.reg none [
      ⟨(some 4), none, .mov (.c (.bool false))⟩])
   (.ret)) (.skip)))
 (.seq (.seq (.reg none [
     ⟨(some 37), none, .fad 1 (.t 3)⟩,
     ⟨(some 38), none, .load false 1 (.t 37)⟩,
     ⟨(some 39), none, .len (.t 38)⟩,
     ⟨(some 40), none, .mov (.c (.int .i64 0))⟩])
  (.block 0 (.loop (.seq (.reg none [
       ⟨(some 41), none, .bin .lss (.t 40) (.t 39)⟩])
    (.seq (.cond (.t 41) (.skip) (.exit 0))
    (.seq (.block 1 (.seq (.reg none [
         ⟨(some 42), none, .mov (.t 40)⟩,
         ⟨(some 43), none, .iad 1 (.t 38) (.t 40)⟩,
         ⟨(some 44), none, .load false 1 (.t 43)⟩,
         ⟨(some 5), none, .mov (.t 42)⟩,
         ⟨(some 6), none, .mov (.t 44)⟩])
      (.seq (.reg none [
         ⟨(some 45), none, .load true 2 (.t 2)⟩,
         ⟨(some 46), none, .fad 0 (.t 3)⟩,
         ⟨(some 47), none, .load false 1 (.t 46)⟩,
         ⟨(some 48), none, .mov (.t 5)⟩,
         ⟨(some 49), none, .mov (.t 6)⟩,
         ⟨(some 50), none, .call .q (.f 64) [(.t 45), (.t 47), (.t 48), (.t 49)]⟩,
         ⟨(some 51), none, .un .not (.t 50)⟩])
      (.cond (.t 51) (.seq (.reg none [
          ⟨(some 4), none, .mov (.c (.bool false))⟩])
       (.ret)) (.skip)))))
    (.reg none [
      ⟨(some 52), none, .bin .add (.t 40) (.c (.int .i64 1))⟩,
      ⟨(some 40), none, .mov (.t 52)⟩])))))))
 (.seq (.reg none [
    ⟨(some 53), none, .load true 2 (.t 2)⟩,
    ⟨(some 54), none, .call .k (.f 53) [(.t 53)]⟩,
    ⟨(some 7), none, .mov (.t 54)⟩])
 (.seq (.seq (.reg none [
     ⟨(some 55), none, .fad 1 (.t 2)⟩,
     ⟨(some 56), none, .load false 1 (.t 55)⟩,
     ⟨(some 57), none, .call .k (.f 55) [(.t 56)]⟩,
     ⟨(some 58), none, .len (.t 57)⟩,
     ⟨(some 59), none, .mov (.c (.int .i64 0))⟩])
  (.block 2 (.loop (.seq (.reg none [
       ⟨(some 60), none, .bin .lss (.t 59) (.t 58)⟩])
    (.seq (.cond (.t 60) (.skip) (.exit 2))
    (.seq (.block 3 (.seq (.reg none [
         ⟨(some 61), none, .mov (.t 59)⟩,
         ⟨(some 62), none, .iad 8 (.t 57) (.t 59)⟩,
         ⟨(some 63), none, .load true 8 (.t 62)⟩,
         ⟨(some 9), none, .new [(.int .i64 0), (.int .i64 0), (.int .i64 0), (.int .i64 0), (.int .i64 0), (.int .i64 0), (.slice none 0 0), (.slice none 0 0)]⟩,
         ⟨(some 8), none, .mov (.t 61)⟩,
         ⟨none, none, .store 8 (.t 9) (.t 63)⟩])
      (.seq (.reg (some 15) [
         ⟨(some 64), none, .load true 2 (.t 2)⟩,
         ⟨(some 65), none, .fad 0 (.t 3)⟩,
         ⟨(some 66), none, .load false 1 (.t 65)⟩,
         ⟨(some 67), none, .fad 1 (.t 3)⟩,
         ⟨(some 68), none, .load false 1 (.t 67)⟩,
         ⟨(some 69), none, .load true 8 (.t 9)⟩,
         ⟨(some 70), none, .mov (.t 7)⟩,
         ⟨(some 71), none, .mov (.t 8)⟩,
         ⟨(some 72), none, .iad 2 (.t 70) (.t 71)⟩,
         ⟨(some 73), none, .load true 2 (.t 72)⟩,
         ⟨(some 74), none, .fad 2 (.t 3)⟩,
         ⟨(some 75), none, .load false 1 (.t 74)⟩,
         ⟨(some 76), none, .mov (.t 8)⟩,
         ⟨(some 77), none, .iad 1 (.t 75) (.t 76)⟩,
         ⟨(some 78), none, .load false 1 (.t 77)⟩,
         ⟨(some 79), none, .call .q (.f 65) [(.t 64), (.t 66), (.t 68), (.t 69), (.t 73), (.t 78)]⟩,
         ⟨(some 80), none, .un .not (.t 79)⟩])
      (.cond (.t 80) (.seq (.reg none [
          ⟨(some 4), none, .mov (.c (.bool false))⟩])
       (.ret)) (.skip)))))
    (.reg none [
      ⟨(some 81), none, .bin .add (.t 59) (.c (.int .i64 1))⟩,
      ⟨(some 59), none, .mov (.t 81)⟩])))))))
 (.seq (.reg none [
    ⟨(some 4), none, .mov (.c (.bool true))⟩])
 (.ret))))))⟩
theorem hosts_all {l : List Int} : hostsB l = (List.range l.length).all fun j => inB (l.getD j 0) 0 2 := by
  rw [Bool.eq_iff_iff]
  unfold hostsB
  rw [List.all_eq_true, List.all_eq_true]
  constructor
  · intro h i hi
    have hil : i < l.length := by simpa using hi
    have := h l[i] (List.getElem_mem hil)
    simpa [List.getD, hil] using this
  · intro h x hx
    obtain ⟨i, hi, rfl⟩ := List.getElem_of_mem hx
    have := h i (by simpa using hi)
    simpa [List.getD, hi] using this
theorem allDo_hosts {n : Nat} {ls : List (Int × Int)} {l : List (TStep n)} {ts homes does : List Int} (h : hostsB does = false) : allDo n ls l ts homes does = false := by
  rw [Bool.eq_false_iff] at h ⊢
  intro h'
  refine h ?_
  rw [hosts_all]
  unfold allDo at h'
  rw [List.all_eq_true] at h' ⊢
  intro i hi
  have := h' i hi
  rw [Bool.and_eq_true] at this
  exact this.1
theorem iPlanOk_ok {F : Nat → Option IFn} {f : Nat} (hf : F f = some c_iPlanOk) (gty : TypeP F 43) (gt : TrOk F 52) (ghk : HostsI F 63) (gc : ∀ n, CntOk F 62 n) (ghm : HomeI F 64) (ga : AtP F 53) (gl : ∀ n, AllP F 55 n) (gd : DoesOk F 65) : PlanOkV F f := by
  intro H n lv sv tw hw dw ls l ts homes does r1 r2 hsm r3 r4 r5
  have osv : one sv = true := by obtain ⟨_, a, rfl, _⟩ := r2; rfl
  obtain ⟨_, la, rfl, _⟩ := id r1
  obtain ⟨_, ta, rfl, _⟩ := id r3
  obtain ⟨_, ha, rfl, _⟩ := id r4
  obtain ⟨hd0, da, rfl, _⟩ := id r5
  refine QC.mk hf rfl ?_
  refine seq_reg ?_
  simp only [go_sem, binC, osv]
  refine wpc_gen fun H1 hH1 => ?_
  have hx1 : AgX [] H H1 := hH1 ▸ AgX.app [] _ _
  have hb : H1[H.length]? = some ⟨[.slice la ls.length ls.length, sv], 0, 0, false, true⟩ := hH1 ▸ get_new0 _ _
  have hb3 : H1[H.length + 1]? = some ⟨[.slice ta ts.length ts.length, .slice ha homes.length homes.length, .slice da does.length does.length], 0, 0, false, true⟩ := hH1 ▸ get_new _ _ 1
  clear hH1
  have hS := agx_sub hx1
  have hl1 := (List.getElem?_eq_some_iff.1 hb3).1
  have hcntz : progB n (ls, l) = true → sizeV n (ls, l) = ((allL n l).length : Int) := sizeV_yes
  unfold planOkV
  show wpc F H.length _ _ _ (fin _ fun w _ => w = .bool (typeP n (ls, l) && (trK ts && (homesB ls.length homes && (decide ((does.length : Int) = sizeV n (ls, l)) && (allHome ls ts homes && allDo n ls l ts homes does))))) ∧ scal w = true)
  generalize sizeV n (ls, l) = z at *
  refine seq_assoc (seq_regD ?_)
  simp only [go_sem, binC, gc_of hb, inBlk_some, osv]
  refine op_callQ (by simp only [go_sem, binC]; exact gty H1 n _ _ ls l (r1.mono hS) (r2.mono hS) hsm) ?_
  cases hT : typeP n (ls, l) with
  | false =>
    simp only [go_sem, binC]
    refine seq_cond (t := true) rfl ?_
    simp only [go_sem, binC]
    refine seq_assoc (seq_reg ?_)
    simp only [go_sem, binC]
    exact seq_ret ⟨Or.inr rfl, .bool false, (by (simp only [go_sem, binC]) <;> rfl), rfl, rfl⟩
  | true =>
  have hP : progB n (ls, l) = true := by
    unfold typeP at hT
    simp only [Bool.and_eq_true] at hT
    exact hT.1
  simp only [go_sem, binC, gc_of hb3, inBlk_some]
  refine op_callQ (by simp only [go_sem, binC]; exact gt.k H1 _ ts (r3.mono hS)) ?_
  cases hk : trK ts with
  | false =>
    simp only [go_sem, binC]
    refine seq_cond (t := true) rfl ?_
    simp only [go_sem, binC]
    refine seq_assoc (seq_reg ?_)
    simp only [go_sem, binC]
    exact seq_ret ⟨Or.inr rfl, .bool false, (by (simp only [go_sem, binC]) <;> rfl), rfl, rfl⟩
  | true =>
  simp only [go_sem, binC, gc_of hb, gc_of hb3, inBlk_some]
  refine op_callQ (by simp only [go_sem, binC]; exact ghk H1 _ homes ls.length (r4.mono hS)) ?_
  have hhB : (decide ((homes.length : Int) = ls.length) && hostsB homes) = homesB ls.length homes := by
    unfold homesB
    congr 1
    exact decide_eq_decide.2 (by omega)
  rw [hhB]
  cases hh : homesB ls.length homes with
  | false =>
    simp only [go_sem, binC]
    refine seq_cond (t := true) rfl ?_
    simp only [go_sem, binC]
    refine seq_assoc (seq_reg ?_)
    simp only [go_sem, binC]
    exact seq_ret ⟨Or.inr rfl, .bool false, (by (simp only [go_sem, binC]) <;> rfl), rfl, rfl⟩
  | true =>
  simp only [go_sem, binC, gc_of hb, gc_of hb3, inBlk_some]
  have hsz := hcntz hP
  have hlab : ls.all labB = true := progB_lab hP
  have hls4 : ls.length ≤ 4 := progB_len hP
  have hcnt : (allL n l).length ≤ 8 := progB_cnt hP hsm
  have hsl := allSL_len l
  have hho := homesB_iff.1 hh
  have hcw : Wr (cntL n l) = z := by
    rw [cntL_len]
    unfold Wr
    rw [wrap_id (by omega) (by omega), hsz]
  refine op_callQ (by simp only [go_sem, binC]; exact gc n H1 sv l (r2.mono hS)) ?_
  rw [hcw]
  simp only [go_sem, binC]
  refine op_callQ (by simp only [go_sem, binC]; exact ghk H1 _ does z (r5.mono hS)) ?_
  cases hhd : (decide ((does.length : Int) = z) && hostsB does) with
  | false =>
    have hfin : (decide ((does.length : Int) = z) && (allHome ls ts homes && allDo n ls l ts homes does)) = false := by
      rcases Bool.and_eq_false_iff.1 hhd with h | h
      · rw [h]; rfl
      · rw [allDo_hosts h, Bool.and_false, Bool.and_false]
    rw [hfin]
    simp only [go_sem, binC]
    refine seq_cond (t := true) rfl ?_
    simp only [go_sem, binC]
    refine seq_assoc (seq_reg ?_)
    simp only [go_sem, binC]
    exact seq_ret ⟨Or.inr rfl, .bool false, (by (simp only [go_sem, binC]) <;> rfl), rfl, rfl⟩
  | true =>
  rw [Bool.and_eq_true, decide_eq_true_eq] at hhd
  obtain ⟨hz, hdB⟩ := hhd
  rw [decide_eq_true hz]
  simp only [go_sem, binC]
  refine seq_cond (t := false) rfl ?_
  simp only [go_sem, binC]
  refine seq_skip (seq_assoc (seq_reg ?_))
  simp only [go_sem, binC, gc_of hb3, inBlk_some]
  refine seq_block (wpc_loop ?_)
  have r41 := r4.mono hS
  suffices hh : ∀ (k v : Nat) (e : Env), v + k = homes.length → (∀ q, q < v → hmB ls ts q (homes.getD q 0) = true) → e 2 = ptr H.length 0 → e 3 = ptr (H.length + 1) 0 → e 38 = .slice ha homes.length homes.length → e 39 = .int .i64 homes.length → e 40 = .int .i64 v → Go.Proofs.YtbjeldblaclpnaaI.W F H.length _ e H1 _ from
    hh homes.length 0 _ (by omega) (fun q h => by omega) (by simp only [go_sem, binC]) (by simp only [go_sem, binC]) (by simp only [go_sem, binC]) (by simp only [go_sem, binC]) (by (simp only [go_sem, binC]) <;> rfl)
  intro k
  induction k with
  | zero =>
    intro v e hv hall e2 e3 e38 e39 e40
    have hAH : allHome ls ts homes = true := all_yes fun q hq => hall q (by have := hho.1; omega)
    rw [hAH]
    refine lp_step ?_
    refine seq_reg ?_
    simp only [go_sem, binC, e39, e40]
    refine seq_cond (t := false) (by simp only [go_sem, binC]; rw [decide_eq_false (by omega)]) ?_
    simp only [go_sem, binC]
    refine seq_exit ?_
    simp only [go_sem, binC, thenX_e, out_e, thenX_n]
    refine seq_reg ?_
    simp only [go_sem, binC, e2, gc_of hb, inBlk_some, osv]
    obtain ⟨wa, H2, k2, hx2, oa⟩ := ga H1 n _ sv ls l (r1.mono hS) (r2.mono hS) hsm hP
    refine op_callK (by simp only [go_sem, binC]; exact k2) ?_
    obtain ⟨aa, haa⟩ := oa.shape
    have hatl := atL_len ls (7, 7) l
    rw [hatl] at haa
    subst haa
    simp only [go_sem, binC]
    have hb2 := hx2.get hb (by simp)
    have hb32 := hx2.get hb3 (by simp)
    have hx02 := hx1.tr hx2
    refine seq_assoc (seq_reg ?_)
    simp only [go_sem, binC, e2, gc_of hb2, inBlk_some]
    obtain ⟨wl, H4, k4, hx4, ol⟩ := gl n (vw 0 H) H2 sv l (agx_sub hx02) r2 (by omega)
    refine op_callK (by simp only [go_sem, binC]; exact k4) ?_
    obtain ⟨al, hal⟩ := ol.shape
    rw [hsl] at hal
    subst hal
    simp only [go_sem, binC]
    have oa4 := oa.keep (Nat.le_refl _) hx4 (fun _ _ => by simp)
    have hallat : (atL n ls (7, 7) l).all labB = true := atL_lab hlab rfl l
    have hx14 := hx2.tr hx4
    have hl4 := hx14.1
    refine seq_block (wpc_loop ?_)
    suffices hh : ∀ (m j : Nat) (e : Env) (Hd : Heap), j + m = (allL n l).length → AgX [] H4 Hd → (∀ q, q < j → (inB (does.getD q 0) 0 2 && doN n ls l ts homes q (does.getD q 0)) = true) → e 2 = ptr H.length 0 → e 3 = ptr (H.length + 1) 0 → e 7 = .slice aa (allL n l).length (allL n l).length → e 57 = .slice al (allL n l).length (allL n l).length → e 58 = .int .i64 (allL n l).length → e 59 = .int .i64 j → Go.Proofs.YtbjeldblaclpnaaI.W F H.length _ e Hd _ from
      hh (allL n l).length 0 _ H4 (by omega) (AgX.refl _ _) (fun q h => by omega) (by simp only [go_sem, binC, e2]) (by simp only [go_sem, binC, e3]) (by simp only [go_sem, binC]) (by simp only [go_sem, binC]) (by simp only [go_sem, binC]) (by (simp only [go_sem, binC]) <;> rfl)
    clear e2 e3 e38 e39 e40
    intro m
    induction m with
    | zero =>
      intro j e Hd hj hxd hdo e2 e3 e7 e57 e58 e59
      have hAD : allDo n ls l ts homes does = true := all_yes fun q hq => hdo q (by omega)
      refine lp_step ?_
      refine seq_reg ?_
      simp only [go_sem, binC, e58, e59]
      refine seq_cond (t := false) (by simp only [go_sem, binC]; rw [decide_eq_false (by omega)]) ?_
      simp only [go_sem, binC]
      refine seq_exit ?_
      simp only [go_sem, binC, thenX_e, out_e, thenX_n]
      refine seq_reg ?_
      simp only [go_sem, binC]
      rw [hAD]
      exact wpc_ret ⟨Or.inr rfl, .bool true, (by (simp only [go_sem, binC]) <;> rfl), rfl, rfl⟩
    | succ m ih2 =>
      intro j e Hd hj hxd hdo e2 e3 e7 e57 e58 e59
      have hjl : j < (allL n l).length := by omega
      have hja : j < (atL n ls (7, 7) l).length := by omega
      have hjs : j < (allSL n l).length := by omega
      have hjd : j < does.length := by omega
      have hw2 : IntKind.i64.wrap ((j : Int) + 1) = ((j + 1 : Nat) : Int) := by rw [wrap_id (by omega) (by omega)]; omega
      have hx1d := hx14.tr hxd
      have hx0d := hx1.tr hx1d
      have hb2d := hx1d.get hb (by simp)
      have hb3d := hx1d.get hb3 (by simp)
      have hno : (inB (does.getD j 0) 0 2 && doN n ls l ts homes j (does.getD j 0)) = false → allDo n ls l ts homes does = false := fun h => all_no hjd h
      have hin : inB (does.getD j 0) 0 2 = true := by
        rw [hosts_all] at hdB
        exact List.all_eq_true.1 hdB j (by simpa using hjd)
      have qd := inB_iff.1 hin
      have hdoe := doN_eq (ts := ts) (homes := homes) (h := does.getD j 0) hjs hja
      obtain ⟨db, do_, hdv, hdg⟩ := gcD (r5.mono (agx_sub hx0d)) hjd
      simp only [Value.slice.injEq, and_true] at hdv
      subst hdv
      obtain ⟨ba, ca, hwa, gca, rda⟩ := (oa4.keep (Nat.le_refl _) hxd (fun _ _ => by simp)).at hja
      rw [hatl] at hwa
      simp only [Value.slice.injEq, and_true] at hwa
      subst hwa
      obtain ⟨bs, cs, hws, gcs, rds⟩ := (ol.keep (Nat.le_refl _) hxd (fun _ _ => by simp)).at hjs
      rw [hsl] at hws
      simp only [Value.slice.injEq, and_true] at hws
      subst hws
      have hokj := progB_okA hP (List.getElem_mem hjs)
      have hoj : labB (atL n ls (7, 7) l)[j] = true := List.all_eq_true.1 hallat _ (List.getElem_mem hja)
      generalize (atL n ls (7, 7) l)[j] = hr at rda hoj hdoe
      generalize (allSL n l)[j] = sj at rds hokj hdoe
      obtain ⟨ra, rb⟩ := hr
      obtain ⟨_, _, rfl, ⟨hq1, _⟩, ⟨hq2, _⟩⟩ := rda
      simp only at hq1 hq2
      subst hq1 hq2
      have rdsc := rds
      obtain ⟨sk, sx, sa, sbb, sc, sg, tv, ev, tl, el, hs2, hcs, rg, otv, oev, _, _⟩ := anyS_rd rds
      subst hcs
      have hldd := hx0d.1
      refine lp_step ?_
      refine seq_reg ?_
      simp only [go_sem, binC, e58, e59]
      refine seq_cond (t := true) (by simp only [go_sem, binC]; rw [decide_eq_true (by omega)]) ?_
      simp only [go_sem, binC]
      refine seq_skip (seq_block (seq_reg ?_))
      simp only [go_sem, binC, e57, e59]
      refine ⟨⟨by omega, by omega⟩, ?_⟩
      simp only [go_sem, binC, Int.toNat_natCast, Nat.zero_add, gcs, otv, oev]
      refine ⟨by omega, ?_⟩
      refine wpc_gen fun H5 hH5 => ?_
      have hx5 : AgX [] Hd H5 := hH5 ▸ AgX.app [] _ _
      have hs5 : H5[Hd.length]? = some ⟨[.int .i64 sk, .int .i64 sx, .int .i64 sa, .int .i64 sbb, .int .i64 sc, .int .i64 sg, tv, ev], 0, 0, false, true⟩ := hH5 ▸ get_new0 _ _
      clear hH5
      have hb25 := hx5.get hb2d (by simp)
      have hb35 := hx5.get hb3d (by simp)
      have gca5 := gcK gca hx5
      have hdg5 := gcK hdg hx5
      have hx05 := hx0d.tr hx5
      refine seq_regD ?_
      simp only [go_sem, binC, e2, e3, e7, gc_of hb25, gc_of hb35, gc_of hs5, inBlk_some, osv, otv, oev]
      refine ⟨⟨by omega, by omega⟩, ?_⟩
      simp only [go_sem, binC, Int.toNat_natCast, Nat.zero_add, gca5, e3, gc_of hb35, inBlk_some]
      refine ⟨⟨by omega, by omega⟩, ?_⟩
      simp only [go_sem, binC, Int.toNat_natCast, Nat.mul_one, hdg5]
      refine op_callQ (by simp only [go_sem, binC]; exact gd H5 _ sv _ _ _ ls ts homes sj (ra, rb) (does.getD j 0) osv (r1.mono (agx_sub hx05)) hlab (r3.mono (agx_sub hx05)) (trK_iff.1 hk) (r4.mono (agx_sub hx05)) hho (Co.anyS.mono (agx_sub hx05) rdsc) hokj hoj qd.1 qd.2) ?_
      rw [← hdoe]
      cases hst : doN n ls l ts homes j (does.getD j 0) with
      | false =>
        simp only [go_sem, binC]
        refine wpc_cond (t := true) rfl ?_
        simp only [go_sem, binC]
        refine seq_reg ?_
        simp only [go_sem, binC]
        refine wpc_ret ?_
        simp only [go_sem, binC, out_r, thenX_r]
        refine ⟨Or.inr rfl, .bool false, (by (simp only [go_sem, binC]) <;> rfl), ?_, rfl⟩
        rw [hno (by rw [hin, hst]; rfl)]
      | true =>
        simp only [go_sem, binC]
        refine wpc_cond (t := false) rfl ?_
        simp only [go_sem, binC]
        refine wpc_skip ?_
        simp only [go_sem, binC, out_n, thenX_n]
        refine wpc_reg ?_
        simp only [go_sem, binC, e59, hw2]
        simp only [go_sem, binC, thenX_n]
        refine ih2 (j + 1) _ H5 (by omega) (hxd.tr hx5) (fun q hq => ?_) (by simp only [go_sem, binC, e2]) (by simp only [go_sem, binC, e3]) (by simp only [go_sem, binC, e7]) (by simp only [go_sem, binC, e57]) (by simp only [go_sem, binC, e58]) (by simp only [go_sem, binC])
        by_cases hqj : q = j
        · subst hqj; rw [hin, hst]; rfl
        · exact hdo q (by omega)
  | succ k ih =>
    intro v e hv hall e2 e3 e38 e39 e40
    have hvh : v < homes.length := by omega
    have hvl : v < ls.length := by have := hho.1; omega
    have hw1 : IntKind.i64.wrap ((v : Int) + 1) = ((v + 1 : Nat) : Int) := by rw [wrap_id (by omega) (by omega)]; omega
    obtain ⟨hb', ho', hhv, hhg⟩ := gcD r41 hvh
    simp only [Value.slice.injEq, and_true] at hhv
    subst hhv
    have hrg : 0 ≤ homes.getD v 0 ∧ homes.getD v 0 ≤ 2 := by
      have := hho.2 homes[v] (List.getElem_mem hvh)
      simpa [List.getD, hvh] using this
    refine lp_step ?_
    refine seq_reg ?_
    simp only [go_sem, binC, e39, e40]
    refine seq_cond (t := true) (by simp only [go_sem, binC]; rw [decide_eq_true (by omega)]) ?_
    simp only [go_sem, binC]
    refine seq_skip (seq_block (seq_reg ?_))
    simp only [go_sem, binC, e38, e40]
    refine ⟨⟨by omega, by omega⟩, ?_⟩
    simp only [go_sem, binC, Int.toNat_natCast, Nat.mul_one, hhg]
    refine seq_reg ?_
    simp only [go_sem, binC, e2, e3, gc_of hb, gc_of hb3, inBlk_some, osv]
    refine op_callQ (by simp only [go_sem, binC]; exact ghm H1 _ _ _ ls ts v (homes.getD v 0) osv (r1.mono hS) hlab (r3.mono hS) (trK_iff.1 hk) (by omega) (by omega) hrg.1 hrg.2) ?_
    cases hp : hmB ls ts v (homes.getD v 0) with
    | false =>
      have hAH : allHome ls ts homes = false := all_no hvl hp
      simp only [go_sem, binC]
      refine wpc_cond (t := true) rfl ?_
      simp only [go_sem, binC]
      refine seq_reg ?_
      simp only [go_sem, binC]
      refine wpc_ret ?_
      simp only [go_sem, binC, out_r, thenX_r]
      refine ⟨Or.inr rfl, .bool false, (by (simp only [go_sem, binC]) <;> rfl), ?_, rfl⟩
      rw [hAH]
      rfl
    | true =>
      simp only [go_sem, binC]
      refine wpc_cond (t := false) rfl ?_
      simp only [go_sem, binC]
      refine wpc_skip ?_
      simp only [go_sem, binC, out_n, thenX_n]
      refine wpc_reg ?_
      simp only [go_sem, binC, e40, hw1]
      simp only [go_sem, binC, thenX_n]
      refine ih (v + 1) _ (by omega) (fun q hq => ?_) (by simp only [go_sem, binC, e2]) (by simp only [go_sem, binC, e3]) (by simp only [go_sem, binC, e38]) (by simp only [go_sem, binC, e39]) (by simp only [go_sem, binC])
      by_cases hqv : q = v
      · subst hqv; exact hp
      · exact hall q (by omega)
end Go.Proofs.YtbjeldblaclpnaaI
end
section
/- Sizes, copies and tests of plans. -/
set_option linter.unusedVariables false
set_option linter.unusedSimpArgs false
namespace Go.Proofs.YtbjeldblaclpnaaI
open Go Go.RowKit
def Co.plan : Co (List Int × List Int × List Int) := Co.pair (Co.sl Co.int) (Co.pair (Co.sl Co.int) (Co.sl Co.int))
def c_toPlan : IFn := ⟨1, 17, [.cell true 3 2],
 .seq (.reg none [
    ⟨(some 1), none, .box (.t 0)⟩,
    ⟨(some 2), none, .new [(.slice none 0 0), (.slice none 0 0), (.slice none 0 0)]⟩])
 (.seq (.reg none [
    ⟨(some 3), none, .new [(.slice none 0 0), (.slice none 0 0), (.slice none 0 0)]⟩])
 (.seq (.reg none [
    ⟨(some 4), none, .fad 0 (.t 1)⟩,
    ⟨(some 5), none, .load false 1 (.t 4)⟩,
    ⟨(some 6), none, .call .k (.f 24) [(.t 5)]⟩,
    ⟨(some 7), none, .fad 0 (.t 3)⟩,
    ⟨none, none, .store 1 (.t 7) (.t 6)⟩])
 (.seq (.reg none [
    ⟨(some 8), none, .fad 1 (.t 1)⟩,
    ⟨(some 9), none, .load false 1 (.t 8)⟩,
    ⟨(some 10), none, .call .k (.f 24) [(.t 9)]⟩,
    ⟨(some 11), none, .fad 1 (.t 3)⟩,
    ⟨none, none, .store 1 (.t 11) (.t 10)⟩])
 (.seq (.reg none [
    ⟨(some 12), none, .fad 2 (.t 1)⟩,
    ⟨(some 13), none, .load false 1 (.t 12)⟩,
    ⟨(some 14), none, .call .k (.f 24) [(.t 13)]⟩,
    ⟨(some 15), none, .fad 2 (.t 3)⟩,
    ⟨none, none, .store 1 (.t 15) (.t 14)⟩])
 (.seq (.reg none [
    ⟨(some 16), none, .load true 3 (.t 3)⟩,
    ⟨none, none, .store 3 (.t 2) (.t 16)⟩])
 (.ret))))))⟩
def c_eqPlan : IFn := ⟨2, 23, [.t 4],
 .seq (.reg none [
    ⟨(some 2), none, .box (.t 0)⟩,
    ⟨(some 3), none, .box (.t 1)⟩,
    ⟨(some 4), none, .mov (.c (.bool false))⟩])
 (.seq (.seq (.reg none [
     ⟨(some 5), none, .fad 0 (.t 2)⟩,
     ⟨(some 6), none, .load false 1 (.t 5)⟩,
     ⟨(some 7), none, .fad 0 (.t 3)⟩,
     ⟨(some 8), none, .load false 1 (.t 7)⟩,
     ⟨(some 9), none, .call .q (.f 27) [(.t 6), (.t 8)]⟩,
     ⟨(some 10), none, .un .not (.t 9)⟩])
  (.cond (.t 10) (.seq (.reg none [
      ⟨(some 4), none, .mov (.c (.bool false))⟩])
   (.ret)) (.skip)))
 (.seq (.seq (.reg none [
     ⟨(some 11), none, .fad 1 (.t 2)⟩,
     ⟨(some 12), none, .load false 1 (.t 11)⟩,
     ⟨(some 13), none, .fad 1 (.t 3)⟩,
     ⟨(some 14), none, .load false 1 (.t 13)⟩,
     ⟨(some 15), none, .call .q (.f 27) [(.t 12), (.t 14)]⟩,
     ⟨(some 16), none, .un .not (.t 15)⟩])
  (.cond (.t 16) (.seq (.reg none [
      ⟨(some 4), none, .mov (.c (.bool false))⟩])
   (.ret)) (.skip)))
 (.seq (.seq (.reg none [
     ⟨(some 17), none, .fad 2 (.t 2)⟩,
     ⟨(some 18), none, .load false 1 (.t 17)⟩,
     ⟨(some 19), none, .fad 2 (.t 3)⟩,
     ⟨(some 20), none, .load false 1 (.t 19)⟩,
     ⟨(some 21), none, .call .q (.f 27) [(.t 18), (.t 20)]⟩,
     ⟨(some 22), none, .un .not (.t 21)⟩])
  (.cond (.t 22) (.seq (.reg none [
      ⟨(some 4), none, .mov (.c (.bool false))⟩])
   (.ret)) (.skip)))
 (.seq (.reg none [
    ⟨(some 4), none, .mov (.c (.bool true))⟩])
 (.ret)))))⟩
def c_szPlan : IFn := ⟨2, 24, [.t 4],
 .seq (.reg none [
    ⟨(some 2), none, .box (.t 0)⟩,
    ⟨(some 4), none, .mov (.c (.int .i64 0))⟩])
 (.seq (.reg none [
    ⟨(some 5), none, .fad 0 (.t 2)⟩,
    ⟨(some 6), none, .load false 1 (.t 5)⟩,
    ⟨(some 7), none, .mov (.t 1)⟩,
    ⟨(some 8), none, .call .q (.f 84) [(.t 6), (.t 7)]⟩,
    ⟨(some 1), none, .mov (.t 8)⟩])
 (.seq (.seq (.reg none [
     ⟨(some 9), none, .mov (.t 1)⟩,
     ⟨(some 10), none, .bin .lss (.t 9) (.c (.int .i64 0))⟩])
  (.cond (.t 10) (.seq (.reg none [
      ⟨(some 4), none, .mov (.c (.int .i64 (-1)))⟩])
   (.ret)) (.skip)))
 (.seq (.reg none [
    ⟨(some 11), none, .fad 1 (.t 2)⟩,
    ⟨(some 12), none, .load false 1 (.t 11)⟩,
    ⟨(some 13), none, .mov (.t 1)⟩,
    ⟨(some 14), none, .call .q (.f 84) [(.t 12), (.t 13)]⟩,
    ⟨(some 1), none, .mov (.t 14)⟩])
 (.seq (.seq (.reg none [
     ⟨(some 15), none, .mov (.t 1)⟩,
     ⟨(some 16), none, .bin .lss (.t 15) (.c (.int .i64 0))⟩])
  (.cond (.t 16) (.seq (.reg none [
      ⟨(some 4), none, .mov (.c (.int .i64 (-1)))⟩])
   (.ret)) (.skip)))
 (.seq (.reg none [
    ⟨(some 17), none, .fad 2 (.t 2)⟩,
    ⟨(some 18), none, .load false 1 (.t 17)⟩,
    ⟨(some 19), none, .mov (.t 1)⟩,
    ⟨(some 20), none, .call .q (.f 84) [(.t 18), (.t 19)]⟩,
    ⟨(some 1), none, .mov (.t 20)⟩])
 (.seq (.seq (.reg none [
     ⟨(some 21), none, .mov (.t 1)⟩,
     ⟨(some 22), none, .bin .lss (.t 21) (.c (.int .i64 0))⟩])
  (.cond (.t 22) (.seq (.reg none [
      ⟨(some 4), none, .mov (.c (.int .i64 (-1)))⟩])
   (.ret)) (.skip)))
 (.seq (.reg none [
    ⟨(some 23), none, .mov (.t 1)⟩,
    ⟨(some 4), none, .mov (.t 23)⟩])
 (.ret))))))))⟩
theorem toPlan_ok {F : Nat → Option IFn} {f : Nat} (hf : F f = some c_toPlan) (g0 : ToOk F (Co.sl Co.int) false .k 24) (g1 : ToOk F (Co.sl Co.int) false .k 24) (g2 : ToOk F (Co.sl Co.int) false .k 24) : ToOk F Co.plan true .k f := by
  refine ToOk.ofK ?_
  rintro H v ⟨a0, a1, a2⟩ ⟨cs, hc, _, _, rfl, ⟨v0, rfl, r0⟩, _, _, rfl, ⟨v1, rfl, r1⟩, ⟨v2, rfl, r2⟩⟩ ⟨s0, s1, s2⟩
  simp only [go_sem, binC, Option.some.injEq] at hc
  subst hc
  obtain ⟨_, x0⟩ := r0.shape
  subst x0
  obtain ⟨_, x1⟩ := r1.shape
  subst x1
  obtain ⟨_, x2⟩ := r2.shape
  subst x2
  refine KC.mk hf rfl ?_
  refine seq_reg ?_
  simp only [go_sem, binC]
  refine seq_reg ?_
  simp only [go_sem, binC]
  refine seq_reg ?_
  simp only [go_sem, binC]
  refine g0 _ _ a0 ⟨_, rfl, ⟨_, rfl, r0.mono (vw_app 0 H _)⟩⟩ s0 _ _ _ _ (by simp only [go_sem, binC]) ?_
  rintro w0 L0 ⟨_, hc, vq0, rfl, rq0⟩
  simp only [go_sem, binC, Option.some.injEq] at hc
  subst hc
  obtain ⟨_, xq0⟩ := rq0.shape
  subst xq0
  simp only [go_sem, binC]
  refine seq_reg ?_
  simp only [go_sem, binC]
  refine g1 _ _ a1 ⟨_, rfl, ⟨_, rfl, r1.mono (vw_app 0 H _)⟩⟩ s1 _ _ _ _ (by simp only [go_sem, binC]) ?_
  rintro w1 L1 ⟨_, hc, vq1, rfl, rq1⟩
  simp only [go_sem, binC, Option.some.injEq] at hc
  subst hc
  obtain ⟨_, xq1⟩ := rq1.shape
  subst xq1
  simp only [go_sem, binC]
  refine seq_reg ?_
  simp only [go_sem, binC]
  refine g2 _ _ a2 ⟨_, rfl, ⟨_, rfl, r2.mono (vw_app 0 H _)⟩⟩ s2 _ _ _ _ (by simp only [go_sem, binC]) ?_
  rintro w2 L2 ⟨_, hc, vq2, rfl, rq2⟩
  simp only [go_sem, binC, Option.some.injEq] at hc
  subst hc
  obtain ⟨_, xq2⟩ := rq2.shape
  subst xq2
  simp only [go_sem, binC]
  refine seq_reg ?_
  simp only [go_sem, binC]
  refine wpc_ret ⟨Or.inr rfl, _, by simp only [go_sem, binC], _, rfl, _, rfl, _, _, rfl, ⟨_, rfl, rq0.mono (vw_in (H.length + 3) L0 (L1 ++ L2) (by simp only [go_sem, binC]; try omega) (by omega) (by simp only [go_sem, binC]) (by simp only [go_sem, binC]))⟩, _, _, rfl, ⟨_, rfl, rq1.mono (vw_in (H.length + 3) (L0 ++ L1) L2 (by simp only [go_sem, binC]; try omega) (by omega) (by simp only [go_sem, binC]) (by simp only [go_sem, binC]))⟩, ⟨_, rfl, rq2.mono (vw_in (H.length + 3) (L0 ++ (L1 ++ L2)) [] (by simp only [go_sem, binC]; try omega) (by omega) (by simp only [go_sem, binC]) (by simp only [go_sem, binC]))⟩⟩
theorem eqPlan_ok {F : Nat → Option IFn} {f : Nat} (hf : F f = some c_eqPlan) (g0 : EqOk F (Co.sl Co.int) false 27) (g1 : EqOk F (Co.sl Co.int) false 27) (g2 : EqOk F (Co.sl Co.int) false 27) : EqOk F Co.plan true f := by
  rintro H v u ⟨a0, a1, a2⟩ ⟨cs, hc, _, _, rfl, ⟨v0, rfl, r0⟩, _, _, rfl, ⟨v1, rfl, r1⟩, ⟨v2, rfl, r2⟩⟩ ⟨cs2, hc2, _, _, rfl, ⟨vq0, rfl, rq0⟩, _, _, rfl, ⟨vq1, rfl, rq1⟩, ⟨vq2, rfl, rq2⟩⟩
  simp only [go_sem, binC, Option.some.injEq] at hc hc2
  subst hc hc2
  obtain ⟨_, x0⟩ := r0.shape
  subst x0
  obtain ⟨_, x1⟩ := r1.shape
  subst x1
  obtain ⟨_, x2⟩ := r2.shape
  subst x2
  obtain ⟨_, xq0⟩ := rq0.shape
  subst xq0
  obtain ⟨_, xq1⟩ := rq1.shape
  subst xq1
  obtain ⟨_, xq2⟩ := rq2.shape
  subst xq2
  refine QC.mk hf rfl ?_
  refine seq_reg ?_
  simp only [go_sem, binC]
  refine seq_assoc (seq_reg ?_)
  simp only [go_sem, binC, bne_self_eq_false, beq_self_eq_true]
  refine op_callQ (g0 _ _ _ a0 ⟨_, by simp only [go_sem, binC], ⟨_, rfl, r0.mono (vw_app 0 H _)⟩⟩ ⟨_, by simp only [go_sem, binC], ⟨_, rfl, rq0.mono (vw_app 0 H _)⟩⟩) ?_
  simp only [go_sem, binC]
  refine seq_cond (t := false) (by simp only [go_sem, binC]) ?_
  simp only [go_sem, binC]
  refine seq_skip ?_
  refine seq_assoc (seq_reg ?_)
  simp only [go_sem, binC, bne_self_eq_false, beq_self_eq_true]
  refine op_callQ (g1 _ _ _ a1 ⟨_, by simp only [go_sem, binC], ⟨_, rfl, r1.mono (vw_app 0 H _)⟩⟩ ⟨_, by simp only [go_sem, binC], ⟨_, rfl, rq1.mono (vw_app 0 H _)⟩⟩) ?_
  simp only [go_sem, binC]
  refine seq_cond (t := false) (by simp only [go_sem, binC]) ?_
  simp only [go_sem, binC]
  refine seq_skip ?_
  refine seq_assoc (seq_reg ?_)
  simp only [go_sem, binC, bne_self_eq_false, beq_self_eq_true]
  refine op_callQ (g2 _ _ _ a2 ⟨_, by simp only [go_sem, binC], ⟨_, rfl, r2.mono (vw_app 0 H _)⟩⟩ ⟨_, by simp only [go_sem, binC], ⟨_, rfl, rq2.mono (vw_app 0 H _)⟩⟩) ?_
  simp only [go_sem, binC]
  refine seq_cond (t := false) (by simp only [go_sem, binC]) ?_
  simp only [go_sem, binC]
  refine seq_skip ?_
  refine seq_reg ?_
  simp only [go_sem, binC]
  refine wpc_ret ⟨Or.inr rfl, _, ?_, rfl, rfl⟩
  simp only [go_sem, binC]
theorem szPlan_ok {F : Nat → Option IFn} {f : Nat} (hf : F f = some c_szPlan) (g0 : SzOk F (Co.sl Co.int) false 84) (g1 : SzOk F (Co.sl Co.int) false 84) (g2 : SzOk F (Co.sl Co.int) false 84) : SzOk F Co.plan true f := by
  rintro H v ⟨a0, a1, a2⟩ left ⟨cs, hc, _, _, rfl, ⟨v0, rfl, r0⟩, _, _, rfl, ⟨v1, rfl, r1⟩, ⟨v2, rfl, r2⟩⟩ hl0 hl1
  simp only [go_sem, binC, Option.some.injEq] at hc
  subst hc
  obtain ⟨_, x0⟩ := r0.shape
  subst x0
  obtain ⟨_, x1⟩ := r1.shape
  subst x1
  obtain ⟨_, x2⟩ := r2.shape
  subst x2
  suffices h : ∃ w, QC F f _ H w ∧ ∃ r : Int, w = .int .i64 r ∧ r ≤ left ∧ (0 ≤ r → Co.plan.sm (a0, a1, a2)) from let ⟨w, h1, r, h2, h3⟩ := h; ⟨r, h2 ▸ h1, h3⟩
  refine QC.mkE hf rfl ?_
  refine seq_reg ?_
  simp only [go_sem, binC]
  refine seq_reg ?_
  simp only [go_sem, binC]
  obtain ⟨z0, k0, y0, m0⟩ := g0 (H ++ _) _ a0 left ⟨_, rfl, ⟨_, rfl, r0.mono (vw_app 0 H _)⟩⟩ (by omega) (by omega)
  refine op_callQ (by simp only [go_sem, binC]; exact k0) ?_
  simp only [go_sem, binC]
  refine seq_assoc (seq_reg ?_)
  simp only [go_sem, binC]
  by_cases n0 : z0 < 0
  · refine seq_cond (t := true) (by simp only [go_sem, binC]; rw [decide_eq_true n0]) ?_
    simp only [go_sem, binC]
    refine seq_assoc (seq_reg ?_)
    simp only [go_sem, binC]
    refine seq_ret ⟨Or.inr rfl, .int .i64 (-1), by simp only [go_sem, binC], ⟨-1, rfl, by omega, by omega⟩, rfl⟩
  refine seq_cond (t := false) (by simp only [go_sem, binC]; rw [decide_eq_false n0]) ?_
  simp only [go_sem, binC]
  refine seq_skip ?_
  refine seq_reg ?_
  simp only [go_sem, binC]
  obtain ⟨z1, k1, y1, m1⟩ := g1 (H ++ _) _ a1 z0 ⟨_, rfl, ⟨_, rfl, r1.mono (vw_app 0 H _)⟩⟩ (by omega) (by omega)
  refine op_callQ (by simp only [go_sem, binC]; exact k1) ?_
  simp only [go_sem, binC]
  refine seq_assoc (seq_reg ?_)
  simp only [go_sem, binC]
  by_cases n1 : z1 < 0
  · refine seq_cond (t := true) (by simp only [go_sem, binC]; rw [decide_eq_true n1]) ?_
    simp only [go_sem, binC]
    refine seq_assoc (seq_reg ?_)
    simp only [go_sem, binC]
    refine seq_ret ⟨Or.inr rfl, .int .i64 (-1), by simp only [go_sem, binC], ⟨-1, rfl, by omega, by omega⟩, rfl⟩
  refine seq_cond (t := false) (by simp only [go_sem, binC]; rw [decide_eq_false n1]) ?_
  simp only [go_sem, binC]
  refine seq_skip ?_
  refine seq_reg ?_
  simp only [go_sem, binC]
  obtain ⟨z2, k2, y2, m2⟩ := g2 (H ++ _) _ a2 z1 ⟨_, rfl, ⟨_, rfl, r2.mono (vw_app 0 H _)⟩⟩ (by omega) (by omega)
  refine op_callQ (by simp only [go_sem, binC]; exact k2) ?_
  simp only [go_sem, binC]
  refine seq_assoc (seq_reg ?_)
  simp only [go_sem, binC]
  by_cases n2 : z2 < 0
  · refine seq_cond (t := true) (by simp only [go_sem, binC]; rw [decide_eq_true n2]) ?_
    simp only [go_sem, binC]
    refine seq_assoc (seq_reg ?_)
    simp only [go_sem, binC]
    refine seq_ret ⟨Or.inr rfl, .int .i64 (-1), by simp only [go_sem, binC], ⟨-1, rfl, by omega, by omega⟩, rfl⟩
  refine seq_cond (t := false) (by simp only [go_sem, binC]; rw [decide_eq_false n2]) ?_
  simp only [go_sem, binC]
  refine seq_skip ?_
  refine seq_reg ?_
  simp only [go_sem, binC]
  refine wpc_ret ⟨Or.inr rfl, .int .i64 z2, by simp only [go_sem, binC], ⟨_, rfl, by omega, fun _ => ⟨m0 (by omega), m1 (by omega), m2 (by omega)⟩⟩, rfl⟩
end Go.Proofs.YtbjeldblaclpnaaI
end
section
/- The law FnExactPlanOk on the ideal machine. -/
set_option linter.unusedVariables false
set_option linter.unusedSimpArgs false
namespace Go.Proofs.YtbjeldblaclpnaaI
open Go Go.RowKit
theorem setL_full {cs vs : List Value} (h : vs.length = cs.length) : setL cs 0 vs = vs := by
  rw [setL_eq _ _ _ (by omega), List.take_zero, List.nil_append, List.drop_of_length_le (by omega), List.append_nil]
def OkR (F : Nat → Option IFn) (f : Nat) : Prop := ∀ (H : Heap) (n : Nat) (u w : Value) (p : TProg n) (b : List Int × List Int × List Int), Rd (Co.prog n) true (vw 0 H) u p → (Co.prog n).sm p → Rd Co.plan true (vw 0 H) w b → QC F f [u, w] H (.bool (planOkV n p b.1 b.2.1 b.2.2))
theorem PlanOkV.rd {F : Nat → Option IFn} {f : Nat} (h : PlanOkV F f) : OkR F f := by
  rintro H n u w ⟨p0, p1⟩ ⟨b0, b1, b2⟩ hu hs hw
  obtain ⟨pc, hpc, _, _, rfl, ⟨v0, rfl, r0⟩, ⟨v1, rfl, r1⟩⟩ := hu
  obtain ⟨qc, hqc, _, _, rfl, ⟨u0, rfl, q0⟩, _, _, rfl, ⟨u1, rfl, q1⟩, ⟨u2, rfl, q2⟩⟩ := hw
  simp only [go_sem, binC, Option.some.injEq] at hpc hqc
  subst hpc hqc
  exact h H n v0 v1 u0 u1 u2 p0 p1 b0 b1 b2 r0 r1 hs q0 q1 q2
def c_lawEPO : IFn := ⟨2, 45, [.t 4],
 .seq (.reg none [
    ⟨(some 2), none, .box (.t 0)⟩,
    ⟨(some 3), none, .box (.t 1)⟩,
    ⟨(some 4), none, .mov (.c (.bool false))⟩])
 (.seq (.reg none [
    ⟨(some 5), none, .mov (.c (.int .i64 1048576))⟩])
 (.seq (.reg none [
    ⟨(some 10), none, .load true 2 (.t 2)⟩,
    ⟨(some 11), none, .mov (.t 5)⟩,
    ⟨(some 12), none, .call .q (.f 22) [(.t 10), (.t 11)]⟩,
    ⟨(some 5), none, .mov (.t 12)⟩])
 (.seq (.seq (.reg none [
     ⟨(some 13), none, .mov (.t 5)⟩,
     ⟨(some 14), none, .bin .lss (.t 13) (.c (.int .i64 0))⟩])
  (.cond (.t 14) (.seq (.reg none [
      ⟨(some 4), none, .mov (.c (.bool true))⟩])
   (.ret)) (.skip)))
 (.seq (.reg none [
    ⟨(some 15), none, .load true 3 (.t 3)⟩,
    ⟨(some 16), none, .mov (.t 5)⟩,
    ⟨(some 17), none, .call .q (.f 40) [(.t 15), (.t 16)]⟩,
    ⟨(some 5), none, .mov (.t 17)⟩])
 (.seq (.seq (.reg none [
     ⟨(some 18), none, .mov (.t 5)⟩,
     ⟨(some 19), none, .bin .lss (.t 18) (.c (.int .i64 0))⟩])
  (.cond (.t 19) (.seq (.reg none [
      ⟨(some 4), none, .mov (.c (.bool true))⟩])
   (.ret)) (.skip)))
 (.seq (.reg (some 3) [
    ⟨(some 20), none, .load true 2 (.t 2)⟩,
    ⟨(some 21), none, .call .k (.f 23) [(.t 20)]⟩,
    ⟨(some 22), none, .load true 3 (.t 3)⟩,
    ⟨(some 23), none, .call .k (.f 41) [(.t 22)]⟩,
    ⟨(some 24), none, .call .q (.f 33) [(.t 21), (.t 23)]⟩,
    ⟨(some 6), none, .mov (.t 24)⟩])
 (.seq (.reg none [
    ⟨(some 25), none, .load true 2 (.t 2)⟩,
    ⟨(some 26), none, .call .k (.f 23) [(.t 25)]⟩,
    ⟨(some 7), none, .new [(.slice none 0 0), (.slice none 0 0)]⟩,
    ⟨none, none, .store 2 (.t 7) (.t 26)⟩])
 (.seq (.reg none [
    ⟨(some 27), none, .load true 3 (.t 3)⟩,
    ⟨(some 28), none, .call .k (.f 41) [(.t 27)]⟩,
    ⟨(some 8), none, .new [(.slice none 0 0), (.slice none 0 0), (.slice none 0 0)]⟩,
    ⟨none, none, .store 3 (.t 8) (.t 28)⟩])
 (.seq (.reg none [
    ⟨(some 29), none, .load true 2 (.t 7)⟩,
    ⟨(some 30), none, .load true 3 (.t 8)⟩,
    ⟨(some 31), none, .call .q (.f 21) [(.t 29), (.t 30)]⟩,
    ⟨(some 9), none, .mov (.t 31)⟩])
 (.seq (.seq (.reg none [
     ⟨(some 32), none, .mov (.t 9)⟩,
     ⟨(some 33), none, .mov (.t 6)⟩,
     ⟨(some 34), none, .beq true (.t 32) (.t 33)⟩])
  (.cond (.t 34) (.seq (.reg none [
      ⟨(some 4), none, .mov (.c (.bool false))⟩])
   (.ret)) (.skip)))
 (.seq (.seq (.reg (some 3) [
     ⟨(some 35), none, .load true 2 (.t 7)⟩,
     ⟨(some 36), none, .load true 2 (.t 2)⟩,
     ⟨(some 37), none, .call .k (.f 23) [(.t 36)]⟩,
     ⟨(some 38), none, .call .q (.f 26) [(.t 35), (.t 37)]⟩,
     ⟨(some 39), none, .un .not (.t 38)⟩])
  (.cond (.t 39) (.seq (.reg none [
      ⟨(some 4), none, .mov (.c (.bool false))⟩])
   (.ret)) (.skip)))
 (.seq (.seq (.reg (some 3) [
     ⟨(some 40), none, .load true 3 (.t 8)⟩,
     ⟨(some 41), none, .load true 3 (.t 3)⟩,
     ⟨(some 42), none, .call .k (.f 41) [(.t 41)]⟩,
     ⟨(some 43), none, .call .q (.f 25) [(.t 40), (.t 42)]⟩,
     ⟨(some 44), none, .un .not (.t 43)⟩])
  (.cond (.t 44) (.seq (.reg none [
      ⟨(some 4), none, .mov (.c (.bool false))⟩])
   (.ret)) (.skip)))
 (.seq (.reg none [
    ⟨(some 4), none, .mov (.c (.bool true))⟩])
 (.ret))))))))))))))⟩
theorem lawEPO_ok {F : Nat → Option IFn} {f : Nat} (hf : F f = some c_lawEPO) (gs : ∀ n, SzOk F (Co.prog n) true 22) (gsp : SzOk F Co.plan true 40) (gt : ∀ n, ToOk F (Co.prog n) true .k 23) (gtp : ToOk F Co.plan true .k 41) (ge : ∀ n, EqOk F (Co.prog n) true 26) (gep : EqOk F Co.plan true 25)
    (gp : OkR F 33) (gi : OkR F 21) :
    ∀ (H : Heap) (n : Nat) (v u : Value) (a : TProg n) (b : List Int × List Int × List Int), Rd (Co.prog n) true (vw 0 H) v a → Rd Co.plan true (vw 0 H) u b → QC F f [v, u] H (.bool true) := by
  intro H n v u a b hr hu
  have hr' := hr
  have hu' := hu
  obtain ⟨cs, hc, hcs⟩ := hr
  obtain ⟨ps, hp, hps⟩ := hu
  have hl := (Co.prog n).len hcs
  have hlp := Co.plan.len hps
  have ho : cs.all one = true := by rw [List.all_eq_true]; exact (Co.prog n).ones hcs
  have hop : ps.all one = true := by rw [List.all_eq_true]; exact Co.plan.ones hps
  simp only [go_sem, binC, Option.some.injEq] at hc hp
  subst hc hp
  have l2 : cs.length = 2 := hl
  have t2 : List.take 2 cs = cs := List.take_of_length_le (by omega)
  have l3 : ps.length = 3 := hlp
  have t3 : List.take 3 ps = ps := List.take_of_length_le (by omega)
  refine QC.mk hf rfl ?_
  refine seq_reg ?_
  simp only [go_sem, binC, ho, hop]
  refine seq_reg ?_
  simp only [go_sem, binC]
  refine seq_reg ?_
  simp only [go_sem, binC, inBlk, l2, t2]
  obtain ⟨r, q1, q2, q3⟩ := gs n (H ++ [⟨cs, 0, 0, false, true⟩, ⟨ps, 0, 0, false, true⟩]) _ a 1048576 (hr'.mono (vw_app 0 H _)) (by omega) (by omega)
  refine op_callQ (by simp only [go_sem, binC]; exact q1) ?_
  simp only [go_sem, binC]
  refine seq_assoc (seq_reg ?_)
  simp only [go_sem, binC]
  by_cases hn : r < 0
  · refine seq_cond (t := true) (by simp only [go_sem, binC]; rw [decide_eq_true hn]) ?_
    simp only [go_sem, binC]
    refine seq_assoc (seq_reg ?_)
    simp only [go_sem, binC]
    exact seq_ret ⟨Or.inr rfl, .bool true, by simp only [go_sem, binC], rfl, rfl⟩
  refine seq_cond (t := false) (by simp only [go_sem, binC]; rw [decide_eq_false hn]) ?_
  simp only [go_sem, binC]
  have hs := q3 (by omega)
  refine seq_skip (seq_reg ?_)
  simp only [go_sem, binC, inBlk, l3, t3]
  obtain ⟨r2, q4, q5, q6⟩ := gsp (H ++ [⟨cs, 0, 0, false, true⟩, ⟨ps, 0, 0, false, true⟩]) _ b r (hu'.mono (vw_app 0 H _)) (by omega) (by omega)
  refine op_callQ (by simp only [go_sem, binC]; exact q4) ?_
  simp only [go_sem, binC]
  refine seq_assoc (seq_reg ?_)
  simp only [go_sem, binC]
  by_cases hn2 : r2 < 0
  · refine seq_cond (t := true) (by simp only [go_sem, binC]; rw [decide_eq_true hn2]) ?_
    simp only [go_sem, binC]
    refine seq_assoc (seq_reg ?_)
    simp only [go_sem, binC]
    exact seq_ret ⟨Or.inr rfl, .bool true, by simp only [go_sem, binC], rfl, rfl⟩
  refine seq_cond (t := false) (by simp only [go_sem, binC]; rw [decide_eq_false hn2]) ?_
  simp only [go_sem, binC]
  have hsp := q6 (by omega)
  refine seq_skip (seq_regD ?_)
  simp only [go_sem, binC, inBlk, l2, t2]
  refine gt n _ _ a (hr'.mono (vw_app 0 H _)) hs _ _ _ _ (by simp only [go_sem, binC]) ?_
  intro w0 L0 hw0
  have hw0' := fun L => hw0.mono (Sub.trans (vw_grow (Nat.zero_le _) fun _ _ _ => rfl) (vw_app 0 _ L))
  simp only [go_sem, binC] at hw0'
  simp only [go_sem, binC, inBlk, l3, t3]
  refine gtp _ _ b (hu'.mono (vw_app 0 H _)) hsp _ _ _ _ (by simp only [go_sem, binC]) ?_
  intro w1 L1 hw1
  have hw1' := hw1.mono (vw_grow (Nat.zero_le _) fun _ _ _ => rfl)
  simp only [go_sem, binC] at hw1'
  simp only [go_sem, binC]
  have hgi := fun (H : Heap) (u w : Value) (h1 : Rd (Co.prog n) true (vw 0 H) u a) (h2 : Rd Co.plan true (vw 0 H) w b) => gi H n u w a b h1 hs h2
  refine op_callQ (by simp only [go_sem, binC]; exact gp _ n _ _ a b (hw0' _) hs hw1') ?_
  generalize planOkV n a b.1 b.2.1 b.2.2 = lk at *
  simp only [go_sem, binC]
  refine seq_reg ?_
  simp only [go_sem, binC, inBlk, l2, t2]
  refine gt n _ _ a (hr'.mono (vw_app 0 H _)) hs _ _ _ _ (by simp only [go_sem, binC]) ?_
  rintro w2 L2 hw2
  have hw2' := fun L => hw2.mono (Sub.trans (vw_grow (Nat.zero_le _) fun _ _ _ => rfl) (vw_app 0 _ L))
  simp only [go_sem, binC] at hw2'
  obtain ⟨c2, hc2, hcs2⟩ := hw2
  have ho2 : c2.all one = true := by rw [List.all_eq_true]; exact (Co.prog n).ones hcs2
  have f5 : c2.length = 2 := (Co.prog n).len hcs2
  have f6 : List.take 2 c2 = c2 := List.take_of_length_le (by omega)
  simp only [go_sem, binC, Option.some.injEq] at hc2
  subst hc2
  simp only [go_sem, binC, ho2, f5, setL_full]
  refine seq_reg ?_
  simp only [go_sem, binC, inBlk, l3, t3]
  refine gtp _ _ b (hu'.mono (vw_app 0 H _)) hsp _ _ _ _ (by simp only [go_sem, binC]) ?_
  rintro w3 L3 hw3
  have hw3' := fun L => hw3.mono (Sub.trans (vw_grow (Nat.zero_le _) fun _ _ _ => rfl) (vw_app 0 _ L))
  simp only [go_sem, binC] at hw3'
  obtain ⟨c3, hc3, hcs3⟩ := hw3
  have ho3 : c3.all one = true := by rw [List.all_eq_true]; exact Co.plan.ones hcs3
  have f7 : c3.length = 3 := Co.plan.len hcs3
  have f8 : List.take 3 c3 = c3 := List.take_of_length_le (by omega)
  simp only [go_sem, binC, Option.some.injEq] at hc3
  subst hc3
  simp only [go_sem, binC, ho3, f7, setL_full]
  refine seq_reg ?_
  simp only [go_sem, binC, inBlk, f5, f6, f7, f8]
  refine op_callQ (by simp only [go_sem, binC]; exact hgi _ _ _ (hw2' _) (hw3' _)) ?_
  simp only [go_sem, binC]
  refine seq_assoc (seq_reg ?_)
  simp only [go_sem, binC, beq_self_eq_true, bne_self_eq_false]
  refine seq_cond (t := false) (by simp only [go_sem, binC]) ?_
  simp only [go_sem, binC]
  refine seq_skip (seq_assoc (seq_regD ?_))
  simp only [go_sem, binC, inBlk, f5, f6, l2, t2]
  refine gt n _ _ a (hr'.mono (vw_app 0 H _)) hs _ _ _ _ (by simp only [go_sem, binC]) ?_
  intro w4 L4 hw4
  simp only [go_sem, binC] at hw4
  simp only [go_sem, binC]
  refine op_callQ (by simp only [go_sem, binC]; exact ge n _ _ _ a (hw2' _) (hw4.mono (vw_grow (Nat.zero_le _) fun _ _ _ => rfl))) ?_
  simp only [go_sem, binC]
  refine seq_cond (t := false) (by simp only [go_sem, binC]) ?_
  simp only [go_sem, binC]
  refine seq_skip (seq_assoc (seq_regD ?_))
  simp only [go_sem, binC, inBlk, f7, f8, l3, t3]
  refine gtp _ _ b (hu'.mono (vw_app 0 H _)) hsp _ _ _ _ (by simp only [go_sem, binC]) ?_
  intro w5 L5 hw5
  simp only [go_sem, binC] at hw5
  simp only [go_sem, binC]
  refine op_callQ (by simp only [go_sem, binC]; exact gep _ _ _ b (hw3' _) (hw5.mono (vw_grow (Nat.zero_le _) fun _ _ _ => rfl))) ?_
  simp only [go_sem, binC]
  refine seq_cond (t := false) (by simp only [go_sem, binC]) ?_
  simp only [go_sem, binC]
  refine seq_skip (seq_reg ?_)
  simp only [go_sem, binC]
  refine wpc_ret ⟨Or.inr rfl, _, ?_, rfl, rfl⟩
  simp only [go_sem, binC]
end Go.Proofs.YtbjeldblaclpnaaI
end
section
/- The functions that the law FnExactPlanOk reaches, as ideal functions. -/
set_option linter.unusedVariables false
set_option linter.unusedSimpArgs false
namespace Go.Proofs.YtbjeldblaclpnaaI
open Go Go.RowKit
def fnOf : Nat → Option IFn
  | 12 => some (c_lawEPO)
  | 18 => some (c_sTypeOk)
  | 21 => some (c_iPlanOk)
  | 22 => some (c_szProg)
  | 23 => some (c_toProg)
  | 24 => some (toFlat 3)
  | 25 => some (c_eqPlan)
  | 26 => some (c_eqProg)
  | 27 => some (eqFlat)
  | 33 => some (c_sPlanOk)
  | 40 => some (c_szPlan)
  | 41 => some (c_toPlan)
  | 43 => some (c_iTypeOk)
  | 49 => some (c_sTrusts)
  | 50 => some (c_sSee)
  | 52 => some (c_iTrusts)
  | 53 => some (c_iAt)
  | 55 => some (c_iAll)
  | 59 => some (c_sWhy)
  | 60 => some (c_sProg)
  | 61 => some (c_iProg)
  | 62 => some (c_iSize)
  | 63 => some (c_iHostsOk)
  | 64 => some (c_iHome1)
  | 65 => some (c_iDoes)
  | 66 => some (szFlat)
  | 67 => some (szNest 117 8 true)
  | 68 => some (toCall .q 118 2 38 16 [(.int .i64 0), (.int .i64 0)] true)
  | 69 => some (toCall .k 119 8 85 96 [(.int .i64 0), (.int .i64 0), (.int .i64 0), (.int .i64 0), (.int .i64 0), (.int .i64 0), (.slice none 0 0), (.slice none 0 0)] true)
  | 70 => some (eqCall 120 2 true)
  | 71 => some (eqCall 121 8 true)
  | 76 => some (c_sHomes21)
  | 77 => some (c_sProgSize)
  | 78 => some (c_lHome)
  | 79 => some (c_sIn)
  | 80 => some (c_lStep)
  | 81 => some (c_iIn)
  | 82 => some (c_iHost)
  | 83 => some (c_iSets)
  | 84 => some (szFlat)
  | 85 => some (c_iVar)
  | 86 => some (c_iWhy0)
  | 90 => some (c_sEither)
  | 91 => some (c_sSet)
  | 92 => some (c_sHas)
  | 93 => some (c_sAllSteps)
  | 94 => some (c_sTypeAt)
  | 95 => some (c_sTypeSets)
  | 96 => some (c_sBy)
  | 98 => some (c_iSet)
  | 99 => some (c_iHas)
  | 100 => some (c_iLabels)
  | 101 => some (c_iEvery)
  | 104 => some (c_sFine)
  | 105 => some (c_sLabelOk)
  | 106 => some (c_sSteps)
  | 107 => some (c_sCount)
  | 108 => some (c_con)
  | 109 => some (c_p1)
  | 110 => some (c_iLabelOk)
  | 111 => some (c_iSteps)
  | 112 => some (c_cfInt)
  | 113 => some (c_hk1)
  | 114 => some (c_iWithin)
  | 115 => some (c_iBy)
  | 116 => some (c_iMakes)
  | 117 => some (c_szStep)
  | 118 => some (c_toLabel)
  | 119 => some (c_toStep)
  | 120 => some (c_eqLabel)
  | 121 => some (c_eqStep)
  | 122 => some (c_sWithin)
  | 123 => some (c_sVars21)
  | 124 => some (c_iSource)
  | 125 => some (c_iFlows)
  | 130 => some (c_sBoth)
  | 131 => some (c_sAll)
  | 132 => some (c_sAt)
  | 133 => some (c_sAny)
  | 134 => some (c_sSets)
  | 135 => some (c_iBoth)
  | 136 => some (c_sFlows)
  | 137 => some (c_sLBoth)
  | 138 => some (c_sValL)
  | 139 => some (c_sStep)
  | 140 => some (c_idx)
  | 141 => some (c_iVal)
  | 142 => some (c_ifInt)
  | 143 => some (c_vars)
  | 144 => some (c_toVal)
  | 145 => some (c_eqVal)
  | 147 => some (c_sVar)
  | 148 => some (c_sVal)
  | 149 => some (c_iNum)
  | _ => none
def cmOf (f : Nat) : CM := ⟨fun g => if [12, 18, 21, 22, 25, 26, 27, 33, 40, 43, 49, 52, 59, 60, 61, 62, 63, 64, 65, 66, 67, 70, 71, 76, 77, 78, 79, 80, 81, 82, 83, 84, 85, 86, 90, 91, 92, 96, 98, 99, 101, 104, 105, 106, 107, 108, 109, 110, 111, 112, 113, 114, 115, 117, 118, 120, 121, 122, 124, 125, 130, 131, 133, 134, 135, 136, 137, 138, 139, 140, 141, 142, 144, 145, 147, 148, 149].contains g then .q else if [50, 100, 132].contains g then .n else .k, if [50, 100, 132].contains f then .n else .q, false⟩
theorem hF12 : cFn Try.prog cmOf 12 = some (c_lawEPO) := by kernel_rfl
theorem hF18 : cFn Try.prog cmOf 18 = some (c_sTypeOk) := by kernel_rfl
theorem hF21 : cFn Try.prog cmOf 21 = some (c_iPlanOk) := by kernel_rfl
theorem hF22 : cFn Try.prog cmOf 22 = some (c_szProg) := by kernel_rfl
theorem hF23 : cFn Try.prog cmOf 23 = some (c_toProg) := by kernel_rfl
theorem hF24 : cFn Try.prog cmOf 24 = some (toFlat 3) := by kernel_rfl
theorem hF25 : cFn Try.prog cmOf 25 = some (c_eqPlan) := by kernel_rfl
theorem hF26 : cFn Try.prog cmOf 26 = some (c_eqProg) := by kernel_rfl
theorem hF27 : cFn Try.prog cmOf 27 = some (eqFlat) := by kernel_rfl
theorem hF33 : cFn Try.prog cmOf 33 = some (c_sPlanOk) := by kernel_rfl
theorem hF40 : cFn Try.prog cmOf 40 = some (c_szPlan) := by kernel_rfl
theorem hF41 : cFn Try.prog cmOf 41 = some (c_toPlan) := by kernel_rfl
theorem hF43 : cFn Try.prog cmOf 43 = some (c_iTypeOk) := by kernel_rfl
theorem hF49 : cFn Try.prog cmOf 49 = some (c_sTrusts) := by kernel_rfl
theorem hF50 : cFn Try.prog cmOf 50 = some (c_sSee) := by kernel_rfl
theorem hF52 : cFn Try.prog cmOf 52 = some (c_iTrusts) := by kernel_rfl
theorem hF53 : cFn Try.prog cmOf 53 = some (c_iAt) := by kernel_rfl
theorem hF55 : cFn Try.prog cmOf 55 = some (c_iAll) := by kernel_rfl
theorem hF59 : cFn Try.prog cmOf 59 = some (c_sWhy) := by kernel_rfl
theorem hF60 : cFn Try.prog cmOf 60 = some (c_sProg) := by kernel_rfl
theorem hF61 : cFn Try.prog cmOf 61 = some (c_iProg) := by kernel_rfl
theorem hF62 : cFn Try.prog cmOf 62 = some (c_iSize) := by kernel_rfl
theorem hF63 : cFn Try.prog cmOf 63 = some (c_iHostsOk) := by kernel_rfl
theorem hF64 : cFn Try.prog cmOf 64 = some (c_iHome1) := by kernel_rfl
theorem hF65 : cFn Try.prog cmOf 65 = some (c_iDoes) := by kernel_rfl
theorem hF66 : cFn Try.prog cmOf 66 = some (szFlat) := by kernel_rfl
theorem hF67 : cFn Try.prog cmOf 67 = some (szNest 117 8 true) := by kernel_rfl
theorem hF68 : cFn Try.prog cmOf 68 = some (toCall .q 118 2 38 16 [(.int .i64 0), (.int .i64 0)] true) := by kernel_rfl
theorem hF69 : cFn Try.prog cmOf 69 = some (toCall .k 119 8 85 96 [(.int .i64 0), (.int .i64 0), (.int .i64 0), (.int .i64 0), (.int .i64 0), (.int .i64 0), (.slice none 0 0), (.slice none 0 0)] true) := by kernel_rfl
theorem hF70 : cFn Try.prog cmOf 70 = some (eqCall 120 2 true) := by kernel_rfl
theorem hF71 : cFn Try.prog cmOf 71 = some (eqCall 121 8 true) := by kernel_rfl
theorem hF76 : cFn Try.prog cmOf 76 = some (c_sHomes21) := by kernel_rfl
theorem hF77 : cFn Try.prog cmOf 77 = some (c_sProgSize) := by kernel_rfl
theorem hF78 : cFn Try.prog cmOf 78 = some (c_lHome) := by kernel_rfl
theorem hF79 : cFn Try.prog cmOf 79 = some (c_sIn) := by kernel_rfl
theorem hF80 : cFn Try.prog cmOf 80 = some (c_lStep) := by kernel_rfl
theorem hF81 : cFn Try.prog cmOf 81 = some (c_iIn) := by kernel_rfl
theorem hF82 : cFn Try.prog cmOf 82 = some (c_iHost) := by kernel_rfl
theorem hF83 : cFn Try.prog cmOf 83 = some (c_iSets) := by kernel_rfl
theorem hF84 : cFn Try.prog cmOf 84 = some (szFlat) := by kernel_rfl
theorem hF85 : cFn Try.prog cmOf 85 = some (c_iVar) := by kernel_rfl
theorem hF86 : cFn Try.prog cmOf 86 = some (c_iWhy0) := by kernel_rfl
theorem hF90 : cFn Try.prog cmOf 90 = some (c_sEither) := by kernel_rfl
theorem hF91 : cFn Try.prog cmOf 91 = some (c_sSet) := by kernel_rfl
theorem hF92 : cFn Try.prog cmOf 92 = some (c_sHas) := by kernel_rfl
theorem hF93 : cFn Try.prog cmOf 93 = some (c_sAllSteps) := by kernel_rfl
theorem hF94 : cFn Try.prog cmOf 94 = some (c_sTypeAt) := by kernel_rfl
theorem hF95 : cFn Try.prog cmOf 95 = some (c_sTypeSets) := by kernel_rfl
theorem hF96 : cFn Try.prog cmOf 96 = some (c_sBy) := by kernel_rfl
theorem hF98 : cFn Try.prog cmOf 98 = some (c_iSet) := by kernel_rfl
theorem hF99 : cFn Try.prog cmOf 99 = some (c_iHas) := by kernel_rfl
theorem hF100 : cFn Try.prog cmOf 100 = some (c_iLabels) := by kernel_rfl
theorem hF101 : cFn Try.prog cmOf 101 = some (c_iEvery) := by kernel_rfl
theorem hF104 : cFn Try.prog cmOf 104 = some (c_sFine) := by kernel_rfl
theorem hF105 : cFn Try.prog cmOf 105 = some (c_sLabelOk) := by kernel_rfl
theorem hF106 : cFn Try.prog cmOf 106 = some (c_sSteps) := by kernel_rfl
theorem hF107 : cFn Try.prog cmOf 107 = some (c_sCount) := by kernel_rfl
theorem hF108 : cFn Try.prog cmOf 108 = some (c_con) := by kernel_rfl
theorem hF109 : cFn Try.prog cmOf 109 = some (c_p1) := by kernel_rfl
theorem hF110 : cFn Try.prog cmOf 110 = some (c_iLabelOk) := by kernel_rfl
theorem hF111 : cFn Try.prog cmOf 111 = some (c_iSteps) := by kernel_rfl
theorem hF112 : cFn Try.prog cmOf 112 = some (c_cfInt) := by kernel_rfl
theorem hF113 : cFn Try.prog cmOf 113 = some (c_hk1) := by kernel_rfl
theorem hF114 : cFn Try.prog cmOf 114 = some (c_iWithin) := by kernel_rfl
theorem hF115 : cFn Try.prog cmOf 115 = some (c_iBy) := by kernel_rfl
theorem hF116 : cFn Try.prog cmOf 116 = some (c_iMakes) := by kernel_rfl
theorem hF117 : cFn Try.prog cmOf 117 = some (c_szStep) := by kernel_rfl
theorem hF118 : cFn Try.prog cmOf 118 = some (c_toLabel) := by kernel_rfl
theorem hF119 : cFn Try.prog cmOf 119 = some (c_toStep) := by kernel_rfl
theorem hF120 : cFn Try.prog cmOf 120 = some (c_eqLabel) := by kernel_rfl
theorem hF121 : cFn Try.prog cmOf 121 = some (c_eqStep) := by kernel_rfl
theorem hF122 : cFn Try.prog cmOf 122 = some (c_sWithin) := by kernel_rfl
theorem hF123 : cFn Try.prog cmOf 123 = some (c_sVars21) := by kernel_rfl
theorem hF124 : cFn Try.prog cmOf 124 = some (c_iSource) := by kernel_rfl
theorem hF125 : cFn Try.prog cmOf 125 = some (c_iFlows) := by kernel_rfl
theorem hF130 : cFn Try.prog cmOf 130 = some (c_sBoth) := by kernel_rfl
theorem hF131 : cFn Try.prog cmOf 131 = some (c_sAll) := by kernel_rfl
theorem hF132 : cFn Try.prog cmOf 132 = some (c_sAt) := by kernel_rfl
theorem hF133 : cFn Try.prog cmOf 133 = some (c_sAny) := by kernel_rfl
theorem hF134 : cFn Try.prog cmOf 134 = some (c_sSets) := by kernel_rfl
theorem hF135 : cFn Try.prog cmOf 135 = some (c_iBoth) := by kernel_rfl
theorem hF136 : cFn Try.prog cmOf 136 = some (c_sFlows) := by kernel_rfl
theorem hF137 : cFn Try.prog cmOf 137 = some (c_sLBoth) := by kernel_rfl
theorem hF138 : cFn Try.prog cmOf 138 = some (c_sValL) := by kernel_rfl
theorem hF139 : cFn Try.prog cmOf 139 = some (c_sStep) := by kernel_rfl
theorem hF140 : cFn Try.prog cmOf 140 = some (c_idx) := by kernel_rfl
theorem hF141 : cFn Try.prog cmOf 141 = some (c_iVal) := by kernel_rfl
theorem hF142 : cFn Try.prog cmOf 142 = some (c_ifInt) := by kernel_rfl
theorem hF143 : cFn Try.prog cmOf 143 = some (c_vars) := by kernel_rfl
theorem hF144 : cFn Try.prog cmOf 144 = some (c_toVal) := by kernel_rfl
theorem hF145 : cFn Try.prog cmOf 145 = some (c_eqVal) := by kernel_rfl
theorem hF147 : cFn Try.prog cmOf 147 = some (c_sVar) := by kernel_rfl
theorem hF148 : cFn Try.prog cmOf 148 = some (c_sVal) := by kernel_rfl
theorem hF149 : cFn Try.prog cmOf 149 = some (c_iNum) := by kernel_rfl
theorem hF (g : Nat) (fn : IFn) (h : fnOf g = some fn) : cFn Try.prog cmOf g = some fn := by
  unfold fnOf at h
  split at h
  · rw [← h]; exact hF12
  · rw [← h]; exact hF18
  · rw [← h]; exact hF21
  · rw [← h]; exact hF22
  · rw [← h]; exact hF23
  · rw [← h]; exact hF24
  · rw [← h]; exact hF25
  · rw [← h]; exact hF26
  · rw [← h]; exact hF27
  · rw [← h]; exact hF33
  · rw [← h]; exact hF40
  · rw [← h]; exact hF41
  · rw [← h]; exact hF43
  · rw [← h]; exact hF49
  · rw [← h]; exact hF50
  · rw [← h]; exact hF52
  · rw [← h]; exact hF53
  · rw [← h]; exact hF55
  · rw [← h]; exact hF59
  · rw [← h]; exact hF60
  · rw [← h]; exact hF61
  · rw [← h]; exact hF62
  · rw [← h]; exact hF63
  · rw [← h]; exact hF64
  · rw [← h]; exact hF65
  · rw [← h]; exact hF66
  · rw [← h]; exact hF67
  · rw [← h]; exact hF68
  · rw [← h]; exact hF69
  · rw [← h]; exact hF70
  · rw [← h]; exact hF71
  · rw [← h]; exact hF76
  · rw [← h]; exact hF77
  · rw [← h]; exact hF78
  · rw [← h]; exact hF79
  · rw [← h]; exact hF80
  · rw [← h]; exact hF81
  · rw [← h]; exact hF82
  · rw [← h]; exact hF83
  · rw [← h]; exact hF84
  · rw [← h]; exact hF85
  · rw [← h]; exact hF86
  · rw [← h]; exact hF90
  · rw [← h]; exact hF91
  · rw [← h]; exact hF92
  · rw [← h]; exact hF93
  · rw [← h]; exact hF94
  · rw [← h]; exact hF95
  · rw [← h]; exact hF96
  · rw [← h]; exact hF98
  · rw [← h]; exact hF99
  · rw [← h]; exact hF100
  · rw [← h]; exact hF101
  · rw [← h]; exact hF104
  · rw [← h]; exact hF105
  · rw [← h]; exact hF106
  · rw [← h]; exact hF107
  · rw [← h]; exact hF108
  · rw [← h]; exact hF109
  · rw [← h]; exact hF110
  · rw [← h]; exact hF111
  · rw [← h]; exact hF112
  · rw [← h]; exact hF113
  · rw [← h]; exact hF114
  · rw [← h]; exact hF115
  · rw [← h]; exact hF116
  · rw [← h]; exact hF117
  · rw [← h]; exact hF118
  · rw [← h]; exact hF119
  · rw [← h]; exact hF120
  · rw [← h]; exact hF121
  · rw [← h]; exact hF122
  · rw [← h]; exact hF123
  · rw [← h]; exact hF124
  · rw [← h]; exact hF125
  · rw [← h]; exact hF130
  · rw [← h]; exact hF131
  · rw [← h]; exact hF132
  · rw [← h]; exact hF133
  · rw [← h]; exact hF134
  · rw [← h]; exact hF135
  · rw [← h]; exact hF136
  · rw [← h]; exact hF137
  · rw [← h]; exact hF138
  · rw [← h]; exact hF139
  · rw [← h]; exact hF140
  · rw [← h]; exact hF141
  · rw [← h]; exact hF142
  · rw [← h]; exact hF143
  · rw [← h]; exact hF144
  · rw [← h]; exact hF145
  · rw [← h]; exact hF147
  · rw [← h]; exact hF148
  · rw [← h]; exact hF149
  · cases h
theorem hMixed : Try.prog.follows .mixedOrders = true := by kernel_rfl
theorem ok_iIn : ∀ (H : Heap) (a b c : Int), QC fnOf 81 [.int .i64 a, .int .i64 b, .int .i64 c] H (.bool (inB a b c)) := iIn_ok rfl
theorem ok_sIn : ∀ (H : Heap) (a b c : Int), QC fnOf 79 [.int .i64 a, .int .i64 b, .int .i64 c] H (.bool (inB a b c)) := sIn_ok rfl
theorem ok_iSet : ∀ (H : Heap) (a : Int), QC fnOf 98 [.int .i64 a] H (.bool (inB a 0 7)) := iSet_ok rfl ok_iIn
theorem ok_iHost : ∀ (H : Heap) (a : Int), QC fnOf 82 [.int .i64 a] H (.bool (inB a 0 2)) := iHost_ok rfl ok_iIn
theorem ok_iNum : ∀ (H : Heap) (a : Int), QC fnOf 149 [.int .i64 a] H (.bool (inB a 0 9)) := iNum_ok rfl ok_iIn
theorem ok_sAll : ∀ H, QC fnOf 131 [] H (.int .i64 7) := sAll_ok rfl
theorem ok_sSet : ∀ (H : Heap) (a : Int), QC fnOf 91 [.int .i64 a] H (.bool (inB a 0 7)) := sSet_ok rfl ok_sIn ok_sAll
theorem ok_iLabelOk : LabOk fnOf 110 := iLabelOk_ok rfl ok_iSet
theorem ok_sLabelOk : LabOk fnOf 105 := sLabelOk_ok rfl ok_sSet
theorem ok_iVar : VarOk fnOf 85 := iVar_ok rfl ok_iIn
theorem ok_sVar : VarOk fnOf 147 := sVar_ok rfl ok_sIn
theorem ok_iVal : ValOk fnOf 141 := iVal_ok rfl ok_iNum ok_iVar
theorem ok_sVal : ValOk fnOf 148 := sVal_ok rfl ok_sIn ok_sVar
theorem ok_sSteps : ∀ n, StepsOk fnOf 106 n := fun n => (sSteps_all rfl rfl ok_sIn ok_sVar ok_sVal n).1
theorem ok_iSteps : ∀ n, StepsOk fnOf 111 n := iSteps_all rfl ok_iVar ok_iVal ok_iHost
theorem ok_sCount : ∀ n, CntOk fnOf 107 n := cnt_all (fun _ h => sCount_ok rfl h) (sCount_z rfl)
theorem ok_iSize : ∀ n, CntOk fnOf 62 n := cnt_all (fun _ h => iSize_ok rfl h) (iSize_z rfl)
theorem ok_sProg : ProgOk fnOf 60 := sProg_ok rfl ok_sLabelOk ok_sSteps ok_sCount
theorem ok_iProg : ProgOk fnOf 61 := iProg_ok rfl (con_ok rfl (idx_ok rfl (p1_ok rfl ok_iLabelOk))) ok_iSteps ok_iSize
theorem ok_sHas : HasOk fnOf 92 := sHas_ok rfl
theorem ok_sWit : WitOk fnOf 122 := sWithin_ok rfl ok_sHas
theorem ok_sBoth : BothOk fnOf 130 := sBoth_ok rfl ok_sHas
theorem ok_sLBoth : LBothOk fnOf 137 := sLBoth_ok rfl ok_sLabelOk ok_sBoth
theorem ok_sFlows : FlowsOk fnOf 136 := sFlows_ok rfl ok_sLabelOk ok_sWit
theorem ok_sAny : ∀ H, QC fnOf 133 [] H (.agg #[.int .i64 7, .int .i64 7]) := sAny_ok rfl ok_sAll
theorem ok_sFine : FineOk fnOf 104 := sFine_ok rfl (sValL_ok rfl ok_sAny ok_sLBoth) ok_sLBoth ok_sFlows ok_sBoth ok_sHas
theorem ok_sAllSteps : ∀ n, AllOk fnOf 93 n := sAllSteps_all rfl
theorem ok_sAt : ∀ n, AtOk fnOf 132 n := sAt_all rfl ok_sLBoth
theorem ok_sTypeAt : TypeAtOk fnOf 94 := sTypeAt_ok rfl ok_sProg ok_sAny ok_sAt
theorem ok_iHas : HasOk fnOf 99 := iHas_ok rfl ok_iHost
theorem ok_iWit : WitOk fnOf 114 := iWithin_ok rfl
theorem ok_iBoth : ILBoth fnOf 135 := iBoth_ok rfl
theorem ok_iAt : AtP fnOf 53 := iAt_ok rfl (iLabels_all rfl ok_iBoth) (iEvery_ok rfl)
theorem ok_iWhy0 : WhyI fnOf 86 := iWhy0_ok rfl ok_iAt (iAll_all rfl) (iSource_ok rfl rfl ok_iBoth) (iFlows_ok rfl ok_iWit) ok_iHas
theorem ok_iTypeOk : TypeP fnOf 43 := iTypeOk_ok rfl ok_iProg ok_iWhy0
theorem ok_iTrusts : TrOk fnOf 52 := iTrusts_ok rfl ok_iSet ok_iHas
theorem ok_iBy : ByOk fnOf 115 := iBy_ok rfl ok_iHas
theorem ok_iDoes : DoesOk fnOf 65 := iDoes_ok rfl ok_iHas ok_iWit ok_iBy (iSets_all rfl) (iMakes_ok rfl rfl)
theorem ok_iHome1 : HomeI fnOf 64 := iHome1_ok rfl ok_iHas ok_iWit ok_iBy
theorem ok_sTrusts : TrOk fnOf 49 := sTrusts_ok rfl ok_sSet ok_sHas
theorem ok_sBy : ByOk fnOf 96 := sBy_ok rfl ok_sHas
theorem ok_sWhyV : WhyV fnOf 59 := sWhyV_ok rfl ok_sProg ok_sAllSteps ok_sTypeAt ok_sFine
theorem ok_sTypeOk : TypeP fnOf 18 := sTypeOk_ok rfl ok_sWhyV ok_sProg
theorem ok_sAllA : ∀ n, AllA fnOf 93 n := sAllA_all rfl
theorem ok_sTypeSets : SetsOk fnOf 95 := sTypeSets_ok rfl ok_sProg ok_sAllA (sSets_all rfl (sEither_ok rfl ok_sBoth))
theorem ok_sSee : SeeOk fnOf 50 := sSee_ok rfl ok_sAllA ok_sTypeAt ok_sTypeSets ok_sBy
theorem ok_lHome : LHome fnOf 78 := lHome_ok rfl ok_sHas ok_sWit
theorem ok_lStep : LStep fnOf 80 := lStep_ok rfl ok_sHas ok_sWit (sVars21_ok rfl)
theorem ok_iHostsOk : HostsI fnOf 63 := iHostsOk_ok rfl rfl rfl rfl ok_iHost
theorem ok_iPlanOk : PlanOkV fnOf 21 := iPlanOk_ok rfl ok_iTypeOk ok_iTrusts ok_iHostsOk ok_iSize ok_iHome1 ok_iAt (iAll_all rfl) ok_iDoes
theorem ok_sProgSize : SizeV fnOf 77 := sProgSizeV_ok rfl ok_sProg ok_sCount
theorem ok_sHomes21 : Homes21 fnOf 76 := sHomes21_ok rfl ok_sIn
theorem ok_sPlanOk : PlanOkV fnOf 33 := sPlanOk_ok rfl ok_sTypeOk ok_sTrusts ok_sHomes21 ok_sProgSize ok_sIn ok_sSee ok_lHome ok_lStep

theorem ok_szLabelS : SzOk fnOf (Co.sl Co.p2) false 66 := szFlat_ok rfl (fun _ => ⟨trivial, trivial⟩)
theorem ok_szSteps : ∀ n, SzOk fnOf (Co.step n) true 117 ∧ SzOk fnOf (Co.sl (Co.step n)) false 67 := by
  intro n
  induction n with
  | zero =>
    have z : SzOk fnOf (Co.step 0) true 117 := by
      rintro H v a left ⟨cs, _, h⟩
      exact h.elim
    exact ⟨z, szNest_ok rfl z (step_w 0) (va_t (Co.step 0))⟩
  | succ n ih =>
    have z : SzOk fnOf (Co.step (n + 1)) true 117 := szStep_ok rfl ih.2 ih.2
    exact ⟨z, szNest_ok rfl z (step_w (n + 1)) (va_t (Co.step (n + 1)))⟩
theorem ok_szProg (n : Nat) : SzOk fnOf (Co.prog n) true 22 := szProg_ok rfl ok_szLabelS (ok_szSteps n).2
theorem ok_toIntS : ToOk fnOf (Co.sl Co.int) false .k 24 := toFlat_ok rfl
theorem ok_toLabel : ToOk fnOf Co.p2 true .q 118 := toLabel_ok rfl
theorem ok_toVal : ToOk fnOf Co.val true .q 144 := toVal_ok rfl
theorem ok_toLabelS : ToOk fnOf (Co.sl Co.p2) false .k 68 := toCall_ok rfl rfl (by omega) ok_toLabel rfl (va_t Co.p2)
theorem ok_toSteps : ∀ n, ToOk fnOf (Co.step n) true .k 119 ∧ ToOk fnOf (Co.sl (Co.step n)) false .k 69 := by
  intro n
  induction n with
  | zero =>
    have z : ToOk fnOf (Co.step 0) true .k 119 := by
      rintro H v a ⟨cs, _, h⟩
      exact h.elim
    exact ⟨z, toCall_ok rfl rfl (by omega) z (step_w 0) (va_t (Co.step 0))⟩
  | succ n ih =>
    have z : ToOk fnOf (Co.step (n + 1)) true .k 119 := toStep_ok rfl ok_toVal ih.2 ih.2
    exact ⟨z, toCall_ok rfl rfl (by omega) z (step_w (n + 1)) (va_t (Co.step (n + 1)))⟩
theorem ok_toProg (n : Nat) : ToOk fnOf (Co.prog n) true .k 23 := toProg_ok rfl ok_toLabelS (ok_toSteps n).2
theorem ok_eqIntS : EqOk fnOf (Co.sl Co.int) false 27 := eqFlat_ok rfl
theorem ok_eqLabel : EqOk fnOf Co.p2 true 120 := eqLabel_ok rfl
theorem ok_eqVal : EqOk fnOf Co.val true 145 := eqVal_ok rfl
theorem ok_eqLabelS : EqOk fnOf (Co.sl Co.p2) false 70 := eqCall_ok rfl ok_eqLabel rfl (va_t Co.p2)
theorem ok_eqSteps : ∀ n, EqOk fnOf (Co.step n) true 121 ∧ EqOk fnOf (Co.sl (Co.step n)) false 71 := by
  intro n
  induction n with
  | zero =>
    have z : EqOk fnOf (Co.step 0) true 121 := by
      rintro H v u a ⟨cs, _, h⟩
      exact h.elim
    exact ⟨z, eqCall_ok rfl z (step_w 0) (va_t (Co.step 0))⟩
  | succ n ih =>
    have z : EqOk fnOf (Co.step (n + 1)) true 121 := eqStep_ok rfl ok_eqVal ih.2 ih.2
    exact ⟨z, eqCall_ok rfl z (step_w (n + 1)) (va_t (Co.step (n + 1)))⟩
theorem ok_eqProg (n : Nat) : EqOk fnOf (Co.prog n) true 26 := eqProg_ok rfl ok_eqLabelS (ok_eqSteps n).2
theorem ok_szIntS : SzOk fnOf (Co.sl Co.int) false 84 := szFlat_ok rfl (fun _ => trivial)
theorem ok_szPlan : SzOk fnOf Co.plan true 40 := szPlan_ok rfl ok_szIntS ok_szIntS ok_szIntS
theorem ok_toPlan : ToOk fnOf Co.plan true .k 41 := toPlan_ok rfl ok_toIntS ok_toIntS ok_toIntS
theorem ok_eqPlan : EqOk fnOf Co.plan true 25 := eqPlan_ok rfl ok_eqIntS ok_eqIntS ok_eqIntS
theorem ok_law : ∀ (H : Heap) (n : Nat) (v u : Value) (a : TProg n) (b : List Int × List Int × List Int), Rd (Co.prog n) true (vw 0 H) v a → Rd Co.plan true (vw 0 H) u b → QC fnOf 12 [v, u] H (.bool true) := lawEPO_ok rfl ok_szProg ok_szPlan ok_toProg ok_toPlan ok_eqProg ok_eqPlan ok_sPlanOk.rd ok_iPlanOk.rd
end Go.Proofs.YtbjeldblaclpnaaI
end
