/- Texts of this proof, merged: K9, K10, K11, K12, K19, K20, K21, K23, K24, K18, K22, K27, K28, K30, H24, H29, V5, GL60. -/
import Derived.Test.YtbjeldblaclpnaaQd8
import Derived.Test.YtbjeldblaclpnaaQd9
import Derived.Test.YtbjeldblaclpnaaQd10
import Derived.Test.YtbjeldblaclpnaaRows
section
/- Where a variable may be, who may do a step (the reference's, of what is looked at). -/
set_option linter.unusedVariables false
set_option linter.unusedSimpArgs false
namespace Go.Proofs.YtbjeldblaclpnaaI
open Go Go.RowKit
def c_lHome : IFn := ⟨3, 37, [.t 6],
 .seq (.reg none [
    ⟨(some 6), none, .mov (.c (.bool false))⟩])
 (.seq (.reg (some 28) [
    ⟨(some 7), none, .mov (.t 0)⟩,
    ⟨(some 8), none, .nilck (.t 7)⟩,
    ⟨(some 9), none, .fad 0 (.t 8)⟩,
    ⟨(some 10), none, .fad 0 (.t 9)⟩,
    ⟨(some 11), none, .load false 1 (.t 10)⟩,
    ⟨(some 12), none, .mov (.t 1)⟩,
    ⟨(some 13), none, .iad 2 (.t 11) (.t 12)⟩,
    ⟨(some 14), none, .fad 0 (.t 13)⟩,
    ⟨(some 15), none, .load false 1 (.t 14)⟩,
    ⟨(some 16), none, .mov (.t 2)⟩,
    ⟨(some 17), none, .call .q (.f 92) [(.t 15), (.t 16)]⟩,
    ⟨(some 18), none, .mov (.t 17)⟩,
    ⟨(some 19), (some (18, true)), .mov (.t 0)⟩,
    ⟨(some 20), (some (18, true)), .nilck (.t 19)⟩,
    ⟨(some 21), (some (18, true)), .fad 0 (.t 20)⟩,
    ⟨(some 22), (some (18, true)), .fad 0 (.t 21)⟩,
    ⟨(some 23), (some (18, true)), .load false 1 (.t 22)⟩,
    ⟨(some 24), (some (18, true)), .mov (.t 1)⟩,
    ⟨(some 25), (some (18, true)), .iad 2 (.t 23) (.t 24)⟩,
    ⟨(some 26), (some (18, true)), .fad 1 (.t 25)⟩,
    ⟨(some 27), (some (18, true)), .load false 1 (.t 26)⟩,
    ⟨(some 28), (some (18, true)), .mov (.t 0)⟩,
    ⟨(some 29), (some (18, true)), .nilck (.t 28)⟩,
    ⟨(some 30), (some (18, true)), .fad 6 (.t 29)⟩,
    ⟨(some 31), (some (18, true)), .load false 1 (.t 30)⟩,
    ⟨(some 32), (some (18, true)), .mov (.t 2)⟩,
    ⟨(some 33), (some (18, true)), .iad 1 (.t 31) (.t 32)⟩,
    ⟨(some 34), (some (18, true)), .load false 1 (.t 33)⟩,
    ⟨(some 35), (some (18, true)), .call .q (.f 122) [(.t 27), (.t 34)]⟩,
    ⟨(some 36), none, .pick (.t 18) (.t 35) (.c (.bool false))⟩,
    ⟨(some 6), none, .mov (.t 36)⟩])
 (.ret))⟩
def c_lStep : IFn := ⟨4, 99, [.t 8],
 .seq (.reg none [
    ⟨(some 8), none, .mov (.c (.bool false))⟩])
 (.seq (.reg none [
    ⟨(some 13), none, .mov (.t 0)⟩,
    ⟨(some 14), none, .nilck (.t 13)⟩,
    ⟨(some 15), none, .fad 3 (.t 14)⟩,
    ⟨(some 16), none, .load false 1 (.t 15)⟩,
    ⟨(some 17), none, .mov (.t 2)⟩,
    ⟨(some 18), none, .iad 8 (.t 16) (.t 17)⟩,
    ⟨(some 19), none, .load true 8 (.t 18)⟩,
    ⟨(some 9), none, .new [(.int .i64 0), (.int .i64 0), (.int .i64 0), (.int .i64 0), (.int .i64 0), (.int .i64 0), (.slice none 0 0), (.slice none 0 0)]⟩,
    ⟨none, none, .store 8 (.t 9) (.t 19)⟩])
 (.seq (.reg none [
    ⟨(some 20), none, .mov (.t 0)⟩,
    ⟨(some 21), none, .nilck (.t 20)⟩,
    ⟨(some 22), none, .fad 4 (.t 21)⟩,
    ⟨(some 23), none, .load false 1 (.t 22)⟩,
    ⟨(some 24), none, .mov (.t 2)⟩,
    ⟨(some 25), none, .iad 2 (.t 23) (.t 24)⟩,
    ⟨(some 26), none, .load true 2 (.t 25)⟩,
    ⟨(some 10), none, .new [(.int .i64 0), (.int .i64 0)]⟩,
    ⟨none, none, .store 2 (.t 10) (.t 26)⟩])
 (.seq (.seq (.reg (some 20) [
     ⟨(some 27), none, .fad 0 (.t 10)⟩,
     ⟨(some 28), none, .load false 1 (.t 27)⟩,
     ⟨(some 29), none, .mov (.t 3)⟩,
     ⟨(some 30), none, .call .q (.f 92) [(.t 28), (.t 29)]⟩,
     ⟨(some 31), none, .un .not (.t 30)⟩,
     ⟨(some 32), none, .mov (.t 31)⟩,
     ⟨(some 33), (some (32, false)), .mov (.t 0)⟩,
     ⟨(some 34), (some (32, false)), .nilck (.t 33)⟩,
     ⟨(some 35), (some (32, false)), .fad 5 (.t 34)⟩,
     ⟨(some 36), (some (32, false)), .load false 1 (.t 35)⟩,
     ⟨(some 37), (some (32, false)), .mov (.t 2)⟩,
     ⟨(some 38), (some (32, false)), .iad 1 (.t 36) (.t 37)⟩,
     ⟨(some 39), (some (32, false)), .load false 1 (.t 38)⟩,
     ⟨(some 40), (some (32, false)), .mov (.t 0)⟩,
     ⟨(some 41), (some (32, false)), .nilck (.t 40)⟩,
     ⟨(some 42), (some (32, false)), .fad 6 (.t 41)⟩,
     ⟨(some 43), (some (32, false)), .load false 1 (.t 42)⟩,
     ⟨(some 44), (some (32, false)), .mov (.t 3)⟩,
     ⟨(some 45), (some (32, false)), .iad 1 (.t 43) (.t 44)⟩,
     ⟨(some 46), (some (32, false)), .load false 1 (.t 45)⟩,
     ⟨(some 47), (some (32, false)), .call .q (.f 122) [(.t 39), (.t 46)]⟩,
     ⟨(some 48), (some (32, false)), .un .not (.t 47)⟩,
     ⟨(some 49), none, .pick (.t 32) (.c (.bool true)) (.t 48)⟩])
  (.cond (.t 49) (.seq (.reg none [
      ⟨(some 8), none, .mov (.c (.bool false))⟩])
   (.ret)) (.skip)))
 (.seq (.reg none [
    ⟨(some 50), none, .load true 8 (.t 9)⟩,
    ⟨(some 51), none, .call .k (.f 123) [(.t 50)]⟩,
    ⟨(some 11), none, .mov (.t 51)⟩])
 (.seq (.seq (.reg none [
     ⟨(some 12), none, .mov (.c (.int .i64 0))⟩])
  (.block 0 (.loop (.seq (.seq (.reg none [
        ⟨(some 52), none, .mov (.t 12)⟩,
        ⟨(some 53), none, .mov (.t 11)⟩,
        ⟨(some 54), none, .len (.t 53)⟩,
        ⟨(some 55), none, .bin .lss (.t 52) (.t 54)⟩])
     (.cond (.t 55) (.skip) (.exit 0)))
    (.seq (.block 1 (.seq (.reg (some 25) [
         ⟨(some 58), none, .mov (.t 0)⟩,
         ⟨(some 59), none, .nilck (.t 58)⟩,
         ⟨(some 60), none, .fad 0 (.t 59)⟩,
         ⟨(some 61), none, .fad 0 (.t 60)⟩,
         ⟨(some 62), none, .load false 1 (.t 61)⟩,
         ⟨(some 63), none, .mov (.t 11)⟩,
         ⟨(some 64), none, .mov (.t 12)⟩,
         ⟨(some 65), none, .iad 1 (.t 63) (.t 64)⟩,
         ⟨(some 66), none, .load false 1 (.t 65)⟩,
         ⟨(some 67), none, .iad 2 (.t 62) (.t 66)⟩,
         ⟨(some 68), none, .fad 0 (.t 67)⟩,
         ⟨(some 69), none, .load false 1 (.t 68)⟩,
         ⟨(some 70), none, .mov (.t 3)⟩,
         ⟨(some 71), none, .call .q (.f 92) [(.t 69), (.t 70)]⟩,
         ⟨(some 72), none, .un .not (.t 71)⟩,
         ⟨(some 73), none, .mov (.t 72)⟩,
         ⟨(some 74), (some (73, false)), .fad 0 (.t 10)⟩,
         ⟨(some 75), (some (73, false)), .load false 1 (.t 74)⟩,
         ⟨(some 76), (some (73, false)), .mov (.t 1)⟩,
         ⟨(some 77), (some (73, false)), .mov (.t 11)⟩,
         ⟨(some 78), (some (73, false)), .mov (.t 12)⟩,
         ⟨(some 79), (some (73, false)), .iad 1 (.t 77) (.t 78)⟩,
         ⟨(some 80), (some (73, false)), .load false 1 (.t 79)⟩,
         ⟨(some 81), (some (73, false)), .iad 1 (.t 76) (.t 80)⟩,
         ⟨(some 82), (some (73, false)), .load false 1 (.t 81)⟩,
         ⟨(some 83), (some (73, false)), .call .q (.f 92) [(.t 75), (.t 82)]⟩,
         ⟨(some 84), (some (73, false)), .un .not (.t 83)⟩,
         ⟨(some 85), none, .pick (.t 73) (.c (.bool true)) (.t 84)⟩])
      (.cond (.t 85) (.seq (.reg none [
          ⟨(some 8), none, .mov (.c (.bool false))⟩])
       (.ret)) (.skip))))
    (.reg none [
      ⟨(some 56), none, .mov (.t 12)⟩,
      ⟨(some 57), none, .bin .add (.t 56) (.c (.int .i64 1))⟩,
      ⟨(some 12), none, .mov (.t 57)⟩]))))))
 (.seq (.reg (some 11) [
    ⟨(some 86), none, .fad 0 (.t 9)⟩,
    ⟨(some 87), none, .load false 1 (.t 86)⟩,
    ⟨(some 88), none, .bin .neq (.t 87) (.c (.int .i64 1))⟩,
    ⟨(some 89), none, .mov (.t 88)⟩,
    ⟨(some 90), (some (89, false)), .fad 0 (.t 10)⟩,
    ⟨(some 91), (some (89, false)), .load false 1 (.t 90)⟩,
    ⟨(some 92), (some (89, false)), .mov (.t 1)⟩,
    ⟨(some 93), (some (89, false)), .fad 1 (.t 9)⟩,
    ⟨(some 94), (some (89, false)), .load false 1 (.t 93)⟩,
    ⟨(some 95), (some (89, false)), .iad 1 (.t 92) (.t 94)⟩,
    ⟨(some 96), (some (89, false)), .load false 1 (.t 95)⟩,
    ⟨(some 97), (some (89, false)), .call .q (.f 92) [(.t 91), (.t 96)]⟩,
    ⟨(some 98), none, .pick (.t 89) (.c (.bool true)) (.t 97)⟩,
    ⟨(some 8), none, .mov (.t 98)⟩])
 (.ret)))))))⟩
theorem byL_at (ts : List Int) {h : Int} (h0 : 0 ≤ h) (h2 : h ≤ 2) : ∃ hl : h.toNat < (byL ts).length, (byL ts)[h.toNat] = byS ts h 3 := by
  have hh : h = 0 ∨ h = 1 ∨ h = 2 := by omega
  rcases hh with rfl | rfl | rfl <;> exact ⟨by simp [byL], rfl⟩
def LHome (F : Nat → Option IFn) (f : Nat) : Prop := ∀ (H : Heap) (W n : Nat) (ls : List (Int × Int)) (l : List (TStep n)) (ts : List Int) (v h : Int), LookR H W n ls l ts → ls.all labB = true → 0 ≤ v → v < ls.length → 0 ≤ h → h ≤ 2 → QC F f [ptr W 0, .int .i64 v, .int .i64 h] H (.bool (hmB ls ts v h))
theorem lHome_ok {F : Nat → Option IFn} {f : Nat} (hf : F f = some c_lHome) (gh : HasOk F 92) (gw : WitOk F 122) : LHome F f := by
  intro H W n ls l ts v h hL hlab hv0 hv1 hh0 hh2
  obtain ⟨lv, sv, tw, li, la, se, bv, osv, hW, r1, r2, r3, r4, r5, r6⟩ := hL.ex
  have hlx := labB_i.1 (lab_getD hlab v.toNat)
  have hby := byS_lt ts h 3
  have h8 : (2 : Int) ^ 3 = 8 := by decide
  rw [h8] at hby
  obtain ⟨_, lva, rfl, _⟩ := id r1
  obtain ⟨_, bva, rfl, _⟩ := id r6
  obtain ⟨hbl, hbe⟩ := byL_at ts hh0 hh2
  obtain ⟨bb, bo, hbv, hbg⟩ := gcJ r6 hbl
  simp only [Value.slice.injEq, and_true] at hbv
  subst hbv
  rw [hbe] at hbg
  have hb3 : (byL ts).length = 3 := rfl
  obtain ⟨lb, lo', hla, hgl0, _⟩ := lab_at r1 (H := H) (fun _ _ h => h) hv0 hv1
  simp only [Value.slice.injEq, and_true] at hla
  subst hla
  have hgl := hgl0 []
  rw [List.append_nil] at hgl
  have g0 : getCells H lb (lo' + v.toNat * 2) 1 = some [.int .i64 (ls.getD v.toNat (0, 0)).1] := by have := gc_part (off := 0) (k := 1) hgl (by omega); simpa using this
  have g1 : getCells H lb (lo' + v.toNat * 2 + 1) 1 = some [.int .i64 (ls.getD v.toNat (0, 0)).2] := gc_part (off := 1) (k := 1) hgl (by omega)
  refine QC.mk hf rfl ?_
  refine seq_reg ?_
  simp only [go_sem, binC]
  refine seq_regD ?_
  simp only [go_sem, binC, gc_of hW, inBlk_some]
  refine ⟨⟨by omega, by omega⟩, ?_⟩
  simp only [go_sem, binC, g0]
  refine op_callQ (by simp only [go_sem, binC]; exact gh H _ h hlx.1.1 hlx.1.2) ?_
  unfold hmB
  cases q1 : hasB (ls.getD v.toNat (0, 0)).1 h with
  | false =>
    simp only [go_sem, binC]
    exact wpc_ret ⟨Or.inr rfl, _, (by (simp only [go_sem, binC]) <;> rfl), rfl, rfl⟩
  | true =>
    simp only [go_sem, binC, gc_of hW, inBlk_some]
    refine ⟨⟨by omega, by omega⟩, ?_⟩
    simp only [go_sem, binC, g1, gc_of hW, inBlk_some]
    refine ⟨⟨by omega, by omega⟩, ?_⟩
    simp only [go_sem, binC, Nat.mul_one, hbg]
    refine op_callQ (by simp only [go_sem, binC]; exact gw H _ _ hlx.2.1 hlx.2.2 hby.1 (by omega)) ?_
    simp only [go_sem, binC]
    exact wpc_ret ⟨Or.inr rfl, _, (by (simp only [go_sem, binC]) <;> rfl), rfl, rfl⟩
theorem slA_at {H : Heap} {v : Value} {l : List AnyS} (h : SlR Co.anyS (vw 0 H) v l) {i : Nat} (hi : i < l.length) : ∃ b o cs, v = .slice (some ⟨b, o, none⟩) l.length l.length ∧ getCells H b (o + i * 8) 8 = some cs ∧ Co.anyS.rd (vw 0 H) cs l[i] := by
  obtain ⟨h0, a, rfl, h1⟩ := h
  obtain ⟨b, o, rfl, h2⟩ := h1.resolve_left (fun h => by rw [h] at hi; simp at hi)
  obtain ⟨cs, h3, h4⟩ := h2 i hi
  have h5 := rng_gc h3
  exact ⟨b, o, cs, rfl, h5, h4⟩
theorem slP_at {H : Heap} {v : Value} {l : List (Int × Int)} (h : SlR Co.p2 (vw 0 H) v l) {i : Nat} (hi : i < l.length) : ∃ b o, v = .slice (some ⟨b, o, none⟩) l.length l.length ∧ getCells H b (o + i * 2) 2 = some [.int .i64 l[i].1, .int .i64 l[i].2] := by
  obtain ⟨h0, a, rfl, h1⟩ := h
  obtain ⟨b, o, rfl, h2⟩ := h1.resolve_left (fun h => by rw [h] at hi; simp at hi)
  obtain ⟨cs, h3, h4⟩ := h2 i hi
  have h5 := rng_gc h3
  obtain ⟨_, _, rfl, ⟨hq1, _⟩, ⟨hq2, _⟩⟩ := h4
  subst hq1 hq2
  exact ⟨b, o, rfl, h5⟩
/-- Whether a host may do the j-th step. -/
def doN (n : Nat) (ls : List (Int × Int)) (l : List (TStep n)) (ts homes : List Int) (j : Nat) (h : Int) : Bool := match (allSL n l)[j]?, (atL n ls (7, 7) l)[j]? with
  | some s, some own => doesB ls ts homes (shA s) (stA ls s) own h
  | _, _ => false
theorem doN_eq {n : Nat} {ls : List (Int × Int)} {l : List (TStep n)} {ts homes : List Int} {j : Nat} {h : Int} (h1 : j < (allSL n l).length) (h2 : j < (atL n ls (7, 7) l).length) : doN n ls l ts homes j h = doesB ls ts homes (shA (allSL n l)[j]) (stA ls (allSL n l)[j]) (atL n ls (7, 7) l)[j] h := by
  unfold doN
  rw [List.getElem?_eq_getElem h1, List.getElem?_eq_getElem h2]
def LStep (F : Nat → Option IFn) (f : Nat) : Prop := ∀ (H : Heap) (W n : Nat) (ls : List (Int × Int)) (l : List (TStep n)) (ts : List Int) (hw : Value) (homes : List Int) (j : Nat) (h : Int), LookR H W n ls l ts → progB n (ls, l) = true → SlR Co.int (vw 0 H) hw homes → homesP ls.length homes → j < (allSL n l).length → 0 ≤ h → h ≤ 2 → QC F f [ptr W 0, hw, .int .i64 j, .int .i64 h] H (.bool (doN n ls l ts homes j h))
theorem lStep_ok {F : Nat → Option IFn} {f : Nat} (hf : F f = some c_lStep) (gh : HasOk F 92) (gw : WitOk F 122) (gm : MakesOk F 123) : LStep F f := by
  intro H W n ls l ts hw homes j h hL hP rh hho hj hh0 hh2
  have hlab : ls.all labB = true := progB_lab hP
  have hatl := atL_len ls (7, 7) l
  have hsl := allSL_len l
  have hja : j < (atL n ls (7, 7) l).length := by omega
  obtain ⟨lv, sv, tw, li, la, se, bv, osv, hW, r1, r2, r3, r4, r5, r6⟩ := hL.ex
  have hokA := progB_okA hP (List.getElem_mem hj)
  have hown : labB (atL n ls (7, 7) l)[j] = true := List.all_eq_true.1 (atL_lab hlab rfl l) _ (List.getElem_mem hja)
  rw [doN_eq hj hja]
  obtain ⟨_, lva, rfl, _⟩ := id r1
  obtain ⟨_, ha, rfl, _⟩ := id rh
  obtain ⟨_, sea, rfl, hse⟩ := id r5
  obtain ⟨_, bva, rfl, _⟩ := id r6
  obtain ⟨hbl, hbe⟩ := byL_at ts hh0 hh2
  obtain ⟨bb, bo, hbv, hbg⟩ := gcJ r6 hbl
  simp only [Value.slice.injEq, and_true] at hbv
  subst hbv
  rw [hbe] at hbg
  have hb3 : (byL ts).length = 3 := rfl
  have hsel : (setsA n ls l).length = (allSL n l).length := by unfold setsA; rw [List.length_map]
  obtain ⟨sb, so, hsv, hsg⟩ := gcJ r5 (i := j) (by omega)
  have hsei : (setsA n ls l)[j]'(by omega) = stA ls (allSL n l)[j] := by unfold setsA; rw [List.getElem_map]
  rw [hsei] at hsg
  simp only [Value.slice.injEq, and_true] at hsv
  subst hsv
  obtain ⟨lib, lio, css, hli, gcs, rds⟩ := slA_at r3 hj
  subst hli
  obtain ⟨lab, lao, hla, gca⟩ := slP_at r4 hja
  subst hla
  have hst := stT_bd hlab ((allSL n l)[j].1 + 1) (allSL n l)[j].2
  have hst' : R7 (stA ls (allSL n l)[j]) := hst
  generalize (allSL n l)[j] = s at *
  generalize (atL n ls (7, 7) l)[j] = own at *
  obtain ⟨sk, sx, sa, sbb, sc, sg, tv, ev, tl, el, hs2, hcs, rg, otv, oev, htl, hel⟩ := anyS_rd rds
  subst hcs
  have hsh : shA s = (sk, sx, (sa, sbb, sc), sg) := by unfold shA; rw [hs2]
  obtain ⟨hok1, hok2⟩ := hokA
  rw [hsh] at hok1
  have hvx : 0 ≤ sx ∧ sx < ls.length := by
    have := hok1
    simp only [shB, Bool.and_eq_true] at this
    exact varB_i.1 this.1
  have hmin := makesL_in hok1
  obtain ⟨ho1, ho2⟩ := hown |> fun h => labB_i.1 h
  obtain ⟨hhl, hhr⟩ := hho
  have hby := byS_lt ts h 3
  have h8 : (2 : Int) ^ 3 = 8 := by decide
  rw [h8] at hby
  rw [hsh]
  refine QC.mk hf rfl ?_
  refine seq_reg ?_
  simp only [go_sem, binC]
  refine seq_reg ?_
  simp only [go_sem, binC, gc_of hW, inBlk_some]
  refine ⟨⟨by omega, by omega⟩, ?_⟩
  simp only [go_sem, binC, Int.toNat_natCast, gcs, otv, oev]
  refine wpc_gen fun H1 hH1 => ?_
  have hx1 : AgX [] H H1 := hH1 ▸ AgX.app [] _ _
  have hb9 : H1[H.length]? = some ⟨[.int .i64 sk, .int .i64 sx, .int .i64 sa, .int .i64 sbb, .int .i64 sc, .int .i64 sg, tv, ev], 0, 0, false, true⟩ := hH1 ▸ get_new0 _ _
  have hl1 : H1.length = H.length + 1 := by rw [hH1, List.length_append]; rfl
  clear hH1
  have hW1 := hx1.get hW (by simp)
  refine seq_reg ?_
  simp only [go_sem, binC, gc_of hW1, inBlk_some]
  refine ⟨⟨by omega, by omega⟩, ?_⟩
  simp only [go_sem, binC, Int.toNat_natCast, gcK gca hx1]
  refine ⟨by omega, ?_⟩
  refine wpc_gen fun H2 hH2 => ?_
  have hx2 : AgX [] H1 H2 := hH2 ▸ AgX.app [] _ _
  have hb10 : H2[H1.length]? = some ⟨[.int .i64 own.1, .int .i64 own.2], 0, 0, false, true⟩ := hH2 ▸ get_new0 _ _
  clear hH2
  have hx02 := hx1.tr hx2
  have hW2 := hx2.get hW1 (by simp)
  have hb92 := hx2.get hb9 (by simp)
  refine seq_assoc (seq_regD ?_)
  simp only [go_sem, binC, gc_of hb10, inBlk_some]
  refine op_callQ (by simp only [go_sem, binC]; exact gh H2 own.1 h ho1.1 ho1.2) ?_
  cases q1 : hasB own.1 h with
  | false =>
    simp only [go_sem, binC]
    refine seq_cond (t := true) rfl ?_
    simp only [go_sem, binC]
    refine seq_assoc (seq_reg ?_)
    simp only [go_sem, binC]
    refine seq_ret ⟨Or.inr rfl, .bool false, (by (simp only [go_sem, binC]) <;> rfl), ?_, rfl⟩
    unfold doesB
    rw [q1]
    rfl
  | true =>
  simp only [go_sem, binC, gc_of hW2, inBlk_some]
  refine ⟨⟨by omega, by omega⟩, ?_⟩
  simp only [go_sem, binC, Int.toNat_natCast, Nat.mul_one, gcK hsg hx02, gc_of hW2, inBlk_some]
  refine ⟨⟨by omega, by omega⟩, ?_⟩
  simp only [go_sem, binC, Nat.mul_one, gcK hbg hx02]
  refine op_callQ (by simp only [go_sem, binC]; exact gw H2 _ _ hst'.1 hst'.2 hby.1 (by omega)) ?_
  generalize stA ls s = st at *
  cases q2 : witB st (byS ts h 3) with
  | false =>
    simp only [go_sem, binC]
    refine seq_cond (t := true) rfl ?_
    simp only [go_sem, binC]
    refine seq_assoc (seq_reg ?_)
    simp only [go_sem, binC]
    refine seq_ret ⟨Or.inr rfl, .bool false, (by (simp only [go_sem, binC]) <;> rfl), ?_, rfl⟩
    unfold doesB
    rw [q1, q2]
    rfl
  | true =>
  simp only [go_sem, binC]
  refine seq_cond (t := false) rfl ?_
  simp only [go_sem, binC]
  refine seq_skip (seq_reg ?_)
  simp only [go_sem, binC, gc_of hb92, inBlk_some, otv, oev]
  obtain ⟨mw, H3, k3, hx3, hm3⟩ := gm H2 ls.length sk sx sa sbb sc sg tv ev otv oev rg hok1
  refine op_callK (by simp only [go_sem, binC]; exact k3) ?_
  obtain ⟨_, ma, rfl, _⟩ := id hm3
  simp only [go_sem, binC]
  refine seq_assoc (seq_reg ?_)
  simp only [go_sem, binC]
  have hx03 := hx02.tr hx3
  have hW3 := hx3.get hW2 (by simp)
  have hb93 := hx3.get hb92 (by simp)
  have hb103 := hx3.get hb10 (by simp)
  have r13 := r1.mono (agx_sub hx03)
  have rh3 := rh.mono (agx_sub hx03)
  have hm3' := hm3.mono (vwl0 _ _ _)
  generalize hML : makesL (sk, sx, (sa, sbb, sc), sg) = ml at *
  have hdo : doesB ls ts homes (sk, sx, (sa, sbb, sc), sg) st own h = (ml.all (mkP ls homes own h) && (decide (sk ≠ 1) || hasB own.1 (homes.getD sx.toNat 0))) := by
    unfold doesB
    rw [q1, q2, hML]
    rfl
  rw [hdo]
  have hhome : ∀ v : Int, 0 ≤ v → v < ls.length → ∃ hb ho, ha = some ⟨hb, ho, none⟩ ∧ getCells H3 hb (ho + v.toNat) 1 = some [.int .i64 (homes.getD v.toNat 0)] := fun v h1 h2 => by
    have hl : v.toNat < homes.length := by omega
    obtain ⟨b, o, hv, hg⟩ := gcJ rh3 hl
    simp only [Value.slice.injEq, and_true] at hv
    refine ⟨b, o, hv, ?_⟩
    rw [hg]
    simp [List.getD, hl]
  have hlabel : ∀ v : Int, 0 ≤ v → v < ls.length → ∃ lb lo', lva = some ⟨lb, lo', none⟩ ∧ getCells H3 lb (lo' + v.toNat * 2) 1 = some [.int .i64 (ls.getD v.toNat (0, 0)).1] := fun v h1 h2 => by
    obtain ⟨lb, lo', hla, hgl0, _⟩ := lab_at r13 (H := H3) (fun _ _ h => h) h1 h2
    simp only [Value.slice.injEq, and_true] at hla
    have hgl1 := hgl0 []
    rw [List.append_nil] at hgl1
    have := gc_part (off := 0) (k := 1) hgl1 (by omega)
    exact ⟨lb, lo', hla, by simpa using this⟩
  have hl3 := hx03.1
  refine seq_block (wpc_loop ?_)
  suffices hh : ∀ (m i : Nat) (e : Env), i + m = ml.length → (ml.take i).all (mkP ls homes own h) = true → e 0 = ptr W 0 → e 1 = .slice ha homes.length homes.length → e 3 = .int .i64 h → e 9 = ptr H.length 0 → e 10 = ptr H1.length 0 → e 11 = .slice ma ml.length ml.length → e 12 = .int .i64 i → Go.Proofs.YtbjeldblaclpnaaI.W F H.length _ e H3 _ from
    hh ml.length 0 _ (by omega) rfl (by simp only [go_sem, binC]) (by simp only [go_sem, binC]) (by simp only [go_sem, binC]) (by simp only [go_sem, binC]) (by simp only [go_sem, binC]) (by simp only [go_sem, binC]) (by (simp only [go_sem, binC]) <;> rfl)
  intro m
  induction m with
  | zero =>
    intro i e hi hall e0 e1 e3 e9 e10 e11 e12
    rw [List.take_of_length_le (by omega)] at hall
    refine lp_step ?_
    refine seq_assoc (seq_reg ?_)
    simp only [go_sem, binC, e11, e12]
    refine seq_cond (t := false) (by simp only [go_sem, binC]; rw [decide_eq_false (by omega)]) ?_
    simp only [go_sem, binC]
    refine seq_exit ?_
    simp only [go_sem, binC, thenX_e, out_e, thenX_n]
    refine seq_regD ?_
    simp only [go_sem, binC, e9, gc_of hb93, inBlk_some]
    by_cases k1 : sk = 1
    · simp only [go_sem, binC, bne_fJ k1]
      obtain ⟨hb, ho, rfl, hg⟩ := hhome sx hvx.1 hvx.2
      simp only [go_sem, binC, e1, e9, e10, gc_of hb93, gc_of hb103, inBlk_some]
      refine ⟨⟨by omega, by omega⟩, ?_⟩
      simp only [go_sem, binC, Int.toNat_natCast, Nat.mul_one, hg]
      refine op_callQ (by simp only [go_sem, binC]; exact gh H3 own.1 _ ho1.1 ho1.2) ?_
      simp only [go_sem, binC]
      refine wpc_ret ⟨Or.inr rfl, _, (by (simp only [go_sem, binC]) <;> rfl), ?_, rfl⟩
      rw [hall, decide_eq_false (by simpa using k1)]
      rfl
    · simp only [go_sem, binC, bne_tJ k1]
      refine wpc_ret ⟨Or.inr rfl, _, (by (simp only [go_sem, binC]) <;> rfl), ?_, rfl⟩
      rw [hall, decide_eq_true (by simpa using k1)]
      rfl
  | succ m ih =>
    intro i e hi hall e0 e1 e3 e9 e10 e11 e12
    have hil : i < ml.length := by omega
    have hw1 : IntKind.i64.wrap ((i : Int) + 1) = ((i + 1 : Nat) : Int) := by rw [wrap_id (by omega) (by omega)]; omega
    have hvi := hmin _ (List.getElem_mem hil)
    obtain ⟨mb, mo, hmv, hmg⟩ := gcJ hm3' hil
    simp only [Value.slice.injEq, and_true] at hmv
    subst hmv
    obtain ⟨lb, lo', rfl, hlg⟩ := hlabel _ hvi.1 hvi.2
    obtain ⟨hb, ho, rfl, hhg⟩ := hhome _ hvi.1 hvi.2
    have hlx := labB_i.1 (lab_getD hlab ml[i].toNat)
    have hPf : mkP ls homes own h ml[i] = false → ml.all (mkP ls homes own h) = false := fun hp => by
      rw [Bool.eq_false_iff]
      intro hall'
      have := List.all_eq_true.1 hall' _ (List.getElem_mem hil)
      rw [hp] at this
      cases this
    refine lp_step ?_
    refine seq_assoc (seq_reg ?_)
    simp only [go_sem, binC, e11, e12]
    refine seq_cond (t := true) (by simp only [go_sem, binC]; rw [decide_eq_true (by omega)]) ?_
    simp only [go_sem, binC]
    refine seq_skip (seq_block (seq_regD ?_))
    simp only [go_sem, binC, e0, e3, e11, e12, gc_of hW3, inBlk_some]
    refine ⟨⟨by omega, by omega⟩, ?_⟩
    simp only [go_sem, binC, Int.toNat_natCast, Nat.mul_one, hmg]
    refine ⟨⟨by omega, by omega⟩, ?_⟩
    simp only [go_sem, binC, hlg, e3]
    refine op_callQ (by simp only [go_sem, binC, e3]; exact gh H3 _ h hlx.1.1 hlx.1.2) ?_
    cases p1 : hasB (ls.getD ml[i].toNat (0, 0)).1 h with
    | false =>
      simp only [go_sem, binC]
      refine wpc_cond (t := true) rfl ?_
      simp only [go_sem, binC]
      refine seq_reg ?_
      simp only [go_sem, binC]
      refine wpc_ret ?_
      simp only [go_sem, binC, out_r, thenX_r]
      refine ⟨Or.inr rfl, .bool false, (by (simp only [go_sem, binC]) <;> rfl), ?_, rfl⟩
      rw [hPf (by unfold mkP; rw [p1]; rfl)]
      rfl
    | true =>
    simp only [go_sem, binC, e1, e10, e11, e12, gc_of hb103, inBlk_some]
    refine ⟨⟨by omega, by omega⟩, ?_⟩
    simp only [go_sem, binC, Int.toNat_natCast, Nat.mul_one, hmg]
    refine ⟨⟨by omega, by omega⟩, ?_⟩
    simp only [go_sem, binC, Int.toNat_natCast, Nat.mul_one, hhg]
    refine op_callQ (by simp only [go_sem, binC]; exact gh H3 own.1 _ ho1.1 ho1.2) ?_
    cases p2 : hasB own.1 (homes.getD ml[i].toNat 0) with
    | false =>
      simp only [go_sem, binC]
      refine wpc_cond (t := true) rfl ?_
      simp only [go_sem, binC]
      refine seq_reg ?_
      simp only [go_sem, binC]
      refine wpc_ret ?_
      simp only [go_sem, binC, out_r, thenX_r]
      refine ⟨Or.inr rfl, .bool false, (by (simp only [go_sem, binC]) <;> rfl), ?_, rfl⟩
      rw [hPf (by unfold mkP; rw [p1, p2]; rfl)]
      rfl
    | true =>
    simp only [go_sem, binC]
    refine wpc_cond (t := false) rfl ?_
    simp only [go_sem, binC]
    refine wpc_skip ?_
    simp only [go_sem, binC, out_n, thenX_n]
    refine wpc_reg ?_
    simp only [go_sem, binC, e12, hw1]
    simp only [go_sem, binC, thenX_n]
    refine ih (i + 1) _ (by omega) ?_ (by simp only [go_sem, binC, e0]) (by simp only [go_sem, binC, e1]) (by simp only [go_sem, binC, e3]) (by simp only [go_sem, binC, e9]) (by simp only [go_sem, binC, e10]) (by simp only [go_sem, binC, e11]) (by simp only [go_sem, binC])
    rw [List.take_add_one, List.getElem?_eq_getElem hil, List.all_append, hall]
    simp only [Option.toList, List.all_cons, List.all_nil, Bool.true_and, Bool.and_true]
    unfold mkP
    rw [p1, p2]
    rfl
end Go.Proofs.YtbjeldblaclpnaaI
end
section
/- Lists of numbers of one's own, appended to; who does all steps (the reference's). -/
set_option linter.unusedVariables false
set_option linter.unusedSimpArgs false
namespace Go.Proofs.YtbjeldblaclpnaaI
open Go Go.RowKit
def c_lDoes : IFn := ⟨2, 41, [.t 4, .t 5],
 .seq (.reg none [
    ⟨(some 4), none, .mov (.c (.slice none 0 0))⟩,
    ⟨(some 5), none, .mov (.c (.bool false))⟩])
 (.seq (.reg none [
    ⟨(some 10), none, .lit 1 3 0 [] []⟩,
    ⟨(some 6), none, .mov (.t 10)⟩])
 (.seq (.seq (.reg none [
     ⟨(some 7), none, .mov (.c (.int .i64 0))⟩])
  (.block 0 (.loop (.seq (.seq (.reg none [
        ⟨(some 11), none, .mov (.t 7)⟩,
        ⟨(some 12), none, .mov (.t 0)⟩,
        ⟨(some 13), none, .nilck (.t 12)⟩,
        ⟨(some 14), none, .fad 3 (.t 13)⟩,
        ⟨(some 15), none, .load false 1 (.t 14)⟩,
        ⟨(some 16), none, .len (.t 15)⟩,
        ⟨(some 17), none, .bin .lss (.t 11) (.t 16)⟩])
     (.cond (.t 17) (.skip) (.exit 0)))
    (.seq (.block 1 (.seq (.reg none [
         ⟨(some 8), none, .mov (.c (.bool false))⟩])
      (.seq (.seq (.reg none [
          ⟨(some 9), none, .mov (.c (.int .i64 0))⟩])
       (.block 2 (.loop (.seq (.seq (.reg none [
             ⟨(some 20), none, .mov (.t 9)⟩,
             ⟨(some 21), none, .bin .lss (.t 20) (.c (.int .i64 3))⟩,
             ⟨(some 22), none, .mov (.t 21)⟩,
             ⟨(some 23), (some (22, true)), .mov (.t 8)⟩,
             ⟨(some 24), (some (22, true)), .un .not (.t 23)⟩,
             ⟨(some 25), none, .pick (.t 22) (.t 24) (.c (.bool false))⟩])
          (.cond (.t 25) (.skip) (.exit 2)))
         (.seq (.block 3 (.seq (.reg none [
              ⟨(some 28), none, .mov (.t 0)⟩,
              ⟨(some 29), none, .mov (.t 1)⟩,
              ⟨(some 30), none, .mov (.t 7)⟩,
              ⟨(some 31), none, .mov (.t 9)⟩,
              ⟨(some 32), none, .call .q (.f 80) [(.t 28), (.t 29), (.t 30), (.t 31)]⟩])
           (.cond (.t 32) (.seq (.reg none [
               ⟨(some 33), none, .mov (.t 6)⟩,
               ⟨(some 34), none, .mov (.t 9)⟩,
               ⟨(some 35), none, .lit 1 3 1 [(.int .i64 0)] [(0, 1, (.t 34))]⟩,
               ⟨(some 36), none, .app 1 3 8 true (.t 33) (.t 35)⟩,
               ⟨(some 6), none, .mov (.t 36)⟩])
            (.reg none [
              ⟨(some 8), none, .mov (.c (.bool true))⟩])) (.skip))))
         (.reg none [
           ⟨(some 26), none, .mov (.t 9)⟩,
           ⟨(some 27), none, .bin .add (.t 26) (.c (.int .i64 1))⟩,
           ⟨(some 9), none, .mov (.t 27)⟩]))))))
      (.seq (.reg none [
         ⟨(some 37), none, .mov (.t 8)⟩,
         ⟨(some 38), none, .un .not (.t 37)⟩])
      (.cond (.t 38) (.seq (.reg none [
          ⟨(some 39), none, .lit 1 3 0 [] []⟩,
          ⟨(some 4), none, .mov (.t 39)⟩,
          ⟨(some 5), none, .mov (.c (.bool false))⟩])
       (.ret)) (.skip))))))
    (.reg none [
      ⟨(some 18), none, .mov (.t 7)⟩,
      ⟨(some 19), none, .bin .add (.t 18) (.c (.int .i64 1))⟩,
      ⟨(some 7), none, .mov (.t 19)⟩]))))))
 (.seq (.reg none [
    ⟨(some 40), none, .mov (.t 6)⟩,
    ⟨(some 4), none, .mov (.t 40)⟩,
    ⟨(some 5), none, .mov (.c (.bool true))⟩])
 (.ret))))⟩
/-- A list of numbers in a block of its own that may be appended to. -/
structure IntsO (et lo : Nat) (H : Heap) (b : Nat) (so : Bool) (l : List Int) : Prop where
  ge : lo ≤ b
  len : l.length ≤ 1048576
  blk : H[b]? = some ⟨ints l, 1, et, true, so⟩
  rg : ∀ x ∈ l, RgI x
theorem IntsO.sl {et lo : Nat} {H : Heap} {b : Nat} {so : Bool} {l : List Int} (h : IntsO et lo H b so l) : SlR Co.int (vw 0 H) (sli b 0 l.length) l := ints_sl0 h.blk h.rg (by have := h.len; omega)
theorem IntsO.keep {et lo lo' : Nat} {H H' : Heap} {b : Nat} {so : Bool} {l : List Int} {xs : List Nat} (h : IntsO et lo H b so l) (hl : lo' ≤ lo) (hx : AgX xs H H') (hn : b ∉ xs) : IntsO et lo' H' b so l := ⟨Nat.le_trans hl h.ge, h.len, hx.get h.blk hn, h.rg⟩
theorem IntsO.lt {et lo : Nat} {H : Heap} {b : Nat} {so : Bool} {l : List Int} (h : IntsO et lo H b so l) : b < H.length := (List.getElem?_eq_some_iff.1 h.blk).1
theorem IntsO.nil {et lo : Nat} {H : Heap} (h : lo ≤ H.length) : IntsO et lo (H ++ [⟨[], 1, et, true, true⟩]) H.length true [] := ⟨h, by simp, get_new0 _ _, by simp⟩
theorem ints_app (a b : List Int) : ints a ++ ints b = ints (a ++ b) := by simp [ints]
theorem op_app_IK {F : Nat → Option IFn} {lo0 et bytes lo b : Nat} {kill so : Bool} {x y : Opd} {e : Env} {H : Heap} {v2 : Value} {l l2 : List Int} {K : Value → Heap → Prop}
    (hv : IntsO et lo H b so l) (hx : x.ev e = sli b 0 l.length) (hy : y.ev e = v2) (h2 : SlR Co.int (vw 0 H) v2 l2) (hlo0 : lo0 ≤ lo) (hl : l.length + l2.length ≤ 1048576) (hb : bytes ≤ 1048576)
    (k : ∀ H' b' so', AgX [b] H H' → (b' = b ∨ H.length ≤ b') → (kill = true → so' = so) → IntsO et lo H' b' so' (l ++ l2) → K (sli b' 0 (l ++ l2).length) H') : wpOp F lo0 (.app 1 et bytes kill x y) e H K := by
  by_cases hne : l2 = []
  · subst hne
    obtain ⟨_, a, rfl, _⟩ := h2
    refine op_app_zero _ _ _ _ _ hx hy ?_
    have := k H b so (AgX.refl _ _) (.inl rfl) (fun _ => rfl) (by rw [List.append_nil]; exact hv)
    rw [List.append_nil] at this
    exact this
  have hm : l2.length ≠ 0 := fun h => hne (List.eq_nil_of_length_eq_zero h)
  have hrg2 := sl_rg h2
  obtain ⟨b2, o2, rfl, hg⟩ := sl_intsJ h2 hne
  have hbytes : (l.length + l2.length) * bytes ≤ 1048576 * 1048576 := Nat.mul_le_mul (by omega) hb
  have hbl := hv.lt
  have hge := hv.ge
  refine op_app _ _ _ _ _ (b := ⟨b, 0, none⟩) (n := l.length) (c := l.length) (a := ⟨b2, o2, none⟩) (m := l2.length) (c' := l2.length) (ys := ints l2) (kb := ⟨ints l, 1, et, true, so⟩) hx hy hm hg hv.blk ⟨by show lo0 ≤ b; omega, rfl, rfl, rfl, rfl, by simp [ints], by omega, by omega⟩ ?_
  have hag : AgX [b] H (H.set b ⟨if kill then [] else ints l, 1, et, false, so && l.length == 0⟩ ++ ([⟨ints l ++ ints l2, 1, et, true, so && (l.length == 0 || kill)⟩] : Heap)) := (AgX.set H b _).trans (AgX.app [] _ _) (fun b h _ => h) (fun b h _ => by cases h)
  have hres := k _ H.length (so && (l.length == 0 || kill)) hag (.inr (Nat.le_refl _)) (fun h => by rw [h, Bool.or_true, Bool.and_true]) ?_
  · rw [List.length_append] at hres; exact hres
  · refine ⟨by omega, by rw [List.length_append]; omega, ?_, fun x hx => ?_⟩
    · have : H.length = (H.set b ⟨if kill then [] else ints l, 1, et, false, so && l.length == 0⟩).length := by rw [List.length_set]
      rw [ints_app] at hag ⊢
      rw [this, get_new0]
      rfl
    · rcases List.mem_append.1 hx with h | h
      · exact hv.rg x h
      · exact hrg2 x h
/-- One number is appended, out of a literal. -/
theorem op_app_I1 {F : Nat → Option IFn} {lo0 et bytes lo b : Nat} {kill so : Bool} {x y : Opd} {e : Env} {H : Heap} {l : List Int} {a : Int} {K : Value → Heap → Prop}
    (hv : IntsO et lo H b so l) (hx : x.ev e = sli b 0 l.length) (hy : y.ev e = sli H.length 0 1) (ha : RgI a) (hlo0 : lo0 ≤ lo) (hl : l.length < 1048576) (hb : bytes ≤ 1048576)
    (k : ∀ H' b' so', AgX [b] H H' → (b' = b ∨ H.length ≤ b') → (kill = true → so' = so) → IntsO et lo H' b' so' (l ++ [a]) → K (sli b' 0 (l ++ [a]).length) H') : wpOp F lo0 (.app 1 et bytes kill x y) e (H ++ [⟨[.int .i64 a], 1, et, true, true⟩]) K := by
  have hbl := hv.lt
  have h1 : SlR Co.int (vw 0 (H ++ [⟨[.int .i64 a], 1, et, true, true⟩])) (sli H.length 0 1) [a] := ints_sl0 (l := [a]) (get_new0 _ _) (fun x hx => by simp only [List.mem_singleton] at hx; subst hx; exact ha) (by simp)
  refine op_app_IK (hv.keep (Nat.le_refl _) (AgX.app [] _ _) (by simp)) hx hy h1 hlo0 (by simp; omega) hb fun H' b' so' q1 q2 q3 q4 => k H' b' so' ((AgX.app [] H _).trans q1 (fun _ h _ => by cases h) (fun _ h _ => h)) ?_ q3 q4
  rcases q2 with h | h
  · exact .inl h
  · exact .inr (by rw [List.length_append] at h; omega)
theorem doesL_at {n : Nat} {ls : List (Int × Int)} {l : List (TStep n)} {ts homes : List Int} {j : Nat} (hj : j < (allSL n l).length) (h : j < (doesL n (ls, l) ts homes).length) : (doesL n (ls, l) ts homes)[j] = firstH (doN n ls l ts homes j) := by
  have hja : j < (atL n ls (7, 7) l).length := by rw [atL_len, ← allSL_len]; exact hj
  have : doN n ls l ts homes j = doesB ls ts homes (shA (allSL n l)[j]) (stA ls (allSL n l)[j]) (atL n ls (7, 7) l)[j] := funext fun h => doN_eq hj hja
  rw [this]
  simp [doesL, doerV]
def LDoes (F : Nat → Option IFn) (f : Nat) : Prop := ∀ (H : Heap) (W n : Nat) (ls : List (Int × Int)) (l : List (TStep n)) (ts : List Int) (hw : Value) (homes : List Int), LookR H W n ls l ts → progB n (ls, l) = true → (Co.prog n).sm (ls, l) → SlR Co.int (vw 0 H) hw homes → homesP ls.length homes →
  ∃ w H', KC F f [ptr W 0, hw] H w H' ∧ ∃ b out, w = .tuple #[sli b 0 out.length, .bool (fitsB n (ls, l) ts homes)] ∧ AgX [] H H' ∧ IntsO 3 H.length H' b true out ∧ (fitsB n (ls, l) ts homes = true → out = doesL n (ls, l) ts homes)
theorem lDoes_ok {F : Nat → Option IFn} {f : Nat} (hf : F f = some c_lDoes) (gs : LStep F 80) : LDoes F f := by
  intro H W n ls l ts hw homes hL hP hsm rh hho
  obtain ⟨_, ha, rfl, _⟩ := id rh
  have hcnt : (allL n l).length ≤ 8 := progB_cnt hP hsm
  have hsl := allSL_len l
  have hdl := doesL_len (n := n) (p := (ls, l)) (ts := ts) (homes := homes)
  replace hdl : (doesL n (ls, l) ts homes).length = (allL n l).length := hdl
  refine KC.mk hf rfl ?_
  refine seq_reg ?_
  simp only [go_sem, binC]
  refine seq_reg ?_
  simp only [go_sem, binC]
  refine wpc_gen fun H1 hH1 => ?_
  have hx1 : AgX [] H H1 := hH1 ▸ AgX.app [] _ _
  have ho1 : IntsO 3 H.length H1 H.length true [] := hH1 ▸ IntsO.nil (Nat.le_refl _)
  clear hH1
  refine seq_assoc (seq_reg ?_)
  simp only [go_sem, binC]
  refine seq_block (wpc_loop ?_)
  suffices hh : ∀ (k j : Nat) (e : Env) (Hc : Heap) (b : Nat), j + k = (allSL n l).length → AgX [] H Hc → IntsO 3 H.length Hc b true ((doesL n (ls, l) ts homes).take j) → (∀ i (h : i < (doesL n (ls, l) ts homes).length), i < j → (doesL n (ls, l) ts homes)[i] ≠ -1) → e 0 = ptr W 0 → e 1 = .slice ha homes.length homes.length → e 6 = sli b 0 ((doesL n (ls, l) ts homes).take j).length → e 7 = .int .i64 j → Go.Proofs.YtbjeldblaclpnaaI.W F H.length _ e Hc _ from
    hh (allSL n l).length 0 _ H1 H.length (by omega) hx1 (by simpa using ho1) (fun i h h' => by omega) (by simp only [go_sem, binC]) (by simp only [go_sem, binC]) (by (simp only [go_sem, binC]) <;> rfl) (by (simp only [go_sem, binC]) <;> rfl)
  intro k
  induction k with
  | zero =>
    intro j e Hc b hj hxc hoc hne e0 e1 e6 e7
    obtain ⟨lv, sv, tw, li, la, se, bv, osv, hW, r1, r2, r3, r4, r5, r6⟩ := (hL.mono hxc).ex
    obtain ⟨_, lia, rfl, _⟩ := id r3
    refine lp_step ?_
    refine seq_assoc (seq_reg ?_)
    simp only [go_sem, binC, e0, e7, gc_of hW, inBlk_some]
    refine seq_cond (t := false) (by simp only [go_sem, binC]; rw [decide_eq_false (by omega)]) ?_
    simp only [go_sem, binC]
    refine seq_exit ?_
    simp only [go_sem, binC, thenX_e, out_e, thenX_n]
    refine seq_reg ?_
    simp only [go_sem, binC, e6]
    rw [List.take_of_length_le (by omega)] at hoc ⊢
    have hft : fitsB n (ls, l) ts homes = true := by
      unfold fitsB
      rw [Bool.not_eq_true', decide_eq_false_iff_not]
      intro hm
      obtain ⟨i, hi, h1⟩ := List.getElem_of_mem hm
      exact hne i hi (by omega) h1
    refine wpc_ret ⟨Or.inr rfl, .tuple #[sli b 0 (doesL n (ls, l) ts homes).length, .bool true], by simp [resV, resL, res1, putE_get, notT, e6, sli], b, _, by rw [hft], hxc, hoc, fun _ => rfl⟩
  | succ k ih =>
    intro j e Hc b hj hxc hoc hne e0 e1 e6 e7
    have hjs : j < (allSL n l).length := by omega
    have hjd : j < (doesL n (ls, l) ts homes).length := by omega
    have hw1 : IntKind.i64.wrap ((j : Int) + 1) = ((j + 1 : Nat) : Int) := by rw [wrap_id (by omega) (by omega)]; omega
    have hat := doesL_at (ts := ts) (homes := homes) hjs hjd
    have htk : (doesL n (ls, l) ts homes).take (j + 1) = (doesL n (ls, l) ts homes).take j ++ [firstH (doN n ls l ts homes j)] := by
      rw [List.take_add_one, List.getElem?_eq_getElem hjd, hat]; rfl
    have hlt : ((doesL n (ls, l) ts homes).take j).length ≤ 8 := by rw [List.length_take]; omega
    have hcall : ∀ {HH : Heap} {h : Nat}, AgX [] H HH → h ≤ 2 → QC F 80 [ptr W 0, .slice ha homes.length homes.length, .int .i64 j, .int .i64 h] HH (.bool (doN n ls l ts homes j h)) := fun {HH h} hx hh => gs HH W n ls l ts _ homes j h (hL.mono hx) hP (rh.mono (agx_sub hx)) hho hjs (by omega) (by omega)
    generalize hPd : doN n ls l ts homes j = P at *
    obtain ⟨lv, sv, tw, li, la, se, bv, osv, hW, r1, r2, r3, r4, r5, r6⟩ := (hL.mono hxc).ex
    obtain ⟨_, lia, rfl, _⟩ := id r3
    refine lp_step ?_
    refine seq_assoc (seq_reg ?_)
    simp only [go_sem, binC, e0, e7, gc_of hW, inBlk_some]
    refine seq_cond (t := true) (by simp only [go_sem, binC]; rw [decide_eq_true (by omega)]) ?_
    simp only [go_sem, binC]
    refine seq_skip (seq_block (seq_reg ?_))
    simp only [go_sem, binC]
    refine seq_assoc (seq_reg ?_)
    simp only [go_sem, binC]
    refine seq_block (wpc_loop ?_)
    suffices hh : ∀ (m i : Nat) (e : Env), i + m = 3 → (∀ q : Nat, q < i → P q = false) → e 0 = ptr W 0 → e 1 = .slice ha homes.length homes.length → e 6 = sli b 0 ((doesL n (ls, l) ts homes).take j).length → e 7 = .int .i64 j → e 8 = .bool false → e 9 = .int .i64 i → Go.Proofs.YtbjeldblaclpnaaI.W F H.length _ e Hc _ from
      hh 3 0 _ rfl (fun q h => by omega) (by simp only [go_sem, binC, e0]) (by simp only [go_sem, binC, e1]) (by simp only [go_sem, binC, e6]) (by simp only [go_sem, binC, e7]) (by simp only [go_sem, binC]) (by (simp only [go_sem, binC]) <;> rfl)
    clear e0 e1 e6 e7
    intro m
    induction m with
    | zero =>
      intro i e hi hPf e0 e1 e6 e7 e8 e9
      obtain rfl : i = 3 := by omega
      have hd3 : decide (((3 : Nat) : Int) < 3) = false := rfl
      have hfirst : firstH P = -1 := by
        have p0 := hPf 0 (by omega)
        have p1 := hPf 1 (by omega)
        have p2 := hPf 2 (by omega)
        simp only [Int.natCast_zero, Int.natCast_one] at p0 p1
        unfold firstH
        rw [p0, p1, show P 2 = false from p2]
        rfl
      have hft : fitsB n (ls, l) ts homes = false := by
        unfold fitsB
        rw [Bool.not_eq_false', decide_eq_true_eq]
        have := List.getElem_mem hjd
        rw [hat, hfirst] at this
        exact this
      refine lp_step ?_
      refine seq_assoc (seq_reg ?_)
      simp only [go_sem, binC, e9, hd3, e8]
      refine seq_cond (t := false) (by simp only [go_sem, binC]) ?_
      simp only [go_sem, binC]
      refine seq_exit ?_
      simp only [go_sem, binC, thenX_e, out_e, thenX_n]
      refine seq_reg ?_
      simp only [go_sem, binC, e8]
      refine wpc_cond (t := true) rfl ?_
      simp only [go_sem, binC]
      refine seq_reg ?_
      simp only [go_sem, binC]
      refine wpc_ret ?_
      simp only [go_sem, binC, out_r, thenX_r]
      exact ⟨Or.inr rfl, .tuple #[sli Hc.length 0 0, .bool false], by simp [resV, resL, res1, putE_get, notT, sli], Hc.length, [], by rw [hft]; rfl, hxc.tr (AgX.app [] _ _), IntsO.nil hxc.1, fun h => by rw [hft] at h; cases h⟩
    | succ m ih2 =>
      intro i e hi hPf e0 e1 e6 e7 e8 e9
      have hdi : decide ((i : Int) < 3) = true := decide_eq_true (by omega)
      have hw2 : IntKind.i64.wrap ((i : Int) + 1) = ((i + 1 : Nat) : Int) := by rw [wrap_id (by omega) (by omega)]; omega
      refine lp_step ?_
      refine seq_assoc (seq_reg ?_)
      simp only [go_sem, binC, e9, hdi, e8]
      refine seq_cond (t := true) (by simp only [go_sem, binC]) ?_
      simp only [go_sem, binC]
      refine seq_skip (seq_block (seq_reg ?_))
      simp only [go_sem, binC, e0, e1, e7, e9]
      refine op_callQ (by simp only [go_sem, binC, e0, e1, e7, e9]; exact hcall hxc (by omega)) ?_
      cases hp : P i with
      | false =>
        simp only [go_sem, binC]
        refine wpc_cond (t := false) rfl ?_
        simp only [go_sem, binC]
        refine wpc_skip ?_
        simp only [go_sem, binC, out_n, thenX_n]
        refine wpc_reg ?_
        simp only [go_sem, binC, e9, hw2]
        simp only [go_sem, binC, thenX_n]
        refine ih2 (i + 1) _ (by omega) (fun q hq => ?_) (by simp only [go_sem, binC, e0]) (by simp only [go_sem, binC, e1]) (by simp only [go_sem, binC, e6]) (by simp only [go_sem, binC, e7]) (by simp only [go_sem, binC, e8]) (by simp only [go_sem, binC])
        by_cases hqi : q = i
        · subst hqi; exact hp
        · exact hPf q (by omega)
      | true =>
        have hfirst : firstH P = i := by
          have hi3 : i = 0 ∨ i = 1 ∨ i = 2 := by omega
          unfold firstH
          rcases hi3 with rfl | rfl | rfl
          · rw [if_pos (by simpa using hp)]; rfl
          · have p0 := hPf 0 (by omega)
            simp only [Int.natCast_zero] at p0
            rw [if_neg (by rw [p0]; simp), if_pos (by simpa using hp)]; rfl
          · have p0 := hPf 0 (by omega)
            have p1 := hPf 1 (by omega)
            simp only [Int.natCast_zero, Int.natCast_one] at p0 p1
            rw [if_neg (by rw [p0]; simp), if_neg (by rw [p1]; simp), if_pos (show P 2 = true from hp)]; rfl
        rw [hfirst] at htk hat
        simp only [go_sem, binC]
        refine wpc_cond (t := true) rfl ?_
        simp only [go_sem, binC]
        refine seq_reg ?_
        simp only [go_sem, binC, e6, e9]
        refine op_app_I1 (kill := true) (a := (i : Int)) hoc (by simp only [go_sem, binC, e6]) (by (simp only [go_sem, binC]) <;> rfl) ⟨by omega, by omega⟩ (Nat.le_refl _) (by omega) (by omega) fun H2 b2 so2 hx2 hb2 hso2 ho2 => ?_
        rw [hso2 rfl] at ho2
        have hoge := hoc.ge
        have hxc2 : AgX [] H H2 := hxc.trans hx2 (fun _ h _ => h) (fun b' h1 h2 => by simp only [List.mem_singleton] at h1; omega)
        simp only [go_sem, binC]
        refine wpc_reg ?_
        simp only [go_sem, binC, out_n, thenX_n]
        refine wpc_reg ?_
        simp only [go_sem, binC, e9, hw2]
        simp only [go_sem, binC, thenX_n]
        refine lp_step ?_
        refine seq_assoc (seq_reg ?_)
        rcases Bool.eq_false_or_eq_true (decide (((i + 1 : Nat) : Int) < 3)) with hd | hd
        all_goals
          simp only [go_sem, binC, hd]
          refine seq_cond (t := false) (by simp only [go_sem, binC]) ?_
          simp only [go_sem, binC]
          refine seq_exit ?_
          simp only [go_sem, binC, thenX_e, out_e, thenX_n]
          refine seq_reg ?_
          simp only [go_sem, binC]
          refine wpc_cond (t := false) rfl ?_
          simp only [go_sem, binC]
          refine wpc_skip ?_
          simp only [go_sem, binC, out_n, thenX_n]
          refine wpc_reg ?_
          simp only [go_sem, binC, e7, hw1]
          simp only [go_sem, binC, thenX_n]
          refine ih (j + 1) _ H2 b2 (by omega) hxc2 (by rw [htk]; exact ho2) (fun q hq hqj => ?_) (by simp only [go_sem, binC, e0]) (by simp only [go_sem, binC, e1]) (by simp only [go_sem, binC]; rw [htk]) (by simp only [go_sem, binC])
          by_cases hqe : q = j
          · subst hqe
            rw [hat]
            omega
          · exact hne q hq (by omega)
end Go.Proofs.YtbjeldblaclpnaaI
end
section
/- The first plan (the reference's). -/
set_option linter.unusedVariables false
set_option linter.unusedSimpArgs false
namespace Go.Proofs.YtbjeldblaclpnaaI
open Go Go.RowKit
def c_sTypeOk : IFn := ⟨1, 16, [.t 2],
 .seq (.reg none [
    ⟨(some 1), none, .box (.t 0)⟩,
    ⟨(some 2), none, .mov (.c (.bool false))⟩])
 (.seq (.reg none [
    ⟨(some 6), none, .load true 2 (.t 1)⟩,
    ⟨(some 7), none, .call .q (.f 59) [(.t 6)]⟩,
    ⟨(some 5), none, .mov (.t 7)⟩,
    ⟨(some 8), none, .ext (.t 5) 0⟩,
    ⟨(some 9), none, .ext (.t 5) 1⟩,
    ⟨(some 3), none, .mov (.t 8)⟩,
    ⟨(some 4), none, .mov (.t 9)⟩])
 (.seq (.reg none [
    ⟨(some 10), none, .load true 2 (.t 1)⟩,
    ⟨(some 11), none, .call .q (.f 60) [(.t 10)]⟩,
    ⟨(some 12), none, .mov (.t 11)⟩,
    ⟨(some 13), (some (12, true)), .mov (.t 4)⟩,
    ⟨(some 14), (some (12, true)), .un .not (.t 13)⟩,
    ⟨(some 15), none, .pick (.t 12) (.t 14) (.c (.bool false))⟩,
    ⟨(some 2), none, .mov (.t 15)⟩])
 (.ret)))⟩
def c_lFind : IFn := ⟨2, 59, [.cell true 3 4, .t 5],
 .seq (.reg none [
    ⟨(some 4), none, .new [(.slice none 0 0), (.slice none 0 0), (.slice none 0 0)]⟩,
    ⟨(some 5), none, .mov (.c (.bool false))⟩])
 (.seq (.seq (.reg none [
     ⟨(some 11), none, .mov (.t 1)⟩,
     ⟨(some 12), none, .len (.t 11)⟩,
     ⟨(some 13), none, .mov (.t 0)⟩,
     ⟨(some 14), none, .nilck (.t 13)⟩,
     ⟨(some 15), none, .fad 0 (.t 14)⟩,
     ⟨(some 16), none, .fad 0 (.t 15)⟩,
     ⟨(some 17), none, .load false 1 (.t 16)⟩,
     ⟨(some 18), none, .len (.t 17)⟩,
     ⟨(some 19), none, .bin .eql (.t 12) (.t 18)⟩])
  (.cond (.t 19) (.seq (.reg none [
      ⟨(some 21), none, .mov (.t 0)⟩,
      ⟨(some 22), none, .mov (.t 1)⟩,
      ⟨(some 23), none, .call .k (.f 97) [(.t 21), (.t 22)]⟩,
      ⟨(some 20), none, .mov (.t 23)⟩,
      ⟨(some 24), none, .ext (.t 20) 0⟩,
      ⟨(some 25), none, .ext (.t 20) 1⟩,
      ⟨(some 6), none, .mov (.t 24)⟩,
      ⟨(some 7), none, .mov (.t 25)⟩])
   (.seq (.reg none [
      ⟨(some 26), none, .lit 1 3 0 [] []⟩,
      ⟨(some 27), none, .mov (.t 0)⟩,
      ⟨(some 28), none, .nilck (.t 27)⟩,
      ⟨(some 29), none, .fad 2 (.t 28)⟩,
      ⟨(some 30), none, .load false 1 (.t 29)⟩,
      ⟨(some 31), none, .app 1 3 8 true (.t 26) (.t 30)⟩,
      ⟨(some 32), none, .mov (.t 1)⟩,
      ⟨(some 33), none, .mov (.t 6)⟩,
      ⟨(some 34), none, .build [(.slice none 0 0), (.slice none 0 0), (.slice none 0 0)] [(0, 1, (.t 31)), (1, 1, (.t 32)), (2, 1, (.t 33))]⟩,
      ⟨(some 35), none, .mov (.t 7)⟩,
      ⟨none, none, .store 3 (.t 4) (.t 34)⟩,
      ⟨(some 5), none, .mov (.t 35)⟩])
   (.ret))) (.skip)))
 (.seq (.seq (.reg none [
     ⟨(some 8), none, .mov (.c (.int .i64 0))⟩])
  (.block 0 (.loop (.seq (.seq (.reg none [
        ⟨(some 36), none, .mov (.t 8)⟩,
        ⟨(some 37), none, .bin .lss (.t 36) (.c (.int .i64 3))⟩])
     (.cond (.t 37) (.skip) (.exit 0)))
    (.seq (.block 1 (.seq (.reg none [
         ⟨(some 40), none, .mov (.t 0)⟩,
         ⟨(some 41), none, .mov (.t 1)⟩,
         ⟨(some 42), none, .len (.t 41)⟩,
         ⟨(some 43), none, .mov (.t 8)⟩,
         ⟨(some 44), none, .call .q (.f 78) [(.t 40), (.t 42), (.t 43)]⟩])
      (.cond (.t 44) (.seq (.reg none [
          ⟨(some 46), none, .mov (.t 0)⟩,
          ⟨(some 47), none, .lit 1 3 0 [] []⟩,
          ⟨(some 48), none, .mov (.t 1)⟩,
          ⟨(some 49), none, .app 1 3 8 true (.t 47) (.t 48)⟩,
          ⟨(some 50), none, .mov (.t 8)⟩,
          ⟨(some 51), none, .lit 1 3 1 [(.int .i64 0)] [(0, 1, (.t 50))]⟩,
          ⟨(some 52), none, .app 1 3 8 true (.t 49) (.t 51)⟩,
          ⟨(some 53), none, .call .k (.f 51) [(.t 46), (.t 52)]⟩,
          ⟨(some 45), none, .mov (.t 53)⟩,
          ⟨(some 54), none, .ext (.t 45) 0⟩,
          ⟨(some 55), none, .ext (.t 45) 1⟩,
          ⟨(some 9), none, .new [(.slice none 0 0), (.slice none 0 0), (.slice none 0 0)]⟩,
          ⟨none, none, .store 3 (.t 9) (.t 54)⟩,
          ⟨(some 10), none, .mov (.t 55)⟩])
       (.seq (.reg none [
          ⟨(some 56), none, .mov (.t 10)⟩])
       (.cond (.t 56) (.seq (.reg none [
           ⟨(some 57), none, .load true 3 (.t 9)⟩,
           ⟨none, none, .store 3 (.t 4) (.t 57)⟩,
           ⟨(some 5), none, .mov (.c (.bool true))⟩])
        (.ret)) (.skip)))) (.skip))))
    (.reg none [
      ⟨(some 38), none, .mov (.t 8)⟩,
      ⟨(some 39), none, .bin .add (.t 38) (.c (.int .i64 1))⟩,
      ⟨(some 8), none, .mov (.t 39)⟩]))))))
 (.seq (.reg none [
    ⟨(some 58), none, .build [(.slice none 0 0), (.slice none 0 0), (.slice none 0 0)] []⟩,
    ⟨none, none, .store 3 (.t 4) (.t 58)⟩,
    ⟨(some 5), none, .mov (.c (.bool false))⟩])
 (.ret))))⟩
def c_sPlanFind : IFn := ⟨2, 29, [.cell true 3 4, .t 5],
 .seq (.reg none [
    ⟨(some 2), none, .box (.t 0)⟩,
    ⟨(some 4), none, .new [(.slice none 0 0), (.slice none 0 0), (.slice none 0 0)]⟩,
    ⟨(some 5), none, .mov (.c (.bool false))⟩])
 (.seq (.seq (.reg none [
     ⟨(some 8), none, .load true 2 (.t 2)⟩,
     ⟨(some 9), none, .call .q (.f 18) [(.t 8)]⟩,
     ⟨(some 10), none, .un .not (.t 9)⟩,
     ⟨(some 11), none, .mov (.t 10)⟩,
     ⟨(some 12), (some (11, false)), .mov (.t 1)⟩,
     ⟨(some 13), (some (11, false)), .call .q (.f 49) [(.t 12)]⟩,
     ⟨(some 14), (some (11, false)), .un .not (.t 13)⟩,
     ⟨(some 15), none, .pick (.t 11) (.c (.bool true)) (.t 14)⟩])
  (.cond (.t 15) (.seq (.reg none [
      ⟨(some 16), none, .build [(.slice none 0 0), (.slice none 0 0), (.slice none 0 0)] []⟩,
      ⟨none, none, .store 3 (.t 4) (.t 16)⟩,
      ⟨(some 5), none, .mov (.c (.bool false))⟩])
   (.ret)) (.skip)))
 (.seq (.reg none [
    ⟨(some 18), none, .load true 2 (.t 2)⟩,
    ⟨(some 19), none, .mov (.t 1)⟩,
    ⟨(some 20), none, .call .n (.f 50) [(.t 18), (.t 19)]⟩,
    ⟨(some 21), none, .lit 1 3 0 [] []⟩,
    ⟨(some 22), none, .call .k (.f 51) [(.t 20), (.t 21)]⟩,
    ⟨(some 17), none, .mov (.t 22)⟩,
    ⟨(some 23), none, .ext (.t 17) 0⟩,
    ⟨(some 24), none, .ext (.t 17) 1⟩,
    ⟨(some 6), none, .new [(.slice none 0 0), (.slice none 0 0), (.slice none 0 0)]⟩,
    ⟨none, none, .store 3 (.t 6) (.t 23)⟩,
    ⟨(some 7), none, .mov (.t 24)⟩])
 (.seq (.seq (.reg none [
     ⟨(some 25), none, .mov (.t 7)⟩,
     ⟨(some 26), none, .un .not (.t 25)⟩])
  (.cond (.t 26) (.seq (.reg none [
      ⟨(some 27), none, .build [(.slice none 0 0), (.slice none 0 0), (.slice none 0 0)] []⟩,
      ⟨none, none, .store 3 (.t 4) (.t 27)⟩,
      ⟨(some 5), none, .mov (.c (.bool false))⟩])
   (.ret)) (.skip)))
 (.seq (.reg none [
    ⟨(some 28), none, .load true 3 (.t 6)⟩,
    ⟨none, none, .store 3 (.t 4) (.t 28)⟩,
    ⟨(some 5), none, .mov (.c (.bool true))⟩])
 (.ret)))))⟩
theorem sTypeOk_ok {F : Nat → Option IFn} {f : Nat} (hf : F f = some c_sTypeOk) (gw : WhyV F 59) (gp : ProgOk F 60) : TypeP F f := by
  intro H n lv sv ls l r1 r2 hsm
  have olv : one lv = true := by obtain ⟨_, a, rfl, _⟩ := r1; rfl
  have osv : one sv = true := by obtain ⟨_, a, rfl, _⟩ := r2; rfl
  refine QC.mk hf rfl ?_
  refine seq_reg ?_
  simp only [go_sem, binC, olv, osv]
  refine wpc_gen fun H1 hH1 => ?_
  have hx1 : AgX [] H H1 := hH1 ▸ AgX.app [] _ _
  have hb : H1[H.length]? = some ⟨[lv, sv], 0, 0, false, true⟩ := hH1 ▸ get_new0 _ _
  clear hH1
  have hS := agx_sub hx1
  refine seq_reg ?_
  simp only [go_sem, binC, gc_of hb, inBlk_some, olv, osv]
  refine op_callQ (by simp only [go_sem, binC]; exact gw H1 n _ _ ls l (r1.mono hS) (r2.mono hS) hsm) ?_
  simp only [go_sem, binC]
  refine seq_reg ?_
  simp only [go_sem, binC, gc_of hb, inBlk_some, olv, osv]
  refine op_callQ (by simp only [go_sem, binC]; exact gp H1 n _ (ls, l) (prog_rd (r1.mono hS) (r2.mono hS)) hsm) ?_
  cases hP : progB n (ls, l) with
  | false =>
    simp only [go_sem, binC]
    refine wpc_ret ⟨Or.inr rfl, .bool false, (by (simp only [go_sem, binC]) <;> rfl), ?_, rfl⟩
    refine congrArg _ ?_
    show _ = typeP n (ls, l)
    unfold typeP
    rw [hP]
    rfl
  | true =>
    simp only [go_sem, binC]
    refine wpc_ret ⟨Or.inr rfl, .bool (!(whyV n (ls, l)).2), (by (simp only [go_sem, binC]) <;> rfl), ?_, rfl⟩
    refine congrArg _ ?_
    show _ = typeP n (ls, l)
    unfold typeP
    rw [hP]
    rfl
/-- All homes that begin so, number by number. -/
def extL (ls : List (Int × Int)) (ts : List Int) : Nat → List Int → List (List Int)
  | 0, homes => [homes]
  | m + 1, homes => (hostsL (hmB ls ts homes.length) 3).flatMap fun h => extL ls ts m (homes ++ [h])
theorem flatMap_same {α β : Type} {f g : α → List β} : ∀ l : List α, (∀ a ∈ l, f a = g a) → l.flatMap f = l.flatMap g
  | [], _ => rfl
  | a :: l, h => by rw [List.flatMap_cons, List.flatMap_cons, h a List.mem_cons_self, flatMap_same l fun a ha => h a (List.mem_cons_of_mem _ ha)]
theorem extL_hm {ls : List (Int × Int)} {ts : List Int} : ∀ (m v : Nat), (hmL ls ts v).flatMap (extL ls ts m) = hmL ls ts (v + m)
  | 0, v => by
    show (hmL ls ts v).flatMap (fun l => [l]) = _
    rw [List.flatMap_singleton']
    rfl
  | m + 1, v => by
    have h1 : (hmL ls ts v).flatMap (extL ls ts (m + 1)) = (hmL ls ts v).flatMap fun l => ((hostsL (hmB ls ts v) 3).map fun h => l ++ [h]).flatMap (extL ls ts m) := flatMap_same _ fun l hl => by
      have := (hmL_el v l hl).1
      show (hostsL (hmB ls ts l.length) 3).flatMap (fun h => extL ls ts m (l ++ [h])) = _
      rw [this, List.flatMap_map]
    rw [h1, ← List.flatMap_assoc]
    have := extL_hm (ls := ls) (ts := ts) m (v + 1)
    rw [show v + (m + 1) = v + 1 + m by omega, ← this]
    rfl
theorem extL_nil {ls : List (Int × Int)} {ts : List Int} (m : Nat) : extL ls ts m [] = hmL ls ts m := by
  have := extL_hm (ls := ls) (ts := ts) m 0
  rw [Nat.zero_add] at this
  rw [← this]
  simp [hmL]
def PlanX (lo b : Nat) (H : Heap) (tv hv dv : Value) (ts : List Int) (o : Option (List Int)) (d : List Int → List Int) : Prop := match o with
  | none => one tv = true ∧ one hv = true ∧ one dv = true
  | some homes => ∃ b1 b2 b3, tv = sli b1 0 ts.length ∧ hv = sli b2 0 homes.length ∧ dv = sli b3 0 (d homes).length ∧ IntsO 3 lo H b1 true ts ∧ IntsO 3 0 H b2 true homes ∧ IntsO 3 lo H b3 true (d homes) ∧ (b2 = b ∨ lo ≤ b2) ∧ b1 ≠ b2 ∧ b1 ≠ b3 ∧ b2 ≠ b3
theorem PlanX.one {lo b : Nat} {H : Heap} {tv hv dv : Value} {ts : List Int} {o : Option (List Int)} {d : List Int → List Int} (h : PlanX lo b H tv hv dv ts o d) : Go.Proofs.YtbjeldblaclpnaaI.one tv = true ∧ Go.Proofs.YtbjeldblaclpnaaI.one hv = true ∧ Go.Proofs.YtbjeldblaclpnaaI.one dv = true := by
  cases o with
  | none => exact h
  | some homes =>
    obtain ⟨b1, b2, b3, rfl, rfl, rfl, _⟩ := h
    exact ⟨rfl, rfl, rfl⟩
theorem PlanX.keep {lo lo' b b' : Nat} {H H' : Heap} {tv hv dv : Value} {ts : List Int} {o : Option (List Int)} {d : List Int → List Int} {xs : List Nat} (h : PlanX lo b H tv hv dv ts o d) (hl : lo' ≤ lo) (hx : AgX xs H H') (hn : ∀ c, c = b ∨ lo ≤ c → c ∉ xs) (hb : b = b' ∨ lo' ≤ b) : PlanX lo' b' H' tv hv dv ts o d := by
  cases o with
  | none => exact h
  | some homes =>
    obtain ⟨b1, b2, b3, h1, h2, h3, q1, q2, q3, q4, q5⟩ := h
    refine ⟨b1, b2, b3, h1, h2, h3, q1.keep hl hx (hn _ (.inr q1.ge)), q2.keep (Nat.le_refl _) hx (hn _ q4), q3.keep hl hx (hn _ (.inr q3.ge)), ?_, q5⟩
    rcases q4 with h | h
    · subst h
      rcases hb with h | h
      · exact .inl h
      · exact .inr h
    · exact .inr (by omega)
def LFind (F : Nat → Option IFn) (f m : Nat) : Prop := ∀ (lo : Nat) (H : Heap) (W n : Nat) (ls : List (Int × Int)) (l : List (TStep n)) (ts : List Int) (b : Nat) (homes : List Int), m + homes.length = ls.length → LookR H W n ls l ts → progB n (ls, l) = true → (Co.prog n).sm (ls, l) → trP ts → IntsO 3 lo H b true homes → (∀ x ∈ homes, 0 ≤ x ∧ x ≤ 2) →
  ∃ w H', KC F f [ptr W 0, sli b 0 homes.length] H w H' ∧ ∃ tv hv dv, w = .tuple #[.agg #[tv, hv, dv], .bool ((extL ls ts m homes).find? (fitsB n (ls, l) ts)).isSome] ∧ AgX [] H H' ∧ PlanX H.length b H' tv hv dv ts ((extL ls ts m homes).find? (fitsB n (ls, l) ts)) (doesL n (ls, l) ts)
theorem lFind_ok {F : Nat → Option IFn} {f m : Nat} (hf : F f = some c_lFind) (gh : LHome F 78) (gd : LDoes F 97) (ih : ∀ m', m = m' + 1 → LFind F 51 m') : LFind F f m := by
  intro lo H W n ls l ts b homes hm hL hP hsm htr hI hho
  have hlab : ls.all labB = true := progB_lab hP
  have hls4 : ls.length ≤ 4 := progB_len hP
  have hts : ts.length = 3 := htr.1
  have hblt := hI.lt
  refine KC.mk hf rfl ?_
  refine seq_reg ?_
  simp only [go_sem, binC]
  refine wpc_gen fun H1 hH1 => ?_
  have hx1 : AgX [] H H1 := hH1 ▸ AgX.app [] _ _
  have hb4 : H1[H.length]? = some ⟨[nilS, nilS, nilS], 0, 0, false, true⟩ := hH1 ▸ get_new0 _ _
  clear hH1
  have hl1 := (List.getElem?_eq_some_iff.1 hb4).1
  have hL1 := hL.mono hx1
  obtain ⟨lv, sv, tw, li, la, se, bv, osv, hW, r1, r2, r3, r4, r5, r6⟩ := hL1.ex
  obtain ⟨_, lva, rfl, _⟩ := id r1
  obtain ⟨_, ta, rfl, _⟩ := id r2
  refine seq_assoc (seq_reg ?_)
  simp only [go_sem, binC, gc_of hW, inBlk_some, sli]
  cases m with
  | zero =>
    have hlen : homes.length = ls.length := by omega
    have hho' : homesP ls.length homes := ⟨hlen, hho⟩
    rw [hlen]
    refine seq_cond (t := true) (by simp only [go_sem, binC]; simp) ?_
    simp only [go_sem, binC]
    refine seq_assoc (seq_reg ?_)
    simp only [go_sem, binC]
    obtain ⟨w, H2, k2, b3, out, rfl, hx2, o3, hout⟩ := gd H1 W n ls l ts (sli b 0 homes.length) homes hL1 hP hsm (hI.sl.mono (agx_sub hx1)) hho'
    rw [hlen] at k2
    refine op_callK (by simp only [go_sem, binC]; exact k2) ?_
    simp only [go_sem, binC]
    have hx02 := hx1.tr hx2
    have hW2 := hx2.get hW (by simp)
    have hb42 := hx2.get hb4 (by simp)
    refine seq_assoc (seq_reg ?_)
    simp only [go_sem, binC, sli]
    generalize hH3 : H2 ++ [(⟨[], 1, 3, true, true⟩ : Blk)] = H3
    have hx3 : AgX [] H2 H3 := hH3 ▸ AgX.app [] _ _
    have oI3 : IntsO 3 H2.length H3 H2.length true [] := hH3 ▸ IntsO.nil (Nat.le_refl _)
    clear hH3
    have hW3 := hx3.get hW2 (by simp)
    have hx03 := hx02.tr hx3
    simp only [go_sem, binC, gc_of hW3, inBlk_some]
    have hl2 := hx2.1
    refine op_app_IK (kill := true) oI3 (by (simp only [go_sem, binC]) <;> rfl) (by (simp only [go_sem, binC]) <;> rfl) (r2.mono (agx_sub (hx2.tr hx3))) (by omega) (by simp; omega) (by omega) fun H4 b4 so4 hx4 hb4' hso4 o4 => ?_
    rw [hso4 rfl, List.nil_append] at o4
    have hx04 : AgX [] H H4 := hx03.trans hx4 (fun _ h _ => h) (fun b' h1 h2 => by simp only [List.mem_singleton] at h1; omega)
    have hx14 : AgX [] H1 H4 := (hx2.tr hx3).trans hx4 (fun _ h _ => h) (fun b' h1 h2 => by simp only [List.mem_singleton] at h1; omega)
    have hb44 := hx14.get hb4 (by simp)
    have hb44l := (List.getElem?_eq_some_iff.1 hb44).1
    have hl3 := hx3.1
    have hl4 := hx4.1
    have o34 : IntsO 3 H1.length H4 b3 true out := (o3.keep (Nat.le_refl _) hx3 (by simp)).keep (Nat.le_refl _) hx4 (by have := o3.lt; simp; omega)
    rw [List.nil_append]
    simp only [go_sem, binC, hb44, sli]
    have hxs : AgX [H.length] H4 (H4.set H.length ⟨[sli b4 0 ts.length, sli b 0 ls.length, sli b3 0 out.length], 0, 0, false, true⟩) := AgX.set _ _ _
    have hb3l := o3.lt
    have hb3g := o3.ge
    have hb4g := o4.ge
    have oIf := (hI.keep (Nat.zero_le _) hx04 (by simp)).keep (Nat.le_refl _) hxs (by simp; omega)
    refine seq_ret ⟨Or.inr rfl, .tuple #[.agg #[sli b4 0 ts.length, sli b 0 ls.length, sli b3 0 out.length], .bool (fitsB n (ls, l) ts homes)], ?_, sli b4 0 ts.length, sli b 0 ls.length, sli b3 0 out.length, ?_, hx04.setN (by omega) _, ?_⟩
    · simp [resV, resL, res1, putE_get, notT, ptr, gc_set hb44l, inBlk_some, valOf, sli]
    · simp only [extL, List.find?_cons, List.find?_nil]
      cases fitsB n (ls, l) ts homes <;> rfl
    · simp only [extL, List.find?_cons, List.find?_nil]
      cases hft : fitsB n (ls, l) ts homes with
      | false => exact ⟨rfl, rfl, rfl⟩
      | true =>
        have hd := hout hft
        subst hd
        exact ⟨b4, b, b3, rfl, by rw [hlen], rfl, (o4.keep (by omega) hxs (by simp only [List.mem_singleton]; omega)), oIf, (o34.keep (by omega) hxs (by simp only [List.mem_singleton]; omega)), .inl rfl, by omega, by omega, by omega⟩
  | succ m =>
    have hlen : homes.length < ls.length := by omega
    have hne : ¬ ((homes.length : Int) = ls.length) := by omega
    refine seq_cond (t := false) (by simp only [go_sem, binC]; rw [beq_f hne]) ?_
    simp only [go_sem, binC]
    refine seq_skip (seq_assoc (seq_reg ?_))
    simp only [go_sem, binC]
    refine seq_block (wpc_loop ?_)
    have hsucc : (extL ls ts (m + 1) homes) = (hostsL (hmB ls ts homes.length) 3).flatMap fun h => extL ls ts m (homes ++ [h]) := rfl
    generalize hPd : hmB ls ts homes.length = P at *
    rw [hsucc]
    have hrest : ∀ i : Nat, i < 3 → ((([0, 1, 2] : List Int).drop i).filter P).flatMap (fun h => extL ls ts m (homes ++ [h])) = (if P i = true then extL ls ts m (homes ++ [(i : Int)]) else []) ++ ((([0, 1, 2] : List Int).drop (i + 1)).filter P).flatMap (fun h => extL ls ts m (homes ++ [h])) := fun i hi => by
      have hi3 : i = 0 ∨ i = 1 ∨ i = 2 := by omega
      rcases hi3 with rfl | rfl | rfl <;> simp only [List.drop_zero, List.drop_succ_cons, List.filter_cons, List.filter_nil] <;> split <;> simp_all
    suffices hh : ∀ (k i : Nat) (e : Env) (Hc : Heap), i + k = 3 → AgX [] H1 Hc → ((hostsL P 3).flatMap fun h => extL ls ts m (homes ++ [h])).find? (fitsB n (ls, l) ts) = (((([0, 1, 2] : List Int).drop i).filter P).flatMap (fun h => extL ls ts m (homes ++ [h]))).find? (fitsB n (ls, l) ts) → e 0 = ptr W 0 → e 1 = .slice (some ⟨b, 0, none⟩) homes.length homes.length → e 4 = ptr H.length 0 → e 8 = .int .i64 i → Go.Proofs.YtbjeldblaclpnaaI.W F H.length _ e Hc _ from
      hh 3 0 _ H1 rfl (AgX.refl _ _) (by simp [hostsL]) (by simp only [go_sem, binC]) (by simp only [go_sem, binC]) (by simp only [go_sem, binC]) (by (simp only [go_sem, binC]) <;> rfl)
    intro k
    induction k with
    | zero =>
      intro i e Hc hi hxc hfd e0 e1 e4 e8
      obtain rfl : i = 3 := by omega
      have hd3 : decide (((3 : Nat) : Int) < 3) = false := rfl
      have hb4c := hxc.get hb4 (by simp)
      have hb4l := (List.getElem?_eq_some_iff.1 hb4c).1
      replace hfd : ((hostsL P 3).flatMap fun h => extL ls ts m (homes ++ [h])).find? (fitsB n (ls, l) ts) = none := by rw [hfd]; rfl
      refine lp_step ?_
      refine seq_assoc (seq_reg ?_)
      simp only [go_sem, binC, e8, hd3]
      refine seq_cond (t := false) (by simp only [go_sem, binC]) ?_
      simp only [go_sem, binC]
      refine seq_exit ?_
      simp only [go_sem, binC, thenX_e, out_e, thenX_n]
      refine seq_reg ?_
      simp only [go_sem, binC, e4, hb4c]
      refine wpc_ret ⟨Or.inr rfl, .tuple #[.agg #[nilS, nilS, nilS], .bool false], ?_, nilS, nilS, nilS, ?_, (hx1.tr hxc).setN (by omega) _, ?_⟩
      · simp [resV, resL, res1, putE_get, notT, ptr, gc_set hb4l, inBlk_some, valOf, e4]
      · rw [hfd]; rfl
      · rw [hfd]; exact ⟨rfl, rfl, rfl⟩
    | succ k ihk =>
      intro i e Hc hi hxc hfd e0 e1 e4 e8
      have hdi : decide ((i : Int) < 3) = true := decide_eq_true (by omega)
      have hw1 : IntKind.i64.wrap ((i : Int) + 1) = ((i + 1 : Nat) : Int) := by rw [wrap_id (by omega) (by omega)]; omega
      have hxH := hx1.tr hxc
      have hLc := hL.mono hxH
      have hcall := gh Hc W n ls l ts homes.length i hLc hlab (by omega) (by omega) (by omega) (by omega)
      rw [hPd] at hcall
      have hrs := hrest i (by omega)
      rw [hrs] at hfd
      refine lp_step ?_
      refine seq_assoc (seq_reg ?_)
      simp only [go_sem, binC, e8, hdi]
      refine seq_cond (t := true) (by simp only [go_sem, binC]) ?_
      simp only [go_sem, binC]
      refine seq_skip (seq_block (seq_reg ?_))
      simp only [go_sem, binC, e0, e1, e8]
      refine op_callQ (by simp only [go_sem, binC, e0, e1, e8]; exact hcall) ?_
      cases hp : P i with
      | false =>
        rw [hp, if_neg (by simp), List.nil_append] at hfd
        simp only [go_sem, binC]
        refine wpc_cond (t := false) rfl ?_
        simp only [go_sem, binC]
        refine wpc_skip ?_
        simp only [go_sem, binC, out_n, thenX_n]
        refine wpc_reg ?_
        simp only [go_sem, binC, e8, hw1]
        simp only [go_sem, binC, thenX_n]
        exact ihk (i + 1) _ Hc (by omega) hxc hfd (by simp only [go_sem, binC, e0]) (by simp only [go_sem, binC, e1]) (by simp only [go_sem, binC, e4]) (by simp only [go_sem, binC])
      | true =>
        rw [hp, if_pos rfl, List.find?_append] at hfd
        simp only [go_sem, binC]
        refine wpc_cond (t := true) rfl ?_
        simp only [go_sem, binC]
        refine seq_reg ?_
        simp only [go_sem, binC, e0, e1, e8]
        generalize hH3 : Hc ++ [(⟨[], 1, 3, true, true⟩ : Blk)] = H3
        have hx3 : AgX [] Hc H3 := hH3 ▸ AgX.app [] _ _
        have oI3 : IntsO 3 Hc.length H3 Hc.length true [] := hH3 ▸ IntsO.nil (Nat.le_refl _)
        clear hH3
        have hx03 := hxH.tr hx3
        have hlc := hxH.1
        have hcc := hxc.1
        have hl3 := hx3.1
        refine op_app_IK (kill := true) oI3 (by (simp only [go_sem, binC]) <;> rfl) (by (simp only [go_sem, binC]) <;> rfl) (show SlR Co.int (vw 0 H3) (.slice (some ⟨b, 0, none⟩) homes.length homes.length) homes from hI.sl.mono (agx_sub hx03)) (by omega) (by simp; omega) (by omega) fun H4 b4 so4 hx4 hb4' hso4 o4 => ?_
        rw [hso4 rfl, List.nil_append] at o4
        have hx34 : AgX [] Hc H4 := hx3.trans hx4 (fun _ h _ => h) (fun b' h1 h2 => by simp only [List.mem_singleton] at h1; omega)
        rw [List.nil_append]
        simp only [go_sem, binC, e8]
        refine op_app_I1 (kill := true) (a := (i : Int)) o4 (by (simp only [go_sem, binC]) <;> rfl) (by (simp only [go_sem, binC]) <;> rfl) ⟨by omega, by omega⟩ (by omega) (by omega) (by omega) fun H5 b5 so5 hx5 hb5 hso5 o5 => ?_
        rw [hso5 rfl] at o5
        have ho4g := o4.ge
        have hx35 : AgX [] Hc H5 := hx34.trans hx5 (fun _ h _ => h) (fun b' h1 h2 => by simp only [List.mem_singleton] at h1; omega)
        have hx05 := hxH.tr hx35
        simp only [go_sem, binC, e0]
        obtain ⟨w, H6, k6, tv, hv, dv, rfl, hx6, hpx⟩ := ih m rfl Hc.length H5 W n ls l ts b5 (homes ++ [(i : Int)]) (by rw [List.length_append, List.length_singleton]; omega) (hL.mono hx05) hP hsm htr o5 (fun x hx => by
          rcases List.mem_append.1 hx with h | h
          · exact hho x h
          · simp only [List.mem_singleton] at h; omega)
        refine op_callK (by simp only [go_sem, binC, e0]; exact k6) ?_
        obtain ⟨q1, q2, q3⟩ := hpx.one
        have hl5 := hx35.1
        have hl6 := hx6.1
        simp only [go_sem, binC, q1, q2, q3]
        refine ⟨by omega, ?_⟩
        refine wpc_gen fun H7 hH7 => ?_
        have hx7 : AgX [] H6 H7 := hH7 ▸ AgX.app [] _ _
        have hb9 : H7[H6.length]? = some ⟨[tv, hv, dv], 0, 0, false, true⟩ := hH7 ▸ get_new0 _ _
        clear hH7
        have hx37 := hx35.tr (hx6.tr hx7)
        have hx17 := hxc.tr hx37
        have hb47 := hx17.get hb4 (by simp)
        have hb47l := (List.getElem?_eq_some_iff.1 hb47).1
        have o5g := o5.ge
        refine seq_reg ?_
        simp only [go_sem, binC]
        cases hres : (extL ls ts m (homes ++ [(i : Int)])).find? (fitsB n (ls, l) ts) with
        | none =>
          rw [hres, Option.none_or] at hfd
          refine wpc_cond (t := false) rfl ?_
          simp only [go_sem, binC]
          refine wpc_skip ?_
          simp only [go_sem, binC, out_n, thenX_n]
          refine wpc_reg ?_
          simp only [go_sem, binC, e8, hw1]
          simp only [go_sem, binC, thenX_n]
          exact ihk (i + 1) _ H7 (by omega) hx17 hfd (by simp only [go_sem, binC, e0]) (by simp only [go_sem, binC, e1]) (by simp only [go_sem, binC, e4]) (by simp only [go_sem, binC])
        | some hm' =>
          rw [hres, Option.some_or] at hfd
          rw [hres] at hpx
          refine wpc_cond (t := true) rfl ?_
          simp only [go_sem, binC]
          refine seq_reg ?_
          simp only [go_sem, binC, gc_of hb9, inBlk_some, q1, q2, q3, e4, hb47]
          refine wpc_ret ?_
          simp only [go_sem, binC, out_r, thenX_r]
          have hxs : AgX [H.length] H7 (H7.set H.length ⟨[tv, hv, dv], 0, 0, false, true⟩) := AgX.set _ _ _
          refine ⟨Or.inr rfl, .tuple #[.agg #[tv, hv, dv], .bool true], ?_, tv, hv, dv, ?_, (hx1.tr hx17).setN (by omega) _, ?_⟩
          · simp [resV, resL, res1, putE_get, notT, ptr, gc_set hb47l, inBlk_some, valOf, e4, q1, q2, q3]
          · rw [hfd]; rfl
          · rw [hfd]
            refine ((hpx.keep (lo' := H5.length) (b' := b5) (Nat.le_refl _) hx7 (fun _ _ => by simp) (.inl rfl)).keep (lo' := H.length) (b' := b) (by omega) hxs (fun c hc => ?_) (.inr (by omega)))
            simp only [List.mem_singleton]
            rcases hc with h | h <;> omega
end Go.Proofs.YtbjeldblaclpnaaI
end
section
/- The first plan (the reference's), of a program. -/
set_option linter.unusedVariables false
set_option linter.unusedSimpArgs false
namespace Go.Proofs.YtbjeldblaclpnaaI
open Go Go.RowKit
theorem lFind_all {F : Nat → Option IFn} (hf : F 51 = some c_lFind) (gh : LHome F 78) (gd : LDoes F 97) : ∀ m, LFind F 51 m
  | 0 => lFind_ok hf gh gd fun m h => by omega
  | m + 1 => lFind_ok hf gh gd fun m' h => by cases h; exact lFind_all hf gh gd m
/-- A plan of three lists of one's own, or none. -/
def PlanZ (lo : Nat) (H : Heap) (tv hv dv : Value) (ts : List Int) (o : Option (List Int)) (d : List Int → List Int) : Prop := match o with
  | none => tv = nilS ∧ hv = nilS ∧ dv = nilS
  | some homes => ∃ b1 b2 b3, tv = sli b1 0 ts.length ∧ hv = sli b2 0 homes.length ∧ dv = sli b3 0 (d homes).length ∧ IntsO 3 lo H b1 true ts ∧ IntsO 3 lo H b2 true homes ∧ IntsO 3 lo H b3 true (d homes) ∧ b1 ≠ b2 ∧ b1 ≠ b3 ∧ b2 ≠ b3
def FindS (F : Nat → Option IFn) (f : Nat) : Prop := ∀ (H : Heap) (n : Nat) (lv sv tw : Value) (ls : List (Int × Int)) (l : List (TStep n)) (ts : List Int), SlR Co.p2 (vw 0 H) lv ls → SlR (Co.step n) (vw 0 H) sv l → (Co.prog n).sm (ls, l) → SlR Co.int (vw 0 H) tw ts →
  ∃ w H', KC F f [.agg #[lv, sv], tw] H w H' ∧ ∃ tv hv dv, w = .tuple #[.agg #[tv, hv, dv], .bool (findV n (ls, l) ts).isSome] ∧ AgX [] H H' ∧ PlanZ H.length H' tv hv dv ts (findV n (ls, l) ts) (doesL n (ls, l) ts)
theorem sPlanFind_ok {F : Nat → Option IFn} {f : Nat} (hf : F f = some c_sPlanFind) (gt : TypeP F 18) (gtr : TrOk F 49) (gs : SeeOk F 50) (gf : ∀ m, LFind F 51 m) : FindS F f := by
  intro H n lv sv tw ls l ts r1 r2 hsm r3
  have olv : one lv = true := by obtain ⟨_, a, rfl, _⟩ := r1; rfl
  have osv : one sv = true := by obtain ⟨_, a, rfl, _⟩ := r2; rfl
  refine KC.mk hf rfl ?_
  refine seq_reg ?_
  simp only [go_sem, binC, olv, osv]
  refine wpc_gen fun H1 hH1 => ?_
  have hx1 : AgX [] H H1 := hH1 ▸ AgX.app [] _ _
  have hb2 : H1[H.length]? = some ⟨[lv, sv], 0, 0, false, true⟩ := hH1 ▸ get_new0 _ _
  have hb4 : H1[H.length + 1]? = some ⟨[nilS, nilS, nilS], 0, 0, false, true⟩ := hH1 ▸ get_new _ _ 1
  clear hH1
  have hl1 := (List.getElem?_eq_some_iff.1 hb4).1
  refine seq_assoc (seq_reg ?_)
  simp only [go_sem, binC, gc_of hb2, inBlk_some, olv, osv]
  refine op_callQ (by simp only [go_sem, binC]; exact gt H1 n _ _ ls l (r1.mono (agx_sub hx1)) (r2.mono (agx_sub hx1)) hsm) ?_
  have none0 : ∀ {Hc : Heap}, AgX [] H1 Hc → findV n (ls, l) ts = none → ∃ tv hv dv, (Value.tuple #[.agg #[nilS, nilS, nilS], .bool false]) = .tuple #[.agg #[tv, hv, dv], .bool (findV n (ls, l) ts).isSome] ∧ AgX [] H (Hc.set (H.length + 1) ⟨[nilS, nilS, nilS], 0, 0, false, true⟩) ∧ PlanZ H.length (Hc.set (H.length + 1) ⟨[nilS, nilS, nilS], 0, 0, false, true⟩) tv hv dv ts (findV n (ls, l) ts) (doesL n (ls, l) ts) := fun {Hc} hx hn => by
    rw [hn]
    exact ⟨_, _, _, rfl, (hx1.tr hx).setN (by omega) _, rfl, rfl, rfl⟩
  cases ht : typeP n (ls, l) with
  | false =>
    have hn : findV n (ls, l) ts = none := by unfold findV; rw [ht]; rfl
    simp only [go_sem, binC]
    refine seq_cond (t := true) rfl ?_
    simp only [go_sem, binC]
    refine seq_assoc (seq_reg ?_)
    simp only [go_sem, binC, hb4]
    refine seq_ret ⟨Or.inr rfl, .tuple #[.agg #[nilS, nilS, nilS], .bool false], ?_, none0 (AgX.refl _ _) hn⟩
    simp [resV, resL, res1, putE_get, notT, ptr, gc_set hl1, inBlk_some, valOf]
  | true =>
  simp only [go_sem, binC]
  refine op_callQ (by simp only [go_sem, binC]; exact gtr.k H1 _ ts (r3.mono (agx_sub hx1))) ?_
  cases hk : trK ts with
  | false =>
    have hn : findV n (ls, l) ts = none := by unfold findV; rw [hk, Bool.and_false]; rfl
    simp only [go_sem, binC]
    refine seq_cond (t := true) rfl ?_
    simp only [go_sem, binC]
    refine seq_assoc (seq_reg ?_)
    simp only [go_sem, binC, hb4]
    refine seq_ret ⟨Or.inr rfl, .tuple #[.agg #[nilS, nilS, nilS], .bool false], ?_, none0 (AgX.refl _ _) hn⟩
    simp [resV, resL, res1, putE_get, notT, ptr, gc_set hl1, inBlk_some, valOf]
  | true =>
  simp only [go_sem, binC]
  refine seq_cond (t := false) rfl ?_
  simp only [go_sem, binC]
  have htr := trK_iff.1 hk
  have hP : progB n (ls, l) = true := by
    unfold typeP at ht
    simp only [Bool.and_eq_true] at ht
    exact ht.1
  have hfind : findV n (ls, l) ts = (extL ls ts ls.length []).find? (fitsB n (ls, l) ts) := by unfold findV; rw [ht, hk, extL_nil]; rfl
  refine seq_skip (seq_reg ?_)
  simp only [go_sem, binC, gc_of hb2, inBlk_some, olv, osv]
  obtain ⟨W, H2, k2, hx2, hWg, hL⟩ := gs H.length H1 n _ _ _ ls l ts (by omega) (r1.mono (agx_sub hx1)) (r2.mono (agx_sub hx1)) hsm hP (r3.mono (agx_sub hx1)) htr
  refine op_callN (by simp only [go_sem, binC]; exact k2) ?_
  simp only [go_sem, binC]
  generalize hH3 : H2 ++ [(⟨[], 1, 3, true, true⟩ : Blk)] = H3
  have hx3 : AgX [] H2 H3 := hH3 ▸ AgX.app [] _ _
  have oI3 : IntsO 3 H2.length H3 H2.length true [] := hH3 ▸ IntsO.nil (Nat.le_refl _)
  clear hH3
  obtain ⟨w, H4, k4, tv, hv, dv, rfl, hx4, hpx⟩ := gf ls.length H2.length H3 W n ls l ts H2.length [] (by simp) (hL.mono hx3) hP hsm htr oI3 (by simp)
  refine op_callK (by simp only [go_sem, binC]; exact k4) ?_
  obtain ⟨q1, q2, q3⟩ := hpx.one
  have hl2 := hx2.1
  have hl3 := hx3.1
  have hl4 := hx4.1
  simp only [go_sem, binC, q1, q2, q3]
  refine ⟨by omega, ?_⟩
  refine wpc_gen fun H5 hH5 => ?_
  have hx5 : AgX [] H4 H5 := hH5 ▸ AgX.app [] _ _
  have hb6 : H5[H4.length]? = some ⟨[tv, hv, dv], 0, 0, false, true⟩ := hH5 ▸ get_new0 _ _
  clear hH5
  have hx15 := hx2.tr (hx3.tr (hx4.tr hx5))
  have hb45 := hx15.get hb4 (by simp)
  have hb45l := (List.getElem?_eq_some_iff.1 hb45).1
  refine seq_assoc (seq_reg ?_)
  simp only [go_sem, binC]
  cases hres : (extL ls ts ls.length []).find? (fitsB n (ls, l) ts) with
  | none =>
    refine seq_cond (t := true) rfl ?_
    simp only [go_sem, binC]
    refine seq_assoc (seq_reg ?_)
    simp only [go_sem, binC, hb45]
    refine seq_ret ⟨Or.inr rfl, .tuple #[.agg #[nilS, nilS, nilS], .bool false], ?_, none0 hx15 (by rw [hfind, hres])⟩
    simp [resV, resL, res1, putE_get, notT, ptr, gc_set hb45l, inBlk_some, valOf]
  | some homes =>
    rw [hres] at hpx
    refine seq_cond (t := false) rfl ?_
    simp only [go_sem, binC]
    refine seq_skip (seq_reg ?_)
    simp only [go_sem, binC, gc_of hb6, inBlk_some, q1, q2, q3, hb45]
    obtain ⟨b1, b2, b3, rfl, rfl, rfl, p1, p2, p3, p4, p5⟩ := hpx
    have hxs : AgX [H.length + 1] H5 (H5.set (H.length + 1) ⟨[sli b1 0 ts.length, sli b2 0 homes.length, sli b3 0 (doesL n (ls, l) ts homes).length], 0, 0, false, true⟩) := AgX.set _ _ _
    have g1 := p1.ge
    have g3 := p3.ge
    have g2 : H.length + 1 < b2 := by omega
    have p2' : IntsO 3 H.length H4 b2 true homes := ⟨by omega, p2.len, p2.blk, p2.rg⟩
    refine wpc_ret ⟨Or.inr rfl, .tuple #[.agg #[sli b1 0 ts.length, sli b2 0 homes.length, sli b3 0 (doesL n (ls, l) ts homes).length], .bool true], ?_, _, _, _, by rw [hfind, hres]; rfl, (hx1.tr hx15).setN (by omega) _, ?_⟩
    · simp [resV, resL, res1, putE_get, notT, ptr, gc_set hb45l, inBlk_some, valOf, sli]
    · rw [hfind, hres]
      exact ⟨b1, b2, b3, rfl, rfl, rfl, (p1.keep (by omega) hx5 (by simp)).keep (Nat.le_refl _) hxs (by simp; omega), (p2'.keep (Nat.le_refl _) hx5 (by simp)).keep (Nat.le_refl _) hxs (by simp; omega), (p3.keep (by omega) hx5 (by simp)).keep (Nat.le_refl _) hxs (by simp; omega), p5⟩
end Go.Proofs.YtbjeldblaclpnaaI
end
section
/- Whether a plan, and a step of it, is as it may be (the reference's). -/
set_option linter.unusedVariables false
set_option linter.unusedSimpArgs false
namespace Go.Proofs.YtbjeldblaclpnaaI
open Go Go.RowKit
end Go.Proofs.YtbjeldblaclpnaaI
end
section
/- Whether a plan is as it may be (the reference's). -/
set_option linter.unusedVariables false
set_option linter.unusedSimpArgs false
namespace Go.Proofs.YtbjeldblaclpnaaI
open Go Go.RowKit
end Go.Proofs.YtbjeldblaclpnaaI
end
section
/- Whether a plan is as it may be (the program's). -/
set_option linter.unusedVariables false
set_option linter.unusedSimpArgs false
namespace Go.Proofs.YtbjeldblaclpnaaI
open Go Go.RowKit
end Go.Proofs.YtbjeldblaclpnaaI
end
section
/- Sizes, copies and tests of plans. -/
set_option linter.unusedVariables false
set_option linter.unusedSimpArgs false
namespace Go.Proofs.YtbjeldblaclpnaaI
open Go Go.RowKit
def Co.plan : Co (List Int × List Int × List Int) := Co.pair (Co.sl Co.int) (Co.pair (Co.sl Co.int) (Co.sl Co.int))
def c_eqPlan : IFn := ⟨2, 23, [.t 4],
 .seq (.reg none [
    ⟨(some 2), none, .box (.t 0)⟩,
    ⟨(some 3), none, .box (.t 1)⟩,
    ⟨(some 4), none, .mov (.c (.bool false))⟩])
 (.seq (.seq (.reg none [
     ⟨(some 5), none, .fad 0 (.t 2)⟩,
     ⟨(some 6), none, .load false 1 (.t 5)⟩,
     ⟨(some 7), none, .fad 0 (.t 3)⟩,
     ⟨(some 8), none, .load false 1 (.t 7)⟩,
     ⟨(some 9), none, .call .q (.f 27) [(.t 6), (.t 8)]⟩,
     ⟨(some 10), none, .un .not (.t 9)⟩])
  (.cond (.t 10) (.seq (.reg none [
      ⟨(some 4), none, .mov (.c (.bool false))⟩])
   (.ret)) (.skip)))
 (.seq (.seq (.reg none [
     ⟨(some 11), none, .fad 1 (.t 2)⟩,
     ⟨(some 12), none, .load false 1 (.t 11)⟩,
     ⟨(some 13), none, .fad 1 (.t 3)⟩,
     ⟨(some 14), none, .load false 1 (.t 13)⟩,
     ⟨(some 15), none, .call .q (.f 27) [(.t 12), (.t 14)]⟩,
     ⟨(some 16), none, .un .not (.t 15)⟩])
  (.cond (.t 16) (.seq (.reg none [
      ⟨(some 4), none, .mov (.c (.bool false))⟩])
   (.ret)) (.skip)))
 (.seq (.seq (.reg none [
     ⟨(some 17), none, .fad 2 (.t 2)⟩,
     ⟨(some 18), none, .load false 1 (.t 17)⟩,
     ⟨(some 19), none, .fad 2 (.t 3)⟩,
     ⟨(some 20), none, .load false 1 (.t 19)⟩,
     ⟨(some 21), none, .call .q (.f 27) [(.t 18), (.t 20)]⟩,
     ⟨(some 22), none, .un .not (.t 21)⟩])
  (.cond (.t 22) (.seq (.reg none [
      ⟨(some 4), none, .mov (.c (.bool false))⟩])
   (.ret)) (.skip)))
 (.seq (.reg none [
    ⟨(some 4), none, .mov (.c (.bool true))⟩])
 (.ret)))))⟩
theorem eqPlan_ok {F : Nat → Option IFn} {f : Nat} (hf : F f = some c_eqPlan) (g0 : EqOk F (Co.sl Co.int) false 27) (g1 : EqOk F (Co.sl Co.int) false 27) (g2 : EqOk F (Co.sl Co.int) false 27) : EqOk F Co.plan true f := by
  rintro H v u ⟨a0, a1, a2⟩ ⟨cs, hc, _, _, rfl, ⟨v0, rfl, r0⟩, _, _, rfl, ⟨v1, rfl, r1⟩, ⟨v2, rfl, r2⟩⟩ ⟨cs2, hc2, _, _, rfl, ⟨vq0, rfl, rq0⟩, _, _, rfl, ⟨vq1, rfl, rq1⟩, ⟨vq2, rfl, rq2⟩⟩
  simp only [go_sem, binC, Option.some.injEq] at hc hc2
  subst hc hc2
  obtain ⟨_, x0⟩ := r0.shape
  subst x0
  obtain ⟨_, x1⟩ := r1.shape
  subst x1
  obtain ⟨_, x2⟩ := r2.shape
  subst x2
  obtain ⟨_, xq0⟩ := rq0.shape
  subst xq0
  obtain ⟨_, xq1⟩ := rq1.shape
  subst xq1
  obtain ⟨_, xq2⟩ := rq2.shape
  subst xq2
  refine QC.mk hf rfl ?_
  refine seq_reg ?_
  simp only [go_sem, binC]
  refine seq_assoc (seq_reg ?_)
  simp only [go_sem, binC, bne_self_eq_false, beq_self_eq_true]
  refine op_callQ (g0 _ _ _ a0 ⟨_, by simp only [go_sem, binC], ⟨_, rfl, r0.mono (vw_app 0 H _)⟩⟩ ⟨_, by simp only [go_sem, binC], ⟨_, rfl, rq0.mono (vw_app 0 H _)⟩⟩) ?_
  simp only [go_sem, binC]
  refine seq_cond (t := false) (by simp only [go_sem, binC]) ?_
  simp only [go_sem, binC]
  refine seq_skip ?_
  refine seq_assoc (seq_reg ?_)
  simp only [go_sem, binC, bne_self_eq_false, beq_self_eq_true]
  refine op_callQ (g1 _ _ _ a1 ⟨_, by simp only [go_sem, binC], ⟨_, rfl, r1.mono (vw_app 0 H _)⟩⟩ ⟨_, by simp only [go_sem, binC], ⟨_, rfl, rq1.mono (vw_app 0 H _)⟩⟩) ?_
  simp only [go_sem, binC]
  refine seq_cond (t := false) (by simp only [go_sem, binC]) ?_
  simp only [go_sem, binC]
  refine seq_skip ?_
  refine seq_assoc (seq_reg ?_)
  simp only [go_sem, binC, bne_self_eq_false, beq_self_eq_true]
  refine op_callQ (g2 _ _ _ a2 ⟨_, by simp only [go_sem, binC], ⟨_, rfl, r2.mono (vw_app 0 H _)⟩⟩ ⟨_, by simp only [go_sem, binC], ⟨_, rfl, rq2.mono (vw_app 0 H _)⟩⟩) ?_
  simp only [go_sem, binC]
  refine seq_cond (t := false) (by simp only [go_sem, binC]) ?_
  simp only [go_sem, binC]
  refine seq_skip ?_
  refine seq_reg ?_
  simp only [go_sem, binC]
  refine wpc_ret ⟨Or.inr rfl, _, ?_, rfl, rfl⟩
  simp only [go_sem, binC]
end Go.Proofs.YtbjeldblaclpnaaI
end
section
/- The law FnExactPlanOk on the ideal machine. -/
set_option linter.unusedVariables false
set_option linter.unusedSimpArgs false
namespace Go.Proofs.YtbjeldblaclpnaaI
open Go Go.RowKit
end Go.Proofs.YtbjeldblaclpnaaI
end
section
/- Whom each trusts, drawn; a program and whom each trusts, drawn; where a variable may be (the program's). -/
set_option linter.unusedVariables false
set_option linter.unusedSimpArgs false
namespace Go.Proofs.YtbjeldblaclpnaaI
open Go Go.RowKit
end Go.Proofs.YtbjeldblaclpnaaI
end
section
/- A program and a plan, drawn. -/
set_option linter.unusedVariables false
set_option linter.unusedSimpArgs false
namespace Go.Proofs.YtbjeldblaclpnaaI
open Go Go.RowKit
end Go.Proofs.YtbjeldblaclpnaaI
end
section
/- A program and a plan, some spoilt. -/
set_option linter.unusedVariables false
set_option linter.unusedSimpArgs false
namespace Go.Proofs.YtbjeldblaclpnaaI
open Go Go.RowKit
end Go.Proofs.YtbjeldblaclpnaaI
end
section
/- The draws of plans. -/
set_option linter.unusedVariables false
set_option linter.unusedSimpArgs false
namespace Go.Proofs.YtbjeldblaclpnaaI
open Go Go.RowKit
end Go.Proofs.YtbjeldblaclpnaaI
end
section
/- The draw DrawPlanFind; the laws' comparison of plans. -/
set_option linter.unusedVariables false
set_option linter.unusedSimpArgs false
namespace Go.Proofs.YtbjeldblaclpnaaI
open Go Go.RowKit
end Go.Proofs.YtbjeldblaclpnaaI
end
section
/- The law FnPlanMore on the ideal machine. -/
set_option linter.unusedVariables false
set_option linter.unusedSimpArgs false
namespace Go.Proofs.YtbjeldblaclpnaaI
open Go Go.RowKit
end Go.Proofs.YtbjeldblaclpnaaI
end
section
/- What is found; the law FnPlanFind on the ideal machine. -/
set_option linter.unusedVariables false
set_option linter.unusedSimpArgs false
namespace Go.Proofs.YtbjeldblaclpnaaI
open Go Go.RowKit
def planL (o : Option (List Int)) (ts : List Int) (d : List Int → List Int) : List Int × List Int × List Int := match o with
  | none => ([], [], [])
  | some homes => (ts, homes, d homes)
theorem sl_nilS (H : Heap) : SlR Co.int (vw 0 H) nilS [] := ⟨by simp, none, rfl, .inl rfl⟩
theorem PlanR.sls {lo : Nat} {H : Heap} {tv hv dv : Value} {ts : List Int} {o : Option (List Int)} {d : List Int → List Int} (h : PlanR lo H tv hv dv ts o d) : SlR Co.int (vw 0 H) tv (planL o ts d).1 ∧ SlR Co.int (vw 0 H) hv (planL o ts d).2.1 ∧ SlR Co.int (vw 0 H) dv (planL o ts d).2.2 := by
  cases o with
  | none =>
    obtain ⟨rfl, rfl, rfl⟩ := h
    exact ⟨sl_nilS H, sl_nilS H, sl_nilS H⟩
  | some homes =>
    have h : PlanOwn lo H tv hv dv ts homes (d homes) := h
    exact ⟨(h.t (vw 0 H)).sl rfl (fun _ _ h => h), (h.h (vw 0 H)).sl rfl (fun _ _ h => h), (h.d (vw 0 H)).sl rfl (fun _ _ h => h)⟩
theorem PlanZ.sls {lo : Nat} {H : Heap} {tv hv dv : Value} {ts : List Int} {o : Option (List Int)} {d : List Int → List Int} (h : PlanZ lo H tv hv dv ts o d) : SlR Co.int (vw 0 H) tv (planL o ts d).1 ∧ SlR Co.int (vw 0 H) hv (planL o ts d).2.1 ∧ SlR Co.int (vw 0 H) dv (planL o ts d).2.2 := by
  cases o with
  | none =>
    obtain ⟨rfl, rfl, rfl⟩ := h
    exact ⟨sl_nilS H, sl_nilS H, sl_nilS H⟩
  | some homes =>
    obtain ⟨b1, b2, b3, rfl, rfl, rfl, o1, o2, o3, _⟩ := h
    exact ⟨o1.sl, o2.sl, o3.sl⟩
end Go.Proofs.YtbjeldblaclpnaaI
end
section
/- The law FnExactPlanFind on the ideal machine. -/
set_option linter.unusedVariables false
set_option linter.unusedSimpArgs false
namespace Go.Proofs.YtbjeldblaclpnaaI
open Go Go.RowKit
def c_lawEPF : IFn := ⟨2, 117, [.t 4],
 .seq (.reg none [
    ⟨(some 2), none, .box (.t 0)⟩,
    ⟨(some 4), none, .mov (.c (.bool false))⟩])
 (.seq (.seq (.reg none [
     ⟨(some 17), none, .mov (.t 1)⟩,
     ⟨(some 18), none, .len (.t 17)⟩,
     ⟨(some 19), none, .bin .gtr (.t 18) (.c (.int .i64 1048576))⟩])
  (.cond (.t 19) (.seq (.reg none [
      ⟨(some 4), none, .mov (.c (.bool true))⟩])
   (.ret)) (.skip)))
 (.seq (.reg none [
    ⟨(some 5), none, .mov (.c (.int .i64 1048576))⟩])
 (.seq (.reg none [
    ⟨(some 20), none, .load true 2 (.t 2)⟩,
    ⟨(some 21), none, .mov (.t 5)⟩,
    ⟨(some 22), none, .call .q (.f 22) [(.t 20), (.t 21)]⟩,
    ⟨(some 5), none, .mov (.t 22)⟩])
 (.seq (.seq (.reg none [
     ⟨(some 23), none, .mov (.t 5)⟩,
     ⟨(some 24), none, .bin .lss (.t 23) (.c (.int .i64 0))⟩])
  (.cond (.t 24) (.seq (.reg none [
      ⟨(some 4), none, .mov (.c (.bool true))⟩])
   (.ret)) (.skip)))
 (.seq (.reg none [
    ⟨(some 26), none, .load true 2 (.t 2)⟩,
    ⟨(some 27), none, .call .k (.f 23) [(.t 26)]⟩,
    ⟨(some 28), none, .mov (.t 1)⟩,
    ⟨(some 29), none, .call .k (.f 24) [(.t 28)]⟩,
    ⟨(some 30), none, .call .k (.f 15) [(.t 27), (.t 29)]⟩,
    ⟨(some 25), none, .mov (.t 30)⟩,
    ⟨(some 31), none, .ext (.t 25) 0⟩,
    ⟨(some 32), none, .ext (.t 25) 1⟩,
    ⟨(some 6), none, .new [(.slice none 0 0), (.slice none 0 0), (.slice none 0 0)]⟩,
    ⟨none, none, .store 3 (.t 6) (.t 31)⟩,
    ⟨(some 7), none, .mov (.t 32)⟩])
 (.seq (.reg none [
    ⟨(some 33), none, .load true 2 (.t 2)⟩,
    ⟨(some 34), none, .call .k (.f 23) [(.t 33)]⟩,
    ⟨(some 8), none, .new [(.slice none 0 0), (.slice none 0 0)]⟩,
    ⟨none, none, .store 2 (.t 8) (.t 34)⟩])
 (.seq (.reg none [
    ⟨(some 35), none, .mov (.t 1)⟩,
    ⟨(some 36), none, .call .k (.f 24) [(.t 35)]⟩,
    ⟨(some 9), none, .mov (.t 36)⟩])
 (.seq (.reg none [
    ⟨(some 38), none, .load true 2 (.t 8)⟩,
    ⟨(some 39), none, .mov (.t 9)⟩,
    ⟨(some 40), none, .call .k (.f 16) [(.t 38), (.t 39)]⟩,
    ⟨(some 37), none, .mov (.t 40)⟩,
    ⟨(some 41), none, .ext (.t 37) 0⟩,
    ⟨(some 42), none, .ext (.t 37) 1⟩,
    ⟨(some 10), none, .new [(.slice none 0 0), (.slice none 0 0), (.slice none 0 0)]⟩,
    ⟨none, none, .store 3 (.t 10) (.t 41)⟩,
    ⟨(some 11), none, .mov (.t 42)⟩])
 (.seq (.seq (.reg none [
     ⟨(some 43), none, .load true 3 (.t 10)⟩,
     ⟨(some 44), none, .load true 3 (.t 6)⟩,
     ⟨(some 45), none, .call .q (.f 25) [(.t 43), (.t 44)]⟩,
     ⟨(some 46), none, .un .not (.t 45)⟩,
     ⟨(some 47), none, .mov (.t 46)⟩,
     ⟨(some 48), (some (47, false)), .mov (.t 11)⟩,
     ⟨(some 49), (some (47, false)), .mov (.t 7)⟩,
     ⟨(some 50), (some (47, false)), .beq true (.t 48) (.t 49)⟩,
     ⟨(some 51), none, .pick (.t 47) (.c (.bool true)) (.t 50)⟩])
  (.cond (.t 51) (.seq (.reg none [
      ⟨(some 4), none, .mov (.c (.bool false))⟩])
   (.ret)) (.skip)))
 (.seq (.seq (.reg (some 3) [
     ⟨(some 52), none, .load true 2 (.t 8)⟩,
     ⟨(some 53), none, .load true 2 (.t 2)⟩,
     ⟨(some 54), none, .call .k (.f 23) [(.t 53)]⟩,
     ⟨(some 55), none, .call .q (.f 26) [(.t 52), (.t 54)]⟩,
     ⟨(some 56), none, .un .not (.t 55)⟩])
  (.cond (.t 56) (.seq (.reg none [
      ⟨(some 4), none, .mov (.c (.bool false))⟩])
   (.ret)) (.skip)))
 (.seq (.seq (.reg none [
     ⟨(some 57), none, .mov (.t 9)⟩,
     ⟨(some 58), none, .mov (.t 1)⟩,
     ⟨(some 59), none, .call .k (.f 24) [(.t 58)]⟩,
     ⟨(some 60), none, .call .q (.f 27) [(.t 57), (.t 59)]⟩,
     ⟨(some 61), none, .un .not (.t 60)⟩])
  (.cond (.t 61) (.seq (.reg none [
      ⟨(some 4), none, .mov (.c (.bool false))⟩])
   (.ret)) (.skip)))
 (.seq (.reg none [
    ⟨(some 12), none, .mov (.c (.int .i64 1))⟩])
 (.seq (.reg none [
    ⟨(some 62), none, .load true 2 (.t 8)⟩,
    ⟨(some 63), none, .mov (.t 12)⟩,
    ⟨(some 64), none, .call .n (.f 28) [(.t 62), (.t 63)]⟩,
    ⟨(some 12), none, .mov (.t 64)⟩])
 (.seq (.reg none [
    ⟨(some 65), none, .mov (.t 9)⟩,
    ⟨(some 66), none, .mov (.t 12)⟩,
    ⟨(some 67), none, .call .n (.f 29) [(.t 65), (.t 66)]⟩,
    ⟨(some 12), none, .mov (.t 67)⟩])
 (.seq (.seq (.reg none [
     ⟨(some 68), none, .mov (.t 12)⟩,
     ⟨(some 69), none, .bin .lss (.t 68) (.c (.int .i64 0))⟩,
     ⟨(some 70), none, .mov (.t 69)⟩,
     ⟨(some 71), (some (70, false)), .load true 3 (.t 10)⟩,
     ⟨(some 72), (some (70, false)), .load true 3 (.t 6)⟩,
     ⟨(some 73), (some (70, false)), .call .q (.f 25) [(.t 71), (.t 72)]⟩,
     ⟨(some 74), (some (70, false)), .un .not (.t 73)⟩,
     ⟨(some 75), none, .pick (.t 70) (.c (.bool true)) (.t 74)⟩,
     ⟨(some 76), none, .mov (.t 75)⟩,
     ⟨(some 77), (some (76, false)), .mov (.t 11)⟩,
     ⟨(some 78), (some (76, false)), .mov (.t 7)⟩,
     ⟨(some 79), (some (76, false)), .beq true (.t 77) (.t 78)⟩,
     ⟨(some 80), none, .pick (.t 76) (.c (.bool true)) (.t 79)⟩])
  (.cond (.t 80) (.seq (.reg none [
      ⟨(some 4), none, .mov (.c (.bool false))⟩])
   (.ret)) (.skip)))
 (.seq (.reg none [
    ⟨(some 13), none, .mov (.c (.int .i64 1))⟩])
 (.seq (.reg none [
    ⟨(some 81), none, .load true 3 (.t 10)⟩,
    ⟨(some 82), none, .mov (.t 13)⟩,
    ⟨(some 83), none, .call .n (.f 30) [(.t 81), (.t 82)]⟩,
    ⟨(some 13), none, .mov (.t 83)⟩])
 (.seq (.reg none [
    ⟨(some 14), none, .mov (.c (.int .i64 1))⟩])
 (.seq (.reg none [
    ⟨(some 84), none, .load true 3 (.t 10)⟩,
    ⟨(some 85), none, .mov (.t 14)⟩,
    ⟨(some 86), none, .call .q (.f 31) [(.t 84), (.t 85)]⟩,
    ⟨(some 14), none, .mov (.t 86)⟩])
 (.seq (.seq (.reg none [
     ⟨(some 87), none, .mov (.t 14)⟩,
     ⟨(some 88), none, .bin .lss (.t 87) (.c (.int .i64 0))⟩])
  (.cond (.t 88) (.seq (.reg none [
      ⟨(some 4), none, .mov (.c (.bool false))⟩])
   (.ret)) (.skip)))
 (.seq (.seq (.reg none [
     ⟨(some 89), none, .mov (.t 14)⟩,
     ⟨(some 90), none, .mov (.t 13)⟩,
     ⟨(some 91), none, .bin .neq (.t 89) (.t 90)⟩])
  (.cond (.t 91) (.seq (.reg none [
      ⟨(some 4), none, .mov (.c (.bool false))⟩])
   (.ret)) (.skip)))
 (.seq (.reg none [
    ⟨(some 93), none, .load true 2 (.t 2)⟩,
    ⟨(some 94), none, .call .k (.f 23) [(.t 93)]⟩,
    ⟨(some 95), none, .mov (.t 1)⟩,
    ⟨(some 96), none, .call .k (.f 24) [(.t 95)]⟩,
    ⟨(some 97), none, .call .k (.f 16) [(.t 94), (.t 96)]⟩,
    ⟨(some 92), none, .mov (.t 97)⟩,
    ⟨(some 98), none, .ext (.t 92) 0⟩,
    ⟨(some 99), none, .ext (.t 92) 1⟩,
    ⟨(some 15), none, .new [(.slice none 0 0), (.slice none 0 0), (.slice none 0 0)]⟩,
    ⟨none, none, .store 3 (.t 15) (.t 98)⟩,
    ⟨(some 16), none, .mov (.t 99)⟩])
 (.seq (.seq (.reg none [
     ⟨(some 100), none, .load true 3 (.t 15)⟩,
     ⟨(some 101), none, .load true 3 (.t 6)⟩,
     ⟨(some 102), none, .call .q (.f 25) [(.t 100), (.t 101)]⟩,
     ⟨(some 103), none, .un .not (.t 102)⟩,
     ⟨(some 104), none, .mov (.t 103)⟩,
     ⟨(some 105), (some (104, false)), .mov (.t 16)⟩,
     ⟨(some 106), (some (104, false)), .mov (.t 7)⟩,
     ⟨(some 107), (some (104, false)), .beq true (.t 105) (.t 106)⟩,
     ⟨(some 108), none, .pick (.t 104) (.c (.bool true)) (.t 107)⟩])
  (.cond (.t 108) (.seq (.reg none [
      ⟨(some 4), none, .mov (.c (.bool false))⟩])
   (.ret)) (.skip)))
 (.seq (.reg none [
    ⟨(some 14), none, .mov (.c (.int .i64 1))⟩])
 (.seq (.reg none [
    ⟨(some 109), none, .load true 3 (.t 10)⟩,
    ⟨(some 110), none, .mov (.t 14)⟩,
    ⟨(some 111), none, .call .q (.f 31) [(.t 109), (.t 110)]⟩,
    ⟨(some 14), none, .mov (.t 111)⟩])
 (.seq (.seq (.reg none [
     ⟨(some 112), none, .mov (.t 14)⟩,
     ⟨(some 113), none, .bin .lss (.t 112) (.c (.int .i64 0))⟩])
  (.cond (.t 113) (.seq (.reg none [
      ⟨(some 4), none, .mov (.c (.bool false))⟩])
   (.ret)) (.skip)))
 (.seq (.seq (.reg none [
     ⟨(some 114), none, .mov (.t 14)⟩,
     ⟨(some 115), none, .mov (.t 13)⟩,
     ⟨(some 116), none, .bin .neq (.t 114) (.t 115)⟩])
  (.cond (.t 116) (.seq (.reg none [
      ⟨(some 4), none, .mov (.c (.bool false))⟩])
   (.ret)) (.skip)))
 (.seq (.reg none [
    ⟨(some 4), none, .mov (.c (.bool true))⟩])
 (.ret)))))))))))))))))))))))))))))⟩
theorem PlanR.flats {lo : Nat} {H : Heap} {tv hv dv : Value} {ts : List Int} {o : Option (List Int)} {d : List Int → List Int} (h : PlanR lo H tv hv dv ts o d) : ∃ b1 b2 b3, FlatB lo H.length H 1 tv (planL o ts d).1.length b1 0 ∧ FlatB lo H.length H 1 hv (planL o ts d).2.1.length b2 0 ∧ FlatB lo H.length H 1 dv (planL o ts d).2.2.length b3 0 ∧ ((planL o ts d).1.length = 0 ∨ (planL o ts d).2.1.length = 0 ∨ b1 ≠ b2) ∧ ((planL o ts d).1.length = 0 ∨ (planL o ts d).2.2.length = 0 ∨ b1 ≠ b3) ∧ ((planL o ts d).2.1.length = 0 ∨ (planL o ts d).2.2.length = 0 ∨ b2 ≠ b3) ∧ (planL o ts d).1.length + (planL o ts d).2.1.length + (planL o ts d).2.2.length ≤ 1000000000000 := by
  cases o with
  | none =>
    obtain ⟨rfl, rfl, rfl⟩ := h
    have hn : FlatB lo H.length H 1 nilS 0 0 0 := ⟨by simp, none, rfl, .inl rfl⟩
    exact ⟨0, 0, 0, hn, hn, hn, .inl rfl, .inl rfl, .inl rfl, by simp [planL]⟩
  | some homes =>
    have h : PlanOwn lo H tv hv dv ts homes (d homes) := h
    obtain ⟨b1, f1, m1⟩ := (h.t (fun _ => none)).flat h.st
    obtain ⟨b2, f2, m2⟩ := (h.h (fun _ => none)).flat h.sh
    obtain ⟨b3, f3, m3⟩ := (h.d (fun _ => none)).flat h.sd
    have hl : ∀ {v : Value} {l : List Int}, LsV (fun _ => none) Co.int 1 3 lo H v l → l.length ≤ 1048576 := fun h => by
      rcases h with ⟨_, rfl⟩ | ⟨b, so, cs, _, _, _, h4, _⟩
      · simp
      · exact h4
    have l1 := hl (h.t _)
    have l2 := hl (h.h _)
    have l3 := hl (h.d _)
    refine ⟨b1, b2, b3, f1, f2, f3, ?_, ?_, ?_, by show ts.length + homes.length + (d homes).length ≤ _; omega⟩
    · by_cases h1 : ts = []
      · exact .inl (by show ts.length = 0; rw [h1]; rfl)
      by_cases h2 : homes = []
      · exact .inr (.inl (by show homes.length = 0; rw [h2]; rfl))
      exact .inr (.inr fun he => (h.th b1 (m1 h1)).1 (he ▸ m2 h2))
    · by_cases h1 : ts = []
      · exact .inl (by show ts.length = 0; rw [h1]; rfl)
      by_cases h2 : d homes = []
      · exact .inr (.inl (by show (d homes).length = 0; rw [h2]; rfl))
      exact .inr (.inr fun he => (h.th b1 (m1 h1)).2 (he ▸ m3 h2))
    · by_cases h1 : homes = []
      · exact .inl (by show homes.length = 0; rw [h1]; rfl)
      by_cases h2 : d homes = []
      · exact .inr (.inl (by show (d homes).length = 0; rw [h2]; rfl))
      exact .inr (.inr fun he => h.hd b2 (m2 h1) (he ▸ m3 h2))
theorem plan_mk {V : Vw} {v1 v2 v3 : Value} {a b c : List Int} (h1 : SlR Co.int V v1 a) (h2 : SlR Co.int V v2 b) (h3 : SlR Co.int V v3 c) : Rd Co.plan true V (.agg #[v1, v2, v3]) (a, b, c) := ⟨[v1, v2, v3], rfl, [v1], [v2, v3], rfl, ⟨v1, rfl, h1⟩, [v2], [v3], rfl, ⟨v2, rfl, h2⟩, ⟨v3, rfl, h3⟩⟩
theorem flat_lt {lo hi w n b o : Nat} {H : Heap} {v : Value} (h : FlatB lo hi H w v n b o) : n = 0 ∨ (lo ≤ b ∧ b < hi) := by
  obtain ⟨_, a, _, h3⟩ := h
  exact h3.imp id fun h => ⟨h.2.1, h.2.2.1⟩
theorem flat_sl {lo hi n b : Nat} {H H' : Heap} {v : Value} {l : List Int} (h : FlatB lo hi H 1 v n b 0) (hr : SlR Co.int (vw 0 H) v l) (hn : l.length = n) (hb : n = 0 ∨ H'[b]? = H[b]?) : SlR Co.int (vw 0 H') v l := by
  obtain ⟨_, a, rfl, h3⟩ := h
  obtain ⟨h0, a', e, h4⟩ := hr
  simp only [Value.slice.injEq] at e
  obtain ⟨rfl, _⟩ := e
  rcases Nat.eq_zero_or_pos n with hz | hz
  · refine ⟨h0, _, by rw [hn], .inl (List.eq_nil_of_length_eq_zero (by omega))⟩
  obtain ⟨rfl, _⟩ := h3.resolve_left (by omega)
  rcases h4 with h4 | ⟨b', o', e2, h4⟩
  · rw [h4] at hn; simp at hn; omega
  · simp only [Option.some.injEq, Addr.mk.injEq, and_true] at e2
    obtain ⟨rfl, rfl⟩ := e2
    refine ⟨h0, _, by rw [hn], .inr ⟨b, 0, rfl, fun i hi => ?_⟩⟩
    obtain ⟨cs, h5, h6⟩ := h4 i hi
    refine ⟨cs, ?_, h6⟩
    have hbb := hb.resolve_left (by omega)
    unfold rng vw at h5 ⊢
    rw [hbb]
    exact h5
set_option maxHeartbeats 8000000 in
theorem lawEPF_ok {F : Nat → Option IFn} {f : Nat} (hf : F f = some c_lawEPF) (gsz : ∀ n, SzT F (Co.prog n) true 22 (tP n)) (gto : ∀ n, ToOkS F (Co.prog n) true .k 23) (gti : ToOkS F (Co.sl Co.int) false .k 24) (gs : FindS F 15) (gi : FindI F 16) (gep : EqOk F Co.plan true 25) (geq : ∀ n, EqOk F (Co.prog n) true 26) (gei : EqOk F (Co.sl Co.int) false 27) (gmp : ∀ n, MkOk F (Co.prog n) true 28 (cP n)) (gmi : MarkFlat F 1 29) (gmo : MkOk F (Co.sl Co.int) false 29 nInt) (hmp : F 30 = some c_markPlan) (hhp : F 31 = some c_heldPlan) (ghi : HeldFlat F 1 74) :
    ∀ (H : Heap) (n : Nat) (v u : Value) (a : TProg n) (ts : List Int), Rd (Co.prog n) true (vw 0 H) v a → SlR Co.int (vw 0 H) u ts → QC F f [v, u] H (.bool true) := by
  rintro H n v u ⟨ls, l⟩ ts hv hu
  obtain ⟨lv, sv, rfl, r1, r2⟩ := prog_un hv
  obtain ⟨_, la, rfl, _⟩ := id r1
  obtain ⟨_, sa, rfl, _⟩ := id r2
  obtain ⟨_, ta, rfl, _⟩ := id hu
  refine QC.mk hf rfl ?_
  refine seq_reg ?_
  simp only [go_sem, binC]
  refine wpc_gen fun H1 hH1 => ?_
  have x1 : AgX [] H H1 := hH1 ▸ AgX.app [] _ _
  have hb2 : H1[H.length]? = some ⟨[.slice la ls.length ls.length, .slice sa l.length l.length], 0, 0, false, true⟩ := hH1 ▸ get_new0 _ _
  have hn1 : H1.length = H.length + 1 := by rw [hH1, List.length_append]; rfl
  clear hH1 hv
  replace r1 := r1.mono (agx_sub x1)
  replace r2 := r2.mono (agx_sub x1)
  replace hu := hu.mono (agx_sub x1)
  refine seq_assoc (seq_reg ?_)
  simp only [go_sem, binC]
  by_cases hbig : 1048576 < (ts.length : Int)
  · refine seq_cond (t := true) (by simp only [go_sem, binC]; rw [decide_eq_true hbig]) ?_
    simp only [go_sem, binC]
    refine seq_assoc (seq_reg ?_)
    simp only [go_sem, binC]
    exact seq_ret ⟨Or.inr rfl, .bool true, by simp only [go_sem, binC], rfl, rfl⟩
  refine seq_cond (t := false) (by simp only [go_sem, binC]; rw [decide_eq_false hbig]) ?_
  simp only [go_sem, binC]
  refine seq_skip (seq_reg ?_)
  simp only [go_sem, binC]
  refine seq_reg ?_
  simp only [go_sem, binC, gc_of hb2, inBlk_some]
  obtain ⟨r, q1, q2, q3⟩ := gsz n H1 _ (ls, l) 1048576 (prog_rd r1 r2) (by omega) (by omega)
  refine op_callQ (by simp only [go_sem, binC]; exact q1) ?_
  simp only [go_sem, binC]
  refine seq_assoc (seq_reg ?_)
  simp only [go_sem, binC]
  by_cases hneg : r < 0
  · refine seq_cond (t := true) (by simp only [go_sem, binC]; rw [decide_eq_true hneg]) ?_
    simp only [go_sem, binC]
    refine seq_assoc (seq_reg ?_)
    simp only [go_sem, binC]
    exact seq_ret ⟨Or.inr rfl, .bool true, by simp only [go_sem, binC], rfl, rfl⟩
  refine seq_cond (t := false) (by simp only [go_sem, binC]; rw [decide_eq_false hneg]) ?_
  simp only [go_sem, binC]
  obtain ⟨hsm, htot⟩ := q3 (by omega)
  have hcp := cP_le (n := n) (ls, l)
  have hsi : (Co.sl Co.int).sm ts := ⟨by omega, fun _ _ => trivial⟩
  -- what is wanted
  refine seq_skip (seq_reg ?_)
  simp only [go_sem, binC, gc_of hb2, inBlk_some]
  refine (gto n).x (prog_rd r1 r2) hsm (by simp only [go_sem, binC]) fun w Ha xa ha => ?_
  obtain ⟨lw, sw, rfl, w1, w2⟩ := prog_un ha
  obtain ⟨_, aw1, rfl, _⟩ := id w1
  obtain ⟨_, aw2, rfl, _⟩ := id w2
  simp only [go_sem, binC]
  refine gti.x (sl_mk (hu.mono (agx_sub xa))) hsi (by simp only [go_sem, binC]) fun wt Hb xb hwt => ?_
  replace hwt := sl_un hwt
  obtain ⟨_, aw3, rfl, _⟩ := id hwt
  simp only [go_sem, binC]
  obtain ⟨_, Hc, kc, tvz, hvz, dvz, rfl, xc, pz⟩ := gs Hb n _ _ _ ls l ts (w1.mono (vws_x xb)) (w2.mono (vws_x xb)) hsm (hwt.mono (vws_x (AgX.refl _ _)))
  obtain ⟨z1, z2, z3⟩ := pz.sls
  obtain ⟨P, hPL⟩ : ∃ P, planL (findV n (ls, l) ts) ts (doesL n (ls, l) ts) = P := ⟨_, rfl⟩
  rw [hPL] at z1 z2 z3
  obtain ⟨fo, hfo⟩ : ∃ fo, (findV n (ls, l) ts).isSome = fo := ⟨_, rfl⟩
  rw [hfo] at kc
  refine op_callK (by simp only [go_sem, binC]; exact kc) ?_
  obtain ⟨_, za, rfl, _⟩ := id z1
  obtain ⟨_, zb, rfl, _⟩ := id z2
  obtain ⟨_, zc, rfl, _⟩ := id z3
  have la' := xa.1
  have lb' := xb.1
  have lc' := xc.1
  simp only [go_sem, binC]
  refine ⟨by omega, ?_⟩
  refine wpc_gen fun H2 hH2 => ?_
  have xc2 : AgX [] Hc H2 := hH2 ▸ AgX.app [] _ _
  have hb6 : H2[Hc.length]? = some ⟨[.slice za P.1.length P.1.length, .slice zb P.2.1.length P.2.1.length, .slice zc P.2.2.length P.2.2.length], 0, 0, false, true⟩ := hH2 ▸ get_new0 _ _
  have hn2 : H2.length = Hc.length + 1 := by rw [hH2, List.length_append]; rfl
  clear hH2 kc pz
  have x12 : AgX [] H1 H2 := ((xa.tr xb).tr xc).tr xc2
  replace z1 := z1.mono (agx_sub xc2)
  replace z2 := z2.mono (agx_sub xc2)
  replace z3 := z3.mono (agx_sub xc2)
  -- the first argument
  have hb22 := x12.get hb2 (by simp)
  refine seq_reg ?_
  simp only [go_sem, binC, gc_of hb22, inBlk_some]
  refine (gto n).x (prog_rd (r1.mono (agx_sub x12)) (r2.mono (agx_sub x12))) hsm (by simp only [go_sem, binC]) fun w0 H3 x3 ha3 => ?_
  obtain ⟨lx, sx, rfl, y1, y2⟩ := prog_un ha3
  obtain ⟨_, ax1, rfl, _⟩ := id y1
  obtain ⟨_, ax2, rfl, _⟩ := id y2
  have l3' := x3.1
  simp only [go_sem, binC]
  refine ⟨by omega, ?_⟩
  refine wpc_gen fun H4 hH4 => ?_
  have x34 : AgX [] H3 H4 := hH4 ▸ AgX.app [] _ _
  have hb8 : H4[H3.length]? = some ⟨[.slice ax1 ls.length ls.length, .slice ax2 l.length l.length], 0, 0, false, true⟩ := hH4 ▸ get_new0 _ _
  have hn4 : H4.length = H3.length + 1 := by rw [hH4, List.length_append]; rfl
  clear hH4
  have x14 := (x12.tr x3).tr x34
  -- the second argument
  refine seq_reg ?_
  simp only [go_sem, binC]
  refine gti.x (sl_mk (hu.mono (agx_sub x14))) hsi (by simp only [go_sem, binC]) fun vx H5 x5 hvx => ?_
  replace hvx := sl_un hvx
  obtain ⟨_, ax3, rfl, _⟩ := id hvx
  have l5' := x5.1
  simp only [go_sem, binC]
  -- what is got
  have hb85 := x5.get hb8 (by simp)
  have x35 := x34.tr x5
  refine seq_reg ?_
  simp only [go_sem, binC, gc_of hb85, inBlk_some]
  obtain ⟨iv, ih, id', H6, k6, x6, pr⟩ := gi H5 n _ _ _ ls l ts (y1.mono (vws_x x35)) (y2.mono (vws_x x35)) hsm (hvx.mono (vws_x (AgX.refl _ _)))
  obtain ⟨i1, i2, i3⟩ := pr.sls
  obtain ⟨f1, f2, f3, fl1, fl2, fl3, d12, d13, d23, hlen⟩ := pr.flats
  rw [hPL] at i1 i2 i3 fl1 fl2 fl3 d12 d13 d23 hlen
  rw [hfo] at k6
  refine op_callK (by simp only [go_sem, binC]; exact k6) ?_
  obtain ⟨_, ia, rfl, _⟩ := id i1
  obtain ⟨_, ib, rfl, _⟩ := id i2
  obtain ⟨_, ic, rfl, _⟩ := id i3
  have l6' := x6.1
  simp only [go_sem, binC]
  refine ⟨by omega, ?_⟩
  refine wpc_gen fun H7 hH7 => ?_
  have x67 : AgX [] H6 H7 := hH7 ▸ AgX.app [] _ _
  have hb10 : H7[H6.length]? = some ⟨[.slice ia P.1.length P.1.length, .slice ib P.2.1.length P.2.1.length, .slice ic P.2.2.length P.2.2.length], 0, 0, false, true⟩ := hH7 ▸ get_new0 _ _
  have hn7 : H7.length = H6.length + 1 := by rw [hH7, List.length_append]; rfl
  clear hH7 k6 pr
  have x57 := x6.tr x67
  have x27 := ((x3.tr x34).tr x5).tr x57
  have hb67 := x27.get hb6 (by simp)
  have hb87 := x57.get hb85 (by simp)
  have hb27 := x27.get hb22 (by simp)
  have x17 := x12.tr x27
  have hk7 := gep H7 _ _ (P.1, P.2.1, P.2.2) (plan_mk (i1.mono (agx_sub x67)) (i2.mono (agx_sub x67)) (i3.mono (agx_sub x67))) (plan_mk (z1.mono (agx_sub x27)) (z2.mono (agx_sub x27)) (z3.mono (agx_sub x27)))
  refine seq_assoc (seq_reg ?_)
  simp only [go_sem, binC, gc_of hb10, gc_of hb67, inBlk_some]
  refine op_callQ (by simp only [go_sem, binC]; exact hk7) ?_
  simp only [go_sem, binC, bne_self_eq_false, beq_self_eq_true, Bool.not_true]
  refine seq_cond (t := false) rfl ?_
  simp only [go_sem, binC]
  -- what was handed in reads as it did
  refine seq_skip (seq_assoc (seq_regD ?_))
  simp only [go_sem, binC, gc_of hb87, gc_of hb27, inBlk_some]
  refine (gto n).x (prog_rd (r1.mono (agx_sub x17)) (r2.mono (agx_sub x17))) hsm (by simp only [go_sem, binC]) fun w8 H8 x8 ha8 => ?_
  simp only [go_sem, binC]
  refine op_callQ (by simp only [go_sem, binC]; exact geq n H8 _ _ (ls, l) (prog_rd (y1.mono (vws_x ((x35.tr x57).tr x8))) (y2.mono (vws_x ((x35.tr x57).tr x8)))) (ha8.mono (vws_x (AgX.refl _ _)))) ?_
  simp only [go_sem, binC]
  refine seq_cond (t := false) rfl ?_
  simp only [go_sem, binC]
  refine seq_skip (seq_assoc (seq_reg ?_))
  simp only [go_sem, binC]
  refine gti.x (sl_mk (hu.mono (agx_sub (x17.tr x8)))) hsi (by simp only [go_sem, binC]) fun w9 H9 x9 ha9 => ?_
  simp only [go_sem, binC]
  refine op_callQ (by simp only [go_sem, binC]; exact gei H9 _ _ ts (sl_mk (hvx.mono (vws_x ((x57.tr x8).tr x9)))) (ha9.mono (vws_x (AgX.refl _ _)))) ?_
  simp only [go_sem, binC]
  refine seq_cond (t := false) rfl ?_
  simp only [go_sem, binC]
  have x79 := x8.tr x9
  have l9' := x79.1
  -- marks
  refine seq_skip (seq_reg ?_)
  simp only [go_sem, binC]
  have x39 := (x35.tr x57).tr x79
  have x59 := x57.tr x79
  have hb89 := x79.get hb87 (by simp)
  obtain ⟨H10, k10, fr10⟩ := gmp n H9 _ (ls, l) H2.length H3.length H.length 1 (prog_rd (y1.mono (vws_b x39)) (y2.mono (vws_b x39))) x39.1 (by omega) (by omega) (by omega)
  refine seq_reg ?_
  simp only [go_sem, binC, gc_of hb89, inBlk_some]
  refine op_callN (by simp only [go_sem, binC]; exact k10) ?_
  simp only [go_sem, binC]
  have l35' := x35.1
  have l57' := x57.1
  have Vx : Sub (vwb H4.length H5.length H9) (vwb H4.length H5.length H10) := vwb_same fun b h1 h2 => fr10.out (by have := x59.1; omega) (.inr (by omega))
  have l10' := fr10.1
  obtain ⟨H11, k11, fr11⟩ := gmo H10 _ ts H4.length H5.length H.length (1 + ((cP n (ls, l) : Nat) : Int)) (sl_mk ((hvx.mono (vws_b x59)).mono Vx)) (by have := x59.1; omega) (by omega) (by omega) (by unfold nInt; omega)
  refine seq_reg ?_
  simp only [go_sem, binC]
  refine op_callN (by simp only [go_sem, binC]; exact k11) ?_
  simp only [go_sem, binC]
  have l11' := fr11.1
  -- marked memory leaves what was got
  have hout : ∀ b, b < H9.length → (b < H2.length ∨ (H3.length ≤ b ∧ b < H4.length) ∨ H5.length ≤ b) → H11[b]? = H9[b]? := fun b h1 h2 => (fr11.out (by omega) (by omega)).trans (fr10.out (by omega) (by omega))
  have hg : ∀ {b : Nat} {k : Blk}, H9[b]? = some k → (b < H2.length ∨ (H3.length ≤ b ∧ b < H4.length) ∨ H5.length ≤ b) → H11[b]? = some k := fun h h2 => (hout _ (List.getElem?_eq_some_iff.1 h).1 h2).trans h
  have hb69 := x79.get hb67 (by simp)
  have hb109 := x79.get hb10 (by simp)
  have hb611 := hg hb69 (by omega)
  have hb1011 := hg hb109 (by omega)
  have hb29 := x79.get hb27 (by simp)
  have hb211 := hg hb29 (by omega)
  have x211 : AgX [] H2 H11 := fr11.agx (fr10.agx (x27.tr x79) (Nat.le_refl _)) (by omega)
  have x69 := x67.tr x79
  have hfe : ∀ {vv : Value} {m b : Nat}, FlatB H5.length H6.length H6 1 vv m b 0 → m = 0 ∨ H11[b]? = H6[b]? := fun h => (flat_lt h).imp id fun h => (hout _ (by have := x69.1; omega) (by omega)).trans (x69.2 _ h.2 (by simp))
  have j1 := flat_sl (H' := H11) fl1 i1 rfl (hfe fl1)
  have j2 := flat_sl (H' := H11) fl2 i2 rfl (hfe fl2)
  have j3 := flat_sl (H' := H11) fl3 i3 rfl (hfe fl3)
  have hk11 := gep H11 _ _ (P.1, P.2.1, P.2.2) (plan_mk j1 j2 j3) (plan_mk (z1.mono (agx_sub x211)) (z2.mono (agx_sub x211)) (z3.mono (agx_sub x211)))
  refine seq_assoc (seq_reg ?_)
  simp only [go_sem, binC]
  rw [decide_eq_false (show ¬ (1 + ((cP n (ls, l) : Nat) : Int) + ((nInt ts : Nat) : Int) < 0) by omega)]
  simp only [go_sem, binC, gc_of hb1011, gc_of hb611, inBlk_some]
  refine op_callQ (by simp only [go_sem, binC]; exact hk11) ?_
  simp only [go_sem, binC, bne_self_eq_false, beq_self_eq_true, Bool.not_true]
  refine seq_cond (t := false) rfl ?_
  simp only [go_sem, binC]
  -- marks on what was got
  have l69' := x69.1
  have q1 := fl1.mono (hi' := H11.length) (by omega) (hfe fl1)
  have q2 := fl2.mono (hi' := H11.length) (by omega) (hfe fl2)
  have q3 := fl3.mono (hi' := H11.length) (by omega) (hfe fl3)
  have t1 := flat_lt fl1
  have t2 := flat_lt fl2
  have t3 := flat_lt fl3
  obtain ⟨H12, k12, ⟨l12, o12⟩, e1, e2, e3⟩ := mkPlan_ok (lo0 := H.length) hmp gmi q1 q2 q3 d12 d13 d23 (by omega) (by omega) hlen
  refine seq_skip (seq_reg ?_)
  simp only [go_sem, binC]
  refine seq_reg ?_
  simp only [go_sem, binC, gc_of hb1011, inBlk_some]
  refine op_callN (by simp only [go_sem, binC]; exact k12) ?_
  simp only [go_sem, binC]
  have hg12 : ∀ {b : Nat} {k : Blk}, H11[b]? = some k → b = H6.length ∨ b < H5.length → H12[b]? = some k := fun h h2 => (o12 _ (List.getElem?_eq_some_iff.1 h).1 (t1.imp id fun h => by omega) (t2.imp id fun h => by omega) (t3.imp id fun h => by omega)).trans h
  have hb1012 := hg12 hb1011 (.inl rfl)
  have hb612 := hg12 hb611 (.inr (by omega))
  have hb212 := hg12 hb211 (.inr (by omega))
  have hq12 := hePlan_ok hhp ghi (t1.imp id fun h => by omega) (t2.imp id fun h => by omega) (t3.imp id fun h => by omega) e1 e2 e3 hlen
  have ng : ¬ (1 + ((P.1.length + P.2.1.length + P.2.2.length : Nat) : Int) < 0) := by omega
  refine seq_reg ?_
  simp only [go_sem, binC]
  refine seq_reg ?_
  simp only [go_sem, binC, gc_of hb1012, inBlk_some]
  refine op_callQ (by simp only [go_sem, binC]; exact hq12) ?_
  simp only [go_sem, binC]
  refine seq_assoc (seq_reg ?_)
  simp only [go_sem, binC]
  refine seq_cond (t := false) (by simp only [go_sem, binC]; rw [decide_eq_false ng]) ?_
  simp only [go_sem, binC]
  refine seq_skip (seq_assoc (seq_reg ?_))
  simp only [go_sem, binC, bne_self_eq_false]
  refine seq_cond (t := false) rfl ?_
  simp only [go_sem, binC]
  -- done again
  have x111 : AgX [] H1 H11 := fr11.agx (fr10.agx (x17.tr x79) (by omega)) (by omega)
  have x112 : AgX [] H1 H12 := ⟨Nat.le_trans x111.1 l12, fun b hb _ => (o12 b (by omega) (t1.imp id fun h => by omega) (t2.imp id fun h => by omega) (t3.imp id fun h => by omega)).trans (x111.2 b hb (by simp))⟩
  have x212 : AgX [] H2 H12 := ⟨Nat.le_trans x211.1 l12, fun b hb _ => (o12 b (by omega) (t1.imp id fun h => by omega) (t2.imp id fun h => by omega) (t3.imp id fun h => by omega)).trans (x211.2 b hb (by simp))⟩
  refine seq_skip (seq_reg ?_)
  simp only [go_sem, binC, gc_of hb212, inBlk_some]
  refine (gto n).x (prog_rd (r1.mono (agx_sub x112)) (r2.mono (agx_sub x112))) hsm (by simp only [go_sem, binC]) fun w13 H13 x13 ha13 => ?_
  obtain ⟨lg, sg, rfl, p1, p2⟩ := prog_un ha13
  obtain ⟨_, ag1, rfl, _⟩ := id p1
  obtain ⟨_, ag2, rfl, _⟩ := id p2
  simp only [go_sem, binC]
  refine gti.x (sl_mk (hu.mono (agx_sub (x112.tr x13)))) hsi (by simp only [go_sem, binC]) fun w14 H14 x14' ha14 => ?_
  replace ha14 := sl_un ha14
  obtain ⟨_, ag3, rfl, _⟩ := id ha14
  simp only [go_sem, binC]
  obtain ⟨gv, gh, gd, H15, k15, x15, pr2⟩ := gi H14 n _ _ _ ls l ts (p1.mono (vws_x x14')) (p2.mono (vws_x x14')) hsm (ha14.mono (vws_x (AgX.refl _ _)))
  obtain ⟨s1, s2, s3⟩ := pr2.sls
  rw [hPL] at s1 s2 s3
  rw [hfo] at k15
  refine op_callK (by simp only [go_sem, binC]; exact k15) ?_
  obtain ⟨_, ga, rfl, _⟩ := id s1
  obtain ⟨_, gb, rfl, _⟩ := id s2
  obtain ⟨_, gc, rfl, _⟩ := id s3
  have l13' := x13.1
  have l14' := x14'.1
  have l15' := x15.1
  simp only [go_sem, binC]
  refine ⟨by omega, ?_⟩
  refine wpc_gen fun H16 hH16 => ?_
  have x1516 : AgX [] H15 H16 := hH16 ▸ AgX.app [] _ _
  have hb15 : H16[H15.length]? = some ⟨[.slice ga P.1.length P.1.length, .slice gb P.2.1.length P.2.1.length, .slice gc P.2.2.length P.2.2.length], 0, 0, false, true⟩ := hH16 ▸ get_new0 _ _
  clear hH16 k15 pr2
  have x1216 := ((x13.tr x14').tr x15).tr x1516
  have hb616 := x1216.get hb612 (by simp)
  have hb1016 := x1216.get hb1012 (by simp)
  have x216 := x212.tr x1216
  have hk16 := gep H16 _ _ (P.1, P.2.1, P.2.2) (plan_mk (s1.mono (agx_sub x1516)) (s2.mono (agx_sub x1516)) (s3.mono (agx_sub x1516))) (plan_mk (z1.mono (agx_sub x216)) (z2.mono (agx_sub x216)) (z3.mono (agx_sub x216)))
  refine seq_assoc (seq_reg ?_)
  simp only [go_sem, binC, gc_of hb15, gc_of hb616, inBlk_some]
  refine op_callQ (by simp only [go_sem, binC]; exact hk16) ?_
  simp only [go_sem, binC, bne_self_eq_false, beq_self_eq_true, Bool.not_true]
  refine seq_cond (t := false) rfl ?_
  simp only [go_sem, binC]
  have l16 := x1216.1
  have hx16 : ∀ {m b : Nat}, m = 0 ∨ (H5.length ≤ b ∧ b < H6.length) → m = 0 ∨ H16[b]? = H12[b]? := fun h => h.imp id fun h => x1216.2 _ (by omega) (by simp)
  have hq16 := hePlan_ok (H := H16) hhp ghi (t1.imp id fun h => by omega) (t2.imp id fun h => by omega) (t3.imp id fun h => by omega) (e1.mono (hx16 t1)) (e2.mono (hx16 t2)) (e3.mono (hx16 t3)) hlen
  refine seq_skip (seq_reg ?_)
  simp only [go_sem, binC]
  refine seq_reg ?_
  simp only [go_sem, binC, gc_of hb1016, inBlk_some]
  refine op_callQ (by simp only [go_sem, binC]; exact hq16) ?_
  simp only [go_sem, binC]
  refine seq_assoc (seq_reg ?_)
  simp only [go_sem, binC]
  refine seq_cond (t := false) (by simp only [go_sem, binC]; rw [decide_eq_false ng]) ?_
  simp only [go_sem, binC]
  refine seq_skip (seq_assoc (seq_reg ?_))
  simp only [go_sem, binC, bne_self_eq_false]
  refine seq_cond (t := false) rfl ?_
  simp only [go_sem, binC]
  refine seq_skip (seq_reg ?_)
  simp only [go_sem, binC]
  exact wpc_ret ⟨Or.inr rfl, .bool true, by simp only [go_sem, binC], rfl, rfl⟩
end Go.Proofs.YtbjeldblaclpnaaI
end
section
/- The functions that the law FnExactPlanFind reaches, as ideal functions. -/
set_option linter.unusedVariables false
set_option linter.unusedSimpArgs false
namespace Go.Proofs.YtbjeldblaclpnaaI
open Go Go.RowKit
def fnOf : Nat → Option IFn
  | 4 => some (c_lawEPF)
  | 15 => some (c_sPlanFind)
  | 16 => some (c_iPlanFind)
  | 18 => some (c_sTypeOk)
  | 22 => some (c_szProg)
  | 23 => some (c_toProg)
  | 24 => some (toFlat 3)
  | 25 => some (c_eqPlan)
  | 26 => some (c_eqProg)
  | 27 => some (eqFlat)
  | 28 => some (c_markProg)
  | 29 => some (c_mark1)
  | 30 => some (c_markPlan)
  | 31 => some (c_heldPlan)
  | 43 => some (c_iTypeOk)
  | 49 => some (c_sTrusts)
  | 50 => some (c_sSee)
  | 51 => some (c_lFind)
  | 52 => some (c_iTrusts)
  | 53 => some (c_iAt)
  | 54 => some (c_iHomes)
  | 55 => some (c_iAll)
  | 56 => some (c_iDoer)
  | 57 => some (c_conK)
  | 58 => some (c_plClone)
  | 59 => some (c_sWhy)
  | 60 => some (c_sProg)
  | 61 => some (c_iProg)
  | 62 => some (c_iSize)
  | 64 => some (c_iHome1)
  | 65 => some (c_iDoes)
  | 66 => some (szFlat)
  | 67 => some (szNest 117 8 true)
  | 68 => some (toCall .q 118 2 38 16 [(.int .i64 0), (.int .i64 0)] true)
  | 69 => some (toCall .k 119 8 85 96 [(.int .i64 0), (.int .i64 0), (.int .i64 0), (.int .i64 0), (.int .i64 0), (.int .i64 0), (.slice none 0 0), (.slice none 0 0)] true)
  | 70 => some (eqCall 120 2 true)
  | 71 => some (eqCall 121 8 true)
  | 72 => some (c_mark2)
  | 73 => some (c_markStepS)
  | 74 => some (c_held1)
  | 78 => some (c_lHome)
  | 79 => some (c_sIn)
  | 80 => some (c_lStep)
  | 81 => some (c_iIn)
  | 82 => some (c_iHost)
  | 83 => some (c_iSets)
  | 85 => some (c_iVar)
  | 86 => some (c_iWhy0)
  | 90 => some (c_sEither)
  | 91 => some (c_sSet)
  | 92 => some (c_sHas)
  | 93 => some (c_sAllSteps)
  | 94 => some (c_sTypeAt)
  | 95 => some (c_sTypeSets)
  | 96 => some (c_sBy)
  | 97 => some (c_lDoes)
  | 98 => some (c_iSet)
  | 99 => some (c_iHas)
  | 100 => some (c_iLabels)
  | 101 => some (c_iEvery)
  | 102 => some (c_cloneI)
  | 103 => some (c_ixK)
  | 104 => some (c_sFine)
  | 105 => some (c_sLabelOk)
  | 106 => some (c_sSteps)
  | 107 => some (c_sCount)
  | 108 => some (c_con)
  | 109 => some (c_p1)
  | 110 => some (c_iLabelOk)
  | 111 => some (c_iSteps)
  | 114 => some (c_iWithin)
  | 115 => some (c_iBy)
  | 116 => some (c_iMakes)
  | 117 => some (c_szStep)
  | 118 => some (c_toLabel)
  | 119 => some (c_toStep)
  | 120 => some (c_eqLabel)
  | 121 => some (c_eqStep)
  | 122 => some (c_sWithin)
  | 123 => some (c_sVars21)
  | 124 => some (c_iSource)
  | 125 => some (c_iFlows)
  | 130 => some (c_sBoth)
  | 131 => some (c_sAll)
  | 132 => some (c_sAt)
  | 133 => some (c_sAny)
  | 134 => some (c_sSets)
  | 135 => some (c_iBoth)
  | 136 => some (c_sFlows)
  | 137 => some (c_sLBoth)
  | 138 => some (c_sValL)
  | 139 => some (c_sStep)
  | 140 => some (c_idx)
  | 141 => some (c_iVal)
  | 143 => some (c_vars)
  | 144 => some (c_toVal)
  | 145 => some (c_eqVal)
  | 147 => some (c_sVar)
  | 148 => some (c_sVal)
  | 149 => some (c_iNum)
  | _ => none
def cmOf (f : Nat) : CM := ⟨fun g => if [4, 18, 22, 25, 26, 27, 31, 43, 49, 52, 56, 57, 59, 60, 61, 62, 64, 65, 66, 67, 70, 71, 74, 78, 79, 80, 81, 82, 83, 85, 86, 90, 91, 92, 96, 98, 99, 101, 103, 104, 105, 106, 107, 108, 109, 110, 111, 114, 115, 117, 118, 120, 121, 122, 124, 125, 130, 131, 133, 134, 135, 136, 137, 138, 139, 140, 141, 144, 145, 147, 148, 149].contains g then .q else if [28, 29, 30, 50, 72, 73, 100, 132].contains g then .n else .k, if [28, 29, 30, 50, 72, 73, 100, 132].contains f then .n else .q, [51, 97].contains f⟩
theorem hF4 : cFn Try.prog cmOf 4 = some (c_lawEPF) := by kernel_rfl
theorem hF15 : cFn Try.prog cmOf 15 = some (c_sPlanFind) := by kernel_rfl
theorem hF16 : cFn Try.prog cmOf 16 = some (c_iPlanFind) := by kernel_rfl
theorem hF18 : cFn Try.prog cmOf 18 = some (c_sTypeOk) := by kernel_rfl
theorem hF22 : cFn Try.prog cmOf 22 = some (c_szProg) := by kernel_rfl
theorem hF23 : cFn Try.prog cmOf 23 = some (c_toProg) := by kernel_rfl
theorem hF24 : cFn Try.prog cmOf 24 = some (toFlat 3) := by kernel_rfl
theorem hF25 : cFn Try.prog cmOf 25 = some (c_eqPlan) := by kernel_rfl
theorem hF26 : cFn Try.prog cmOf 26 = some (c_eqProg) := by kernel_rfl
theorem hF27 : cFn Try.prog cmOf 27 = some (eqFlat) := by kernel_rfl
theorem hF28 : cFn Try.prog cmOf 28 = some (c_markProg) := by kernel_rfl
theorem hF29 : cFn Try.prog cmOf 29 = some (c_mark1) := by kernel_rfl
theorem hF30 : cFn Try.prog cmOf 30 = some (c_markPlan) := by kernel_rfl
theorem hF31 : cFn Try.prog cmOf 31 = some (c_heldPlan) := by kernel_rfl
theorem hF43 : cFn Try.prog cmOf 43 = some (c_iTypeOk) := by kernel_rfl
theorem hF49 : cFn Try.prog cmOf 49 = some (c_sTrusts) := by kernel_rfl
theorem hF50 : cFn Try.prog cmOf 50 = some (c_sSee) := by kernel_rfl
theorem hF51 : cFn Try.prog cmOf 51 = some (c_lFind) := by kernel_rfl
theorem hF52 : cFn Try.prog cmOf 52 = some (c_iTrusts) := by kernel_rfl
theorem hF53 : cFn Try.prog cmOf 53 = some (c_iAt) := by kernel_rfl
theorem hF54 : cFn Try.prog cmOf 54 = some (c_iHomes) := by kernel_rfl
theorem hF55 : cFn Try.prog cmOf 55 = some (c_iAll) := by kernel_rfl
theorem hF56 : cFn Try.prog cmOf 56 = some (c_iDoer) := by kernel_rfl
theorem hF57 : cFn Try.prog cmOf 57 = some (c_conK) := by kernel_rfl
theorem hF58 : cFn Try.prog cmOf 58 = some (c_plClone) := by kernel_rfl
theorem hF59 : cFn Try.prog cmOf 59 = some (c_sWhy) := by kernel_rfl
theorem hF60 : cFn Try.prog cmOf 60 = some (c_sProg) := by kernel_rfl
theorem hF61 : cFn Try.prog cmOf 61 = some (c_iProg) := by kernel_rfl
theorem hF62 : cFn Try.prog cmOf 62 = some (c_iSize) := by kernel_rfl
theorem hF64 : cFn Try.prog cmOf 64 = some (c_iHome1) := by kernel_rfl
theorem hF65 : cFn Try.prog cmOf 65 = some (c_iDoes) := by kernel_rfl
theorem hF66 : cFn Try.prog cmOf 66 = some (szFlat) := by kernel_rfl
theorem hF67 : cFn Try.prog cmOf 67 = some (szNest 117 8 true) := by kernel_rfl
theorem hF68 : cFn Try.prog cmOf 68 = some (toCall .q 118 2 38 16 [(.int .i64 0), (.int .i64 0)] true) := by kernel_rfl
theorem hF69 : cFn Try.prog cmOf 69 = some (toCall .k 119 8 85 96 [(.int .i64 0), (.int .i64 0), (.int .i64 0), (.int .i64 0), (.int .i64 0), (.int .i64 0), (.slice none 0 0), (.slice none 0 0)] true) := by kernel_rfl
theorem hF70 : cFn Try.prog cmOf 70 = some (eqCall 120 2 true) := by kernel_rfl
theorem hF71 : cFn Try.prog cmOf 71 = some (eqCall 121 8 true) := by kernel_rfl
theorem hF72 : cFn Try.prog cmOf 72 = some (c_mark2) := by kernel_rfl
theorem hF73 : cFn Try.prog cmOf 73 = some (c_markStepS) := by kernel_rfl
theorem hF74 : cFn Try.prog cmOf 74 = some (c_held1) := by kernel_rfl
theorem hF78 : cFn Try.prog cmOf 78 = some (c_lHome) := by kernel_rfl
theorem hF79 : cFn Try.prog cmOf 79 = some (c_sIn) := by kernel_rfl
theorem hF80 : cFn Try.prog cmOf 80 = some (c_lStep) := by kernel_rfl
theorem hF81 : cFn Try.prog cmOf 81 = some (c_iIn) := by kernel_rfl
theorem hF82 : cFn Try.prog cmOf 82 = some (c_iHost) := by kernel_rfl
theorem hF83 : cFn Try.prog cmOf 83 = some (c_iSets) := by kernel_rfl
theorem hF85 : cFn Try.prog cmOf 85 = some (c_iVar) := by kernel_rfl
theorem hF86 : cFn Try.prog cmOf 86 = some (c_iWhy0) := by kernel_rfl
theorem hF90 : cFn Try.prog cmOf 90 = some (c_sEither) := by kernel_rfl
theorem hF91 : cFn Try.prog cmOf 91 = some (c_sSet) := by kernel_rfl
theorem hF92 : cFn Try.prog cmOf 92 = some (c_sHas) := by kernel_rfl
theorem hF93 : cFn Try.prog cmOf 93 = some (c_sAllSteps) := by kernel_rfl
theorem hF94 : cFn Try.prog cmOf 94 = some (c_sTypeAt) := by kernel_rfl
theorem hF95 : cFn Try.prog cmOf 95 = some (c_sTypeSets) := by kernel_rfl
theorem hF96 : cFn Try.prog cmOf 96 = some (c_sBy) := by kernel_rfl
theorem hF97 : cFn Try.prog cmOf 97 = some (c_lDoes) := by kernel_rfl
theorem hF98 : cFn Try.prog cmOf 98 = some (c_iSet) := by kernel_rfl
theorem hF99 : cFn Try.prog cmOf 99 = some (c_iHas) := by kernel_rfl
theorem hF100 : cFn Try.prog cmOf 100 = some (c_iLabels) := by kernel_rfl
theorem hF101 : cFn Try.prog cmOf 101 = some (c_iEvery) := by kernel_rfl
theorem hF102 : cFn Try.prog cmOf 102 = some (c_cloneI) := by kernel_rfl
theorem hF103 : cFn Try.prog cmOf 103 = some (c_ixK) := by kernel_rfl
theorem hF104 : cFn Try.prog cmOf 104 = some (c_sFine) := by kernel_rfl
theorem hF105 : cFn Try.prog cmOf 105 = some (c_sLabelOk) := by kernel_rfl
theorem hF106 : cFn Try.prog cmOf 106 = some (c_sSteps) := by kernel_rfl
theorem hF107 : cFn Try.prog cmOf 107 = some (c_sCount) := by kernel_rfl
theorem hF108 : cFn Try.prog cmOf 108 = some (c_con) := by kernel_rfl
theorem hF109 : cFn Try.prog cmOf 109 = some (c_p1) := by kernel_rfl
theorem hF110 : cFn Try.prog cmOf 110 = some (c_iLabelOk) := by kernel_rfl
theorem hF111 : cFn Try.prog cmOf 111 = some (c_iSteps) := by kernel_rfl
theorem hF114 : cFn Try.prog cmOf 114 = some (c_iWithin) := by kernel_rfl
theorem hF115 : cFn Try.prog cmOf 115 = some (c_iBy) := by kernel_rfl
theorem hF116 : cFn Try.prog cmOf 116 = some (c_iMakes) := by kernel_rfl
theorem hF117 : cFn Try.prog cmOf 117 = some (c_szStep) := by kernel_rfl
theorem hF118 : cFn Try.prog cmOf 118 = some (c_toLabel) := by kernel_rfl
theorem hF119 : cFn Try.prog cmOf 119 = some (c_toStep) := by kernel_rfl
theorem hF120 : cFn Try.prog cmOf 120 = some (c_eqLabel) := by kernel_rfl
theorem hF121 : cFn Try.prog cmOf 121 = some (c_eqStep) := by kernel_rfl
theorem hF122 : cFn Try.prog cmOf 122 = some (c_sWithin) := by kernel_rfl
theorem hF123 : cFn Try.prog cmOf 123 = some (c_sVars21) := by kernel_rfl
theorem hF124 : cFn Try.prog cmOf 124 = some (c_iSource) := by kernel_rfl
theorem hF125 : cFn Try.prog cmOf 125 = some (c_iFlows) := by kernel_rfl
theorem hF130 : cFn Try.prog cmOf 130 = some (c_sBoth) := by kernel_rfl
theorem hF131 : cFn Try.prog cmOf 131 = some (c_sAll) := by kernel_rfl
theorem hF132 : cFn Try.prog cmOf 132 = some (c_sAt) := by kernel_rfl
theorem hF133 : cFn Try.prog cmOf 133 = some (c_sAny) := by kernel_rfl
theorem hF134 : cFn Try.prog cmOf 134 = some (c_sSets) := by kernel_rfl
theorem hF135 : cFn Try.prog cmOf 135 = some (c_iBoth) := by kernel_rfl
theorem hF136 : cFn Try.prog cmOf 136 = some (c_sFlows) := by kernel_rfl
theorem hF137 : cFn Try.prog cmOf 137 = some (c_sLBoth) := by kernel_rfl
theorem hF138 : cFn Try.prog cmOf 138 = some (c_sValL) := by kernel_rfl
theorem hF139 : cFn Try.prog cmOf 139 = some (c_sStep) := by kernel_rfl
theorem hF140 : cFn Try.prog cmOf 140 = some (c_idx) := by kernel_rfl
theorem hF141 : cFn Try.prog cmOf 141 = some (c_iVal) := by kernel_rfl
theorem hF143 : cFn Try.prog cmOf 143 = some (c_vars) := by kernel_rfl
theorem hF144 : cFn Try.prog cmOf 144 = some (c_toVal) := by kernel_rfl
theorem hF145 : cFn Try.prog cmOf 145 = some (c_eqVal) := by kernel_rfl
theorem hF147 : cFn Try.prog cmOf 147 = some (c_sVar) := by kernel_rfl
theorem hF148 : cFn Try.prog cmOf 148 = some (c_sVal) := by kernel_rfl
theorem hF149 : cFn Try.prog cmOf 149 = some (c_iNum) := by kernel_rfl
theorem hF (g : Nat) (fn : IFn) (h : fnOf g = some fn) : cFn Try.prog cmOf g = some fn := by
  unfold fnOf at h
  split at h
  · rw [← h]; exact hF4
  · rw [← h]; exact hF15
  · rw [← h]; exact hF16
  · rw [← h]; exact hF18
  · rw [← h]; exact hF22
  · rw [← h]; exact hF23
  · rw [← h]; exact hF24
  · rw [← h]; exact hF25
  · rw [← h]; exact hF26
  · rw [← h]; exact hF27
  · rw [← h]; exact hF28
  · rw [← h]; exact hF29
  · rw [← h]; exact hF30
  · rw [← h]; exact hF31
  · rw [← h]; exact hF43
  · rw [← h]; exact hF49
  · rw [← h]; exact hF50
  · rw [← h]; exact hF51
  · rw [← h]; exact hF52
  · rw [← h]; exact hF53
  · rw [← h]; exact hF54
  · rw [← h]; exact hF55
  · rw [← h]; exact hF56
  · rw [← h]; exact hF57
  · rw [← h]; exact hF58
  · rw [← h]; exact hF59
  · rw [← h]; exact hF60
  · rw [← h]; exact hF61
  · rw [← h]; exact hF62
  · rw [← h]; exact hF64
  · rw [← h]; exact hF65
  · rw [← h]; exact hF66
  · rw [← h]; exact hF67
  · rw [← h]; exact hF68
  · rw [← h]; exact hF69
  · rw [← h]; exact hF70
  · rw [← h]; exact hF71
  · rw [← h]; exact hF72
  · rw [← h]; exact hF73
  · rw [← h]; exact hF74
  · rw [← h]; exact hF78
  · rw [← h]; exact hF79
  · rw [← h]; exact hF80
  · rw [← h]; exact hF81
  · rw [← h]; exact hF82
  · rw [← h]; exact hF83
  · rw [← h]; exact hF85
  · rw [← h]; exact hF86
  · rw [← h]; exact hF90
  · rw [← h]; exact hF91
  · rw [← h]; exact hF92
  · rw [← h]; exact hF93
  · rw [← h]; exact hF94
  · rw [← h]; exact hF95
  · rw [← h]; exact hF96
  · rw [← h]; exact hF97
  · rw [← h]; exact hF98
  · rw [← h]; exact hF99
  · rw [← h]; exact hF100
  · rw [← h]; exact hF101
  · rw [← h]; exact hF102
  · rw [← h]; exact hF103
  · rw [← h]; exact hF104
  · rw [← h]; exact hF105
  · rw [← h]; exact hF106
  · rw [← h]; exact hF107
  · rw [← h]; exact hF108
  · rw [← h]; exact hF109
  · rw [← h]; exact hF110
  · rw [← h]; exact hF111
  · rw [← h]; exact hF114
  · rw [← h]; exact hF115
  · rw [← h]; exact hF116
  · rw [← h]; exact hF117
  · rw [← h]; exact hF118
  · rw [← h]; exact hF119
  · rw [← h]; exact hF120
  · rw [← h]; exact hF121
  · rw [← h]; exact hF122
  · rw [← h]; exact hF123
  · rw [← h]; exact hF124
  · rw [← h]; exact hF125
  · rw [← h]; exact hF130
  · rw [← h]; exact hF131
  · rw [← h]; exact hF132
  · rw [← h]; exact hF133
  · rw [← h]; exact hF134
  · rw [← h]; exact hF135
  · rw [← h]; exact hF136
  · rw [← h]; exact hF137
  · rw [← h]; exact hF138
  · rw [← h]; exact hF139
  · rw [← h]; exact hF140
  · rw [← h]; exact hF141
  · rw [← h]; exact hF143
  · rw [← h]; exact hF144
  · rw [← h]; exact hF145
  · rw [← h]; exact hF147
  · rw [← h]; exact hF148
  · rw [← h]; exact hF149
  · cases h
theorem hMixed : Try.prog.follows .mixedOrders = true := by kernel_rfl
theorem ok_iIn : ∀ (H : Heap) (a b c : Int), QC fnOf 81 [.int .i64 a, .int .i64 b, .int .i64 c] H (.bool (inB a b c)) := iIn_ok rfl
theorem ok_sIn : ∀ (H : Heap) (a b c : Int), QC fnOf 79 [.int .i64 a, .int .i64 b, .int .i64 c] H (.bool (inB a b c)) := sIn_ok rfl
theorem ok_iSet : ∀ (H : Heap) (a : Int), QC fnOf 98 [.int .i64 a] H (.bool (inB a 0 7)) := iSet_ok rfl ok_iIn
theorem ok_iHost : ∀ (H : Heap) (a : Int), QC fnOf 82 [.int .i64 a] H (.bool (inB a 0 2)) := iHost_ok rfl ok_iIn
theorem ok_iNum : ∀ (H : Heap) (a : Int), QC fnOf 149 [.int .i64 a] H (.bool (inB a 0 9)) := iNum_ok rfl ok_iIn
theorem ok_sAll : ∀ H, QC fnOf 131 [] H (.int .i64 7) := sAll_ok rfl
theorem ok_sSet : ∀ (H : Heap) (a : Int), QC fnOf 91 [.int .i64 a] H (.bool (inB a 0 7)) := sSet_ok rfl ok_sIn ok_sAll
theorem ok_iLabelOk : LabOk fnOf 110 := iLabelOk_ok rfl ok_iSet
theorem ok_sLabelOk : LabOk fnOf 105 := sLabelOk_ok rfl ok_sSet
theorem ok_iVar : VarOk fnOf 85 := iVar_ok rfl ok_iIn
theorem ok_sVar : VarOk fnOf 147 := sVar_ok rfl ok_sIn
theorem ok_iVal : ValOk fnOf 141 := iVal_ok rfl ok_iNum ok_iVar
theorem ok_sVal : ValOk fnOf 148 := sVal_ok rfl ok_sIn ok_sVar
theorem ok_sSteps : ∀ n, StepsOk fnOf 106 n := fun n => (sSteps_all rfl rfl ok_sIn ok_sVar ok_sVal n).1
theorem ok_iSteps : ∀ n, StepsOk fnOf 111 n := iSteps_all rfl ok_iVar ok_iVal ok_iHost
theorem ok_sCount : ∀ n, CntOk fnOf 107 n := cnt_all (fun _ h => sCount_ok rfl h) (sCount_z rfl)
theorem ok_iSize : ∀ n, CntOk fnOf 62 n := cnt_all (fun _ h => iSize_ok rfl h) (iSize_z rfl)
theorem ok_sProg : ProgOk fnOf 60 := sProg_ok rfl ok_sLabelOk ok_sSteps ok_sCount
theorem ok_iProg : ProgOk fnOf 61 := iProg_ok rfl (con_ok rfl (idx_ok rfl (p1_ok rfl ok_iLabelOk))) ok_iSteps ok_iSize
theorem ok_sHas : HasOk fnOf 92 := sHas_ok rfl
theorem ok_sWit : WitOk fnOf 122 := sWithin_ok rfl ok_sHas
theorem ok_sBoth : BothOk fnOf 130 := sBoth_ok rfl ok_sHas
theorem ok_sLBoth : LBothOk fnOf 137 := sLBoth_ok rfl ok_sLabelOk ok_sBoth
theorem ok_sFlows : FlowsOk fnOf 136 := sFlows_ok rfl ok_sLabelOk ok_sWit
theorem ok_sAny : ∀ H, QC fnOf 133 [] H (.agg #[.int .i64 7, .int .i64 7]) := sAny_ok rfl ok_sAll
theorem ok_sFine : FineOk fnOf 104 := sFine_ok rfl (sValL_ok rfl ok_sAny ok_sLBoth) ok_sLBoth ok_sFlows ok_sBoth ok_sHas
theorem ok_sAllSteps : ∀ n, AllOk fnOf 93 n := sAllSteps_all rfl
theorem ok_sAt : ∀ n, AtOk fnOf 132 n := sAt_all rfl ok_sLBoth
theorem ok_sTypeAt : TypeAtOk fnOf 94 := sTypeAt_ok rfl ok_sProg ok_sAny ok_sAt
theorem ok_iHas : HasOk fnOf 99 := iHas_ok rfl ok_iHost
theorem ok_iWit : WitOk fnOf 114 := iWithin_ok rfl
theorem ok_iBoth : ILBoth fnOf 135 := iBoth_ok rfl
theorem ok_iAt : AtP fnOf 53 := iAt_ok rfl (iLabels_all rfl ok_iBoth) (iEvery_ok rfl)
theorem ok_iWhy0 : WhyI fnOf 86 := iWhy0_ok rfl ok_iAt (iAll_all rfl) (iSource_ok rfl rfl ok_iBoth) (iFlows_ok rfl ok_iWit) ok_iHas
theorem ok_iTypeOk : TypeP fnOf 43 := iTypeOk_ok rfl ok_iProg ok_iWhy0
theorem ok_iTrusts : TrOk fnOf 52 := iTrusts_ok rfl ok_iSet ok_iHas
theorem ok_iBy : ByOk fnOf 115 := iBy_ok rfl ok_iHas
theorem ok_cloneI : CloneI fnOf 102 := cloneI_ok rfl
theorem ok_iDoes : DoesOk fnOf 65 := iDoes_ok rfl ok_iHas ok_iWit ok_iBy (iSets_all rfl) (iMakes_ok rfl rfl)
theorem ok_iHome1 : HomeI fnOf 64 := iHome1_ok rfl ok_iHas ok_iWit ok_iBy
theorem ok_sTrusts : TrOk fnOf 49 := sTrusts_ok rfl ok_sSet ok_sHas
theorem ok_sBy : ByOk fnOf 96 := sBy_ok rfl ok_sHas
theorem ok_sWhyV : WhyV fnOf 59 := sWhyV_ok rfl ok_sProg ok_sAllSteps ok_sTypeAt ok_sFine
theorem ok_sTypeOk : TypeP fnOf 18 := sTypeOk_ok rfl ok_sWhyV ok_sProg
theorem ok_sAllA : ∀ n, AllA fnOf 93 n := sAllA_all rfl
theorem ok_sTypeSets : SetsOk fnOf 95 := sTypeSets_ok rfl ok_sProg ok_sAllA (sSets_all rfl (sEither_ok rfl ok_sBoth))
theorem ok_sSee : SeeOk fnOf 50 := sSee_ok rfl ok_sAllA ok_sTypeAt ok_sTypeSets ok_sBy
theorem ok_lHome : LHome fnOf 78 := lHome_ok rfl ok_sHas ok_sWit
theorem ok_lStep : LStep fnOf 80 := lStep_ok rfl ok_sHas ok_sWit (sVars21_ok rfl)
theorem ok_iPlanFind : FindI fnOf 16 := iPlanFind_ok rfl ok_iTypeOk ok_iTrusts ok_iAt (iHomes_ok rfl ok_iHome1 ok_cloneI) (iAll_all rfl) (iDoer_ok rfl ok_iDoes) (conK_ok rfl rfl) (plClone_ok rfl ok_cloneI)
theorem ok_lDoes : LDoes fnOf 97 := lDoes_ok rfl ok_lStep
theorem ok_lFind : ∀ m, LFind fnOf 51 m := lFind_all rfl ok_lHome ok_lDoes
theorem ok_sPlanFind : FindS fnOf 15 := sPlanFind_ok rfl ok_sTypeOk ok_sTrusts ok_sSee ok_lFind
theorem ok_szProgT (n : Nat) : SzT fnOf (Co.prog n) true 22 (tP n) := szProgT_ok rfl (szFlatT_ok rfl (fun _ => ⟨trivial, trivial⟩)) (szStepsT_all rfl rfl n).2
theorem ok_toProgS (n : Nat) : ToOkS fnOf (Co.prog n) true .k 23 := toProg_okS rfl (toCallS_ok rfl rfl (by omega) (toLabel_okS rfl) rfl (va_t Co.p2)) (toStepsS_all rfl rfl (toVal_okS rfl) n).2
theorem ok_markProg (n : Nat) : MkOk fnOf (Co.prog n) true 28 (cP n) := markProg_ok rfl (mkLabs_ok rfl) sLab (mkSteps_all rfl n) (sS n)
theorem ok_toIntSS : ToOkS fnOf (Co.sl Co.int) false .k 24 := toFlatS_ok rfl
theorem ok_markFlat : MarkFlat fnOf 1 29 := mark1_ok rfl
theorem ok_markInt : MkOk fnOf (Co.sl Co.int) false 29 nInt := mkInts_ok rfl
theorem ok_heldInt : HeldFlat fnOf 1 74 := held1_ok rfl

theorem ok_eqIntS : EqOk fnOf (Co.sl Co.int) false 27 := eqFlat_ok rfl
theorem ok_eqLabel : EqOk fnOf Co.p2 true 120 := eqLabel_ok rfl
theorem ok_eqVal : EqOk fnOf Co.val true 145 := eqVal_ok rfl
theorem ok_eqLabelS : EqOk fnOf (Co.sl Co.p2) false 70 := eqCall_ok rfl ok_eqLabel rfl (va_t Co.p2)
theorem ok_eqSteps : ∀ n, EqOk fnOf (Co.step n) true 121 ∧ EqOk fnOf (Co.sl (Co.step n)) false 71 := by
  intro n
  induction n with
  | zero =>
    have z : EqOk fnOf (Co.step 0) true 121 := by
      rintro H v u a ⟨cs, _, h⟩
      exact h.elim
    exact ⟨z, eqCall_ok rfl z (step_w 0) (va_t (Co.step 0))⟩
  | succ n ih =>
    have z : EqOk fnOf (Co.step (n + 1)) true 121 := eqStep_ok rfl ok_eqVal ih.2 ih.2
    exact ⟨z, eqCall_ok rfl z (step_w (n + 1)) (va_t (Co.step (n + 1)))⟩
theorem ok_eqProg (n : Nat) : EqOk fnOf (Co.prog n) true 26 := eqProg_ok rfl ok_eqLabelS (ok_eqSteps n).2
theorem ok_eqPlan : EqOk fnOf Co.plan true 25 := eqPlan_ok rfl ok_eqIntS ok_eqIntS ok_eqIntS
theorem ok_law : ∀ (H : Heap) (n : Nat) (v u : Value) (a : TProg n) (ts : List Int), Rd (Co.prog n) true (vw 0 H) v a → SlR Co.int (vw 0 H) u ts → QC fnOf 4 [v, u] H (.bool true) := lawEPF_ok rfl ok_szProgT ok_toProgS ok_toIntSS ok_sPlanFind ok_iPlanFind ok_eqPlan ok_eqProg ok_eqIntS ok_markProg ok_markFlat ok_markInt rfl rfl ok_heldInt
end Go.Proofs.YtbjeldblaclpnaaI
end
