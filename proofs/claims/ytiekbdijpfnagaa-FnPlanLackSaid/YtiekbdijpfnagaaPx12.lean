/- Texts of this proof, merged: H23, GL32, BL32. -/
import Derived.Test.YtiekbdijpfnagaaPx11
import Derived.Test.YtiekbdijpfnagaaRows
section
/- The law FnPlanLack on the ideal machine. -/
set_option linter.unusedVariables false
set_option linter.unusedSimpArgs false
namespace Go.Proofs.YtiekbdijpfnagaaI
open Go Go.RowKit
def lawPLTail : ICode := (.seq (.reg (some 10) [
    ⟨(some 74), none, .mov (.t 10)⟩,
    ⟨(some 75), none, .un .not (.t 74)⟩,
    ⟨(some 76), none, .mov (.t 75)⟩,
    ⟨(some 77), (some (76, true)), .mov (.t 7)⟩,
    ⟨(some 78), (some (76, true)), .fad 0 (.t 3)⟩,
    ⟨(some 79), (some (76, true)), .load false 1 (.t 78)⟩,
    ⟨(some 80), (some (76, true)), .len (.t 79)⟩,
    ⟨(some 81), (some (76, true)), .load true 2 (.t 3)⟩,
    ⟨(some 82), (some (76, true)), .call .q (.f 16) [(.t 81)]⟩,
    ⟨(some 83), (some (76, true)), .bin .add (.t 80) (.t 82)⟩,
    ⟨(some 84), (some (76, true)), .bin .lss (.t 77) (.t 83)⟩,
    ⟨(some 85), none, .pick (.t 76) (.t 84) (.c (.bool false))⟩,
    ⟨(some 2), none, .mov (.t 85)⟩])
 (.ret))
def c_lawPL : IFn := ⟨1, 86, [.t 2],
 .seq (.reg none [
    ⟨(some 2), none, .mov (.c (.bool false))⟩])
 (.seq (.seq (.reg none [
     ⟨(some 12), none, .mov (.t 0)⟩,
     ⟨(some 13), none, .len (.t 12)⟩,
     ⟨(some 14), none, .bin .gtr (.t 13) (.c (.int .i64 1048576))⟩])
  (.cond (.t 14) (.seq (.reg none [
      ⟨(some 2), none, .mov (.c (.bool true))⟩])
   (.ret)) (.skip)))
 (.seq (.reg none [
    ⟨(some 16), none, .mov (.t 0)⟩,
    ⟨(some 17), none, .call .k (.f 28) [(.t 16)]⟩,
    ⟨(some 15), none, .mov (.t 17)⟩,
    ⟨(some 18), none, .ext (.t 15) 0⟩,
    ⟨(some 19), none, .ext (.t 15) 1⟩,
    ⟨(some 3), none, .new [(.slice none 0 0), (.slice none 0 0)]⟩,
    ⟨none, none, .store 2 (.t 3) (.t 18)⟩,
    ⟨(some 4), none, .mov (.t 19)⟩])
 (.seq (.reg none [
    ⟨(some 21), none, .load true 2 (.t 3)⟩,
    ⟨(some 22), none, .mov (.t 4)⟩,
    ⟨(some 23), none, .call .q (.f 29) [(.t 21), (.t 22)]⟩,
    ⟨(some 20), none, .mov (.t 23)⟩,
    ⟨(some 24), none, .ext (.t 20) 0⟩,
    ⟨(some 25), none, .ext (.t 20) 1⟩,
    ⟨(some 5), none, .mov (.t 24)⟩,
    ⟨(some 6), none, .mov (.t 25)⟩])
 (.seq (.reg none [
    ⟨(some 27), none, .load true 2 (.t 3)⟩,
    ⟨(some 28), none, .mov (.t 4)⟩,
    ⟨(some 29), none, .call .q (.f 30) [(.t 27), (.t 28)]⟩,
    ⟨(some 26), none, .mov (.t 29)⟩,
    ⟨(some 30), none, .ext (.t 26) 0⟩,
    ⟨(some 31), none, .ext (.t 26) 1⟩,
    ⟨(some 7), none, .mov (.t 30)⟩,
    ⟨(some 8), none, .mov (.t 31)⟩])
 (.seq (.seq (.reg none [
     ⟨(some 32), none, .mov (.t 8)⟩,
     ⟨(some 33), none, .mov (.t 6)⟩,
     ⟨(some 34), none, .beq true (.t 32) (.t 33)⟩,
     ⟨(some 35), none, .mov (.t 34)⟩,
     ⟨(some 36), (some (35, false)), .mov (.t 7)⟩,
     ⟨(some 37), (some (35, false)), .mov (.t 5)⟩,
     ⟨(some 38), (some (35, false)), .bin .neq (.t 36) (.t 37)⟩,
     ⟨(some 39), none, .pick (.t 35) (.c (.bool true)) (.t 38)⟩,
     ⟨(some 40), none, .mov (.t 39)⟩,
     ⟨(some 41), (some (40, false)), .mov (.t 8)⟩,
     ⟨(some 42), (some (40, false)), .un .not (.t 41)⟩,
     ⟨(some 43), none, .pick (.t 40) (.c (.bool true)) (.t 42)⟩])
  (.cond (.t 43) (.seq (.reg none [
      ⟨(some 44), none, .mov (.t 8)⟩,
      ⟨(some 45), none, .mov (.t 6)⟩,
      ⟨(some 46), none, .beq false (.t 44) (.t 45)⟩,
      ⟨(some 47), none, .mov (.t 46)⟩,
      ⟨(some 48), (some (47, true)), .mov (.t 7)⟩,
      ⟨(some 49), (some (47, true)), .mov (.t 5)⟩,
      ⟨(some 50), (some (47, true)), .bin .eql (.t 48) (.t 49)⟩,
      ⟨(some 51), none, .pick (.t 47) (.t 50) (.c (.bool false))⟩,
      ⟨(some 2), none, .mov (.t 51)⟩])
   (.ret)) (.skip)))
 (.seq (.reg none [
    ⟨(some 53), none, .load true 2 (.t 3)⟩,
    ⟨(some 54), none, .mov (.t 4)⟩,
    ⟨(some 55), none, .call .k (.f 12) [(.t 53), (.t 54)]⟩,
    ⟨(some 52), none, .mov (.t 55)⟩,
    ⟨(some 56), none, .ext (.t 52) 0⟩,
    ⟨(some 57), none, .ext (.t 52) 1⟩,
    ⟨(some 9), none, .new [(.slice none 0 0), (.slice none 0 0), (.slice none 0 0)]⟩,
    ⟨none, none, .store 3 (.t 9) (.t 56)⟩,
    ⟨(some 10), none, .mov (.t 57)⟩])
 (.seq (.seq (.reg none [
     ⟨(some 11), none, .mov (.c (.int .i64 0))⟩])
  (.block 0 (.loop (.seq (.seq (.reg none [
        ⟨(some 58), none, .mov (.t 11)⟩,
        ⟨(some 59), none, .bin .lss (.t 58) (.c (.int .i64 3))⟩,
        ⟨(some 60), none, .mov (.t 59)⟩,
        ⟨(some 61), (some (60, true)), .mov (.t 7)⟩,
        ⟨(some 62), (some (60, true)), .fad 0 (.t 3)⟩,
        ⟨(some 63), (some (60, true)), .load false 1 (.t 62)⟩,
        ⟨(some 64), (some (60, true)), .len (.t 63)⟩,
        ⟨(some 65), (some (60, true)), .bin .lss (.t 61) (.t 64)⟩,
        ⟨(some 66), none, .pick (.t 60) (.t 65) (.c (.bool false))⟩])
     (.cond (.t 66) (.skip) (.exit 0)))
    (.seq (.block 1 (.seq (.reg none [
         ⟨(some 69), none, .load true 2 (.t 3)⟩,
         ⟨(some 70), none, .mov (.t 4)⟩,
         ⟨(some 71), none, .mov (.t 7)⟩,
         ⟨(some 72), none, .mov (.t 11)⟩,
         ⟨(some 73), none, .call .q (.f 31) [(.t 69), (.t 70), (.t 71), (.t 72)]⟩])
      (.cond (.t 73) (.seq (.reg none [
          ⟨(some 2), none, .mov (.c (.bool false))⟩])
       (.ret)) (.skip))))
    (.reg none [
      ⟨(some 67), none, .mov (.t 11)⟩,
      ⟨(some 68), none, .bin .add (.t 67) (.c (.int .i64 1))⟩,
      ⟨(some 11), none, .mov (.t 68)⟩]))))))
 lawPLTail)))))))⟩
theorem find_range {P : Nat → Bool} {k i : Nat} (h : (List.range k).find? P = some i) : i < k ∧ P i = true := by
  have h1 := List.find?_some h
  have h2 := List.mem_of_find?_eq_some h
  exact ⟨by simpa using h2, h1⟩
theorem any3 {P : Int → Bool} (h : ([0, 1, 2] : List Int).any P = false) {x : Int} (h0 : 0 ≤ x) (h2 : x ≤ 2) : P x = false := by
  have hh : x = 0 ∨ x = 1 ∨ x = 2 := by omega
  simp only [List.any_cons, List.any_nil, Bool.or_false, Bool.or_eq_false_iff] at h
  rcases hh with rfl | rfl | rfl
  · exact h.1
  · exact h.2.1
  · exact h.2.2
/-- Where something has no host no plan is found. -/
theorem lack_true {n : Nat} {ls : List (Int × Int)} {l : List (TStep n)} {ts : List Int} (h : (lackV n (ls, l) ts).2 = true) : progB n (ls, l) = true ∧ findV n (ls, l) ts = none ∧ 0 ≤ (lackV n (ls, l) ts).1 ∧ (lackV n (ls, l) ts).1 < ls.length + (allL n l).length ∧ ((lackV n (ls, l) ts).1 < ls.length → ∀ h, homeV n (ls, l) ts (lackV n (ls, l) ts).1 h = false) := by
  by_cases hc : (typeP n (ls, l) && trK ts) = true
  · have hP : progB n (ls, l) = true := by
      unfold typeP at hc
      simp only [Bool.and_eq_true] at hc
      exact hc.1.1
    have hsl := allSL_len l
    have hf : findV n (ls, l) ts = (hmL ls ts ls.length).find? (fitsB n (ls, l) ts) := by unfold findV; rw [if_pos hc]
    have hl : lackV n (ls, l) ts = (match (List.range ls.length).find? (noHome ls ts) with
      | some v => ((v : Int), true)
      | none => match (List.range (allSL n l).length).find? (noDo n ls l ts) with
        | some j => ((ls.length : Int) + j, true)
        | none => (0, false)) := by unfold lackV; rw [if_pos hc]; rfl
    cases h1 : (List.range ls.length).find? (noHome ls ts) with
    | some v =>
      rw [h1] at hl
      obtain ⟨hv, hp⟩ := find_range h1
      unfold noHome at hp
      rw [Bool.not_eq_true'] at hp
      rw [hl]
      refine ⟨hP, ?_, by simp, by simp; omega, fun _ h => ?_⟩
      · rw [hf, List.find?_eq_none]
        intro homes hm
        obtain ⟨e1, e2, e3⟩ := hmL_el _ _ hm
        have h4 := e3 v (by omega)
        have h5 := e2 _ (List.getElem_mem (show v < homes.length by omega))
        rw [any3 hp h5.1 h5.2] at h4
        cases h4
      · unfold homeV
        cases hin : inB h 0 2 with
        | false => simp
        | true =>
          have q := inB_iff.1 hin
          simp only
          rw [any3 hp q.1 q.2]
          simp
    | none =>
      rw [h1] at hl
      simp only at hl
      cases h2 : (List.range (allSL n l).length).find? (noDo n ls l ts) with
      | none =>
        rw [h2] at hl
        rw [hl] at h
        cases h
      | some j =>
        rw [h2] at hl
        simp only at hl
        obtain ⟨hj, hp⟩ := find_range h2
        unfold noDo at hp
        rw [Bool.not_eq_true', List.any_eq_false] at hp
        rw [hl]
        refine ⟨hP, ?_, by simp; omega, by simp; omega, fun h => absurd h (by simp; omega)⟩
        rw [hf, List.find?_eq_none]
        intro homes hm hft
        have h3 := hp homes hm
        have hjd : j < (doesL n (ls, l) ts homes).length := by
          have hdl : (doesL n (ls, l) ts homes).length = (allL n l).length := doesL_len
          omega
        have h4 := doesL_at (ts := ts) (homes := homes) hj hjd
        have h5 : firstH (doN n ls l ts homes j) = -1 := by
          have hr := firstH_rg (doN n ls l ts homes j)
          have : ¬ (0 ≤ firstH (doN n ls l ts homes j)) := fun h => h3 (firstH_ge.1 h)
          omega
        unfold fitsB at hft
        rw [Bool.not_eq_true', decide_eq_false_iff_not] at hft
        rw [h5] at h4
        exact hft (h4 ▸ List.getElem_mem hjd)
  · unfold lackV at h
    rw [if_neg hc] at h
    cases h
theorem lawPL_ok {F : Nat → Option IFn} {f : Nat} (hf : F f = some c_lawPL) (gd : DrawNumsOk F 28) (gs : LackOk F 29) (gi : LackOk F 30) (gf : FindI F 12) (gh : HomeV F 31) (gz : SizeOk F 16) : LawB F f := by
  intro H v code hv
  have hv0 := hv
  obtain ⟨h0, a, rfl, _⟩ := hv
  refine QC.mk hf rfl ?_
  refine seq_reg ?_
  simp only [go_sem, binC]
  refine seq_assoc (seq_reg ?_)
  simp only [go_sem, binC]
  by_cases hbig : 1048576 < (code.length : Int)
  · refine seq_cond (t := true) (by simp only [go_sem, binC]; rw [decide_eq_true hbig]) ?_
    simp only [go_sem, binC]
    refine seq_assoc (seq_reg ?_)
    simp only [go_sem, binC]
    exact seq_ret ⟨Or.inr rfl, .bool true, by simp only [go_sem, binC], rfl, rfl⟩
  refine seq_cond (t := false) (by simp only [go_sem, binC]; rw [decide_eq_false hbig]) ?_
  simp only [go_sem, binC]
  refine seq_skip (seq_reg ?_)
  simp only [go_sem, binC]
  obtain ⟨d, lv, sv, tv, ls, l, ts, H1, k, hx, r1, r2, r3, r4⟩ := gd H _ code hv0
  have hl1 := hx.1
  obtain ⟨hls0, la0, rfl, _⟩ := id r1
  have osv : one sv = true := by obtain ⟨_, a, rfl, _⟩ := r2; rfl
  obtain ⟨_, ta0, rfl, _⟩ := id r4
  refine op_callK (by simp only [go_sem, binC]; exact k) ?_
  simp only [go_sem, binC, osv]
  refine ⟨by omega, ?_⟩
  refine wpc_gen fun H2 hH2 => ?_
  have hb : H2[H1.length]? = some ⟨[.slice la0 ls.length ls.length, sv], 0, 0, false, true⟩ := hH2 ▸ get_new0 _ _
  have hy : AgX [] H1 H2 := hH2 ▸ AgX.app [] _ _
  have hl2 : H2.length = H1.length + 1 := by rw [hH2, List.length_append]; rfl
  replace r1 := r1.mono (agx_sub hy)
  replace r2 := r2.mono (agx_sub hy)
  replace r4 := r4.mono (agx_sub hy)
  clear hH2 k
  have hs1 := gs H2 d _ _ _ ls l ts r1 r2 r3 r4
  have hs2 := gi H2 d _ _ _ ls l ts r1 r2 r3 r4
  have hfact := lack_true (n := d) (ls := ls) (l := l) (ts := ts)
  generalize lackV d (ls, l) ts = lk at *
  obtain ⟨m, lack⟩ := lk
  simp only at hs1 hs2 hfact
  refine seq_reg ?_
  simp only [go_sem, binC, gc_of hb, inBlk_some, osv]
  refine op_callQ (by simp only [go_sem, binC]; exact hs1) ?_
  simp only [go_sem, binC]
  refine seq_reg ?_
  simp only [go_sem, binC, gc_of hb, inBlk_some, osv]
  refine op_callQ (by simp only [go_sem, binC]; exact hs2) ?_
  simp only [go_sem, binC]
  refine seq_assoc (seq_reg ?_)
  cases lack with
  | false =>
    simp only [go_sem, binC, bne_self_eq_false, beq_self_eq_true]
    refine seq_cond (t := true) rfl ?_
    simp only [go_sem, binC]
    refine seq_assoc (seq_reg ?_)
    simp only [go_sem, binC, beq_self_eq_true]
    exact seq_ret ⟨Or.inr rfl, .bool true, by simp only [go_sem, binC], rfl, rfl⟩
  | true =>
  obtain ⟨hP, hnone, hm0, hm1, hhome⟩ := hfact rfl
  have hls4 : ls.length ≤ 4 := progB_len hP
  have hcnt : (allL d l).length ≤ 8 := progB_cnt hP r3
  simp only [go_sem, binC, bne_self_eq_false, beq_self_eq_true]
  refine seq_cond (t := false) rfl ?_
  simp only [go_sem, binC]
  refine seq_skip (seq_reg ?_)
  simp only [go_sem, binC, gc_of hb, inBlk_some, osv]
  obtain ⟨pv, hv', dv, H3, k3, hx3, hpr⟩ := gf H2 d _ _ _ ls l ts r1 r2 r3 r4
  rw [hnone] at k3 hpr
  obtain ⟨rfl, rfl, rfl⟩ := hpr
  refine op_callK (by simp only [go_sem, binC]; exact k3) ?_
  have hl3 := hx3.1
  simp only [go_sem, binC]
  refine ⟨by omega, ?_⟩
  refine wpc_gen fun H4 hH4 => ?_
  have hx4 : AgX [] H3 H4 := hH4 ▸ AgX.app [] _ _
  clear hH4
  have hx24 := hx3.tr hx4
  have hb4 := hx24.get hb (by simp)
  replace r1 := r1.mono (agx_sub hx24)
  replace r2 := r2.mono (agx_sub hx24)
  replace r4 := r4.mono (agx_sub hx24)
  refine seq_assoc (seq_reg ?_)
  simp only [go_sem, binC]
  refine seq_block (wpc_loop ?_)
  suffices hh : ∀ (k i : Nat) (e : Env), i + k = 3 → e 3 = ptr H1.length 0 → e 4 = .slice ta0 ts.length ts.length → e 7 = .int .i64 m → e 10 = .bool false → e 11 = .int .i64 i → W F H.length _ e H4 _ from
    hh 3 0 _ rfl (by simp only [go_sem, binC]) (by simp only [go_sem, binC]) (by simp only [go_sem, binC]) (by (simp only [go_sem, binC]) <;> rfl) (by (simp only [go_sem, binC]) <;> rfl)
  have hfin : ∀ e : Env, e 3 = ptr H1.length 0 → e 7 = .int .i64 m → e 10 = .bool false → ∀ KK : X → Env → Heap → Prop, (∀ e', e' 2 = .bool true → KK .r e' H4) → wpc F H.length lawPLTail e H4 KK := fun e e3 e7 e10 KK hKK => by
    unfold lawPLTail
    refine seq_regD ?_
    simp only [go_sem, binC, e10, e7, e3, gc_of hb4, inBlk_some, osv]
    refine op_callQ (by simp only [go_sem, binC]; exact gz H4 d _ _ ls l r1 r2 r3 hP) ?_
    have hw : IntKind.i64.wrap ((ls.length : Int) + ((allL d l).length : Int)) = (ls.length : Int) + ((allL d l).length : Int) := wrap_id (by omega) (by omega)
    simp only [go_sem, binC, hw, e7]
    rw [decide_eq_true hm1]
    exact wpc_ret (hKK _ (by simp only [go_sem, binC]))
  intro k
  induction k with
  | zero =>
    intro i e hi e3 e4 e7 e10 e11
    obtain rfl : i = 3 := by omega
    have hd3 : decide (((3 : Nat) : Int) < 3) = false := rfl
    refine lp_step ?_
    refine seq_assoc (seq_reg ?_)
    simp only [go_sem, binC, e11, hd3]
    refine seq_cond (t := false) (by simp only [go_sem, binC]) ?_
    simp only [go_sem, binC]
    refine seq_exit ?_
    simp only [go_sem, binC, thenX_e, out_e, thenX_n]
    exact hfin _ (by simp only [go_sem, binC, e3]) (by simp only [go_sem, binC, e7]) (by simp only [go_sem, binC, e10]) _ fun e' he' => ⟨Or.inr rfl, .bool true, by simp only [go_sem, binC, he'], rfl, rfl⟩
  | succ k ih =>
    intro i e hi e3 e4 e7 e10 e11
    have hdi : decide ((i : Int) < 3) = true := decide_eq_true (by omega)
    have hw1 : IntKind.i64.wrap ((i : Int) + 1) = ((i + 1 : Nat) : Int) := by rw [wrap_id (by omega) (by omega)]; omega
    refine lp_step ?_
    refine seq_assoc (seq_reg ?_)
    simp only [go_sem, binC, e11, hdi, e7, e3, gc_of hb4, inBlk_some]
    by_cases hml : m < ls.length
    · refine seq_cond (t := true) (by simp only [go_sem, binC]; rw [decide_eq_true hml]) ?_
      simp only [go_sem, binC]
      refine seq_skip (seq_block (seq_reg ?_))
      simp only [go_sem, binC, e3, e4, e7, e11, gc_of hb4, inBlk_some, osv]
      have hc := gh H4 d _ sv _ ls l ts m i r1 r2 r3 r4
      rw [hhome hml] at hc
      refine op_callQ (by simp only [go_sem, binC, e4, e7, e11]; exact hc) ?_
      simp only [go_sem, binC]
      refine wpc_cond (t := false) rfl ?_
      simp only [go_sem, binC]
      refine wpc_skip ?_
      simp only [go_sem, binC, out_n, thenX_n]
      refine wpc_reg ?_
      simp only [go_sem, binC, e11, hw1]
      simp only [go_sem, binC, thenX_n]
      exact ih (i + 1) _ (by omega) (by simp only [go_sem, binC, e3]) (by simp only [go_sem, binC, e4]) (by simp only [go_sem, binC, e7]) (by simp only [go_sem, binC, e10]) (by simp only [go_sem, binC])
    · refine seq_cond (t := false) (by simp only [go_sem, binC]; rw [decide_eq_false hml]) ?_
      simp only [go_sem, binC]
      refine seq_exit ?_
      simp only [go_sem, binC, thenX_e, out_e, thenX_n]
      exact hfin _ (by simp only [go_sem, binC, e3]) (by simp only [go_sem, binC, e7]) (by simp only [go_sem, binC, e10]) _ fun e' he' => ⟨Or.inr rfl, .bool true, by simp only [go_sem, binC, he'], rfl, rfl⟩
end Go.Proofs.YtiekbdijpfnagaaI
end
section
/- The functions that the law FnPlanLack reaches, as ideal functions. -/
set_option linter.unusedVariables false
set_option linter.unusedSimpArgs false
namespace Go.Proofs.YtiekbdijpfnagaaI
open Go Go.RowKit
def fnOf : Nat → Option IFn
  | 5 => some (c_lawPL)
  | 12 => some (c_iPlanFind)
  | 14 => some (c_sTypeOk)
  | 16 => some (c_iProgSize)
  | 28 => some (c_drPL)
  | 29 => some (c_sPlanLack)
  | 30 => some (c_iPlanLack)
  | 31 => some (c_iPlanHome)
  | 40 => some (c_l6Open)
  | 41 => some (c_pick)
  | 44 => some (c_drTrusts)
  | 45 => some (c_sTrusts)
  | 46 => some (c_sSee)
  | 48 => some (c_iTypeOk)
  | 49 => some (c_iTrusts)
  | 50 => some (c_iAt)
  | 51 => some (c_iHomes)
  | 52 => some (c_iAll)
  | 53 => some (c_iDoer)
  | 54 => some (c_conK)
  | 55 => some (c_plClone)
  | 56 => some (c_sWhy)
  | 57 => some (c_sProg)
  | 58 => some (c_iProg)
  | 59 => some (c_iSize)
  | 61 => some (c_iHome1)
  | 62 => some (c_iDoes)
  | 72 => some (c_drFine)
  | 73 => some (c_lHome)
  | 74 => some (c_lSome)
  | 75 => some (c_cfInt)
  | 76 => some (c_pl1)
  | 77 => some (c_cfLL)
  | 78 => some (c_pl2)
  | 79 => some (c_iVar)
  | 80 => some (c_iHost)
  | 84 => some (c_sIn)
  | 85 => some (c_lStep)
  | 94 => some (c_iWhy0)
  | 96 => some (c_drProg)
  | 98 => some (c_sEither)
  | 99 => some (c_sSet)
  | 100 => some (c_sHas)
  | 101 => some (c_sAllSteps)
  | 102 => some (c_sTypeAt)
  | 103 => some (c_sTypeSets)
  | 104 => some (c_sBy)
  | 106 => some (c_iSet)
  | 107 => some (c_iHas)
  | 108 => some (c_iLabels)
  | 109 => some (c_iEvery)
  | 110 => some (c_cloneI)
  | 111 => some (c_ixK)
  | 112 => some (c_sFine)
  | 113 => some (c_sLabelOk)
  | 114 => some (c_sSteps)
  | 115 => some (c_sCount)
  | 116 => some (c_con)
  | 117 => some (c_p1)
  | 118 => some (c_iLabelOk)
  | 119 => some (c_iSteps)
  | 121 => some (c_iWithin)
  | 122 => some (c_iBy)
  | 123 => some (c_iSets)
  | 124 => some (c_iMakes)
  | 130 => some (c_sWithout)
  | 131 => some (c_sWithin)
  | 132 => some (c_ifInt)
  | 133 => some (c_ifLL)
  | 134 => some (c_iIn)
  | 135 => some (c_sVars21)
  | 137 => some (c_iSource)
  | 138 => some (c_iFlows)
  | 139 => some (c_drLabel)
  | 140 => some (c_drSteps)
  | 142 => some (c_sBoth)
  | 143 => some (c_sAll)
  | 144 => some (c_sAt)
  | 145 => some (c_sAny)
  | 146 => some (c_sSets)
  | 147 => some (c_iBoth)
  | 148 => some (c_sFlows)
  | 149 => some (c_sLBoth)
  | 150 => some (c_sValL)
  | 151 => some (c_sStep)
  | 152 => some (c_idx)
  | 153 => some (c_iVal)
  | 154 => some (c_vars)
  | 157 => some (c_drVal)
  | 158 => some (c_sVar)
  | 159 => some (c_sVal)
  | 160 => some (c_iNum)
  | _ => none
def cmOf (f : Nat) : CM := ⟨fun g => if [5, 14, 16, 29, 30, 31, 45, 48, 49, 53, 54, 56, 57, 58, 59, 61, 62, 73, 74, 75, 76, 77, 78, 79, 80, 84, 85, 94, 98, 99, 100, 104, 106, 107, 109, 111, 112, 113, 114, 115, 116, 117, 118, 119, 121, 122, 123, 131, 132, 133, 134, 137, 138, 142, 143, 145, 146, 147, 148, 149, 150, 151, 152, 153, 158, 159, 160].contains g then .q else if [40, 41, 44, 46, 72, 96, 108, 139, 140, 144, 157].contains g then .n else .k, if [40, 41, 44, 46, 72, 96, 108, 139, 140, 144, 157].contains f then .n else .q, [44].contains f⟩
theorem hF5 : cFn Try.prog cmOf 5 = some (c_lawPL) := by kernel_rfl
theorem hF12 : cFn Try.prog cmOf 12 = some (c_iPlanFind) := by kernel_rfl
theorem hF14 : cFn Try.prog cmOf 14 = some (c_sTypeOk) := by kernel_rfl
theorem hF16 : cFn Try.prog cmOf 16 = some (c_iProgSize) := by kernel_rfl
theorem hF28 : cFn Try.prog cmOf 28 = some (c_drPL) := by kernel_rfl
theorem hF29 : cFn Try.prog cmOf 29 = some (c_sPlanLack) := by kernel_rfl
theorem hF30 : cFn Try.prog cmOf 30 = some (c_iPlanLack) := by kernel_rfl
theorem hF31 : cFn Try.prog cmOf 31 = some (c_iPlanHome) := by kernel_rfl
theorem hF40 : cFn Try.prog cmOf 40 = some (c_l6Open) := by kernel_rfl
theorem hF41 : cFn Try.prog cmOf 41 = some (c_pick) := by kernel_rfl
theorem hF44 : cFn Try.prog cmOf 44 = some (c_drTrusts) := by kernel_rfl
theorem hF45 : cFn Try.prog cmOf 45 = some (c_sTrusts) := by kernel_rfl
theorem hF46 : cFn Try.prog cmOf 46 = some (c_sSee) := by kernel_rfl
theorem hF48 : cFn Try.prog cmOf 48 = some (c_iTypeOk) := by kernel_rfl
theorem hF49 : cFn Try.prog cmOf 49 = some (c_iTrusts) := by kernel_rfl
theorem hF50 : cFn Try.prog cmOf 50 = some (c_iAt) := by kernel_rfl
theorem hF51 : cFn Try.prog cmOf 51 = some (c_iHomes) := by kernel_rfl
theorem hF52 : cFn Try.prog cmOf 52 = some (c_iAll) := by kernel_rfl
theorem hF53 : cFn Try.prog cmOf 53 = some (c_iDoer) := by kernel_rfl
theorem hF54 : cFn Try.prog cmOf 54 = some (c_conK) := by kernel_rfl
theorem hF55 : cFn Try.prog cmOf 55 = some (c_plClone) := by kernel_rfl
theorem hF56 : cFn Try.prog cmOf 56 = some (c_sWhy) := by kernel_rfl
theorem hF57 : cFn Try.prog cmOf 57 = some (c_sProg) := by kernel_rfl
theorem hF58 : cFn Try.prog cmOf 58 = some (c_iProg) := by kernel_rfl
theorem hF59 : cFn Try.prog cmOf 59 = some (c_iSize) := by kernel_rfl
theorem hF61 : cFn Try.prog cmOf 61 = some (c_iHome1) := by kernel_rfl
theorem hF62 : cFn Try.prog cmOf 62 = some (c_iDoes) := by kernel_rfl
theorem hF72 : cFn Try.prog cmOf 72 = some (c_drFine) := by kernel_rfl
theorem hF73 : cFn Try.prog cmOf 73 = some (c_lHome) := by kernel_rfl
theorem hF74 : cFn Try.prog cmOf 74 = some (c_lSome) := by kernel_rfl
theorem hF75 : cFn Try.prog cmOf 75 = some (c_cfInt) := by kernel_rfl
theorem hF76 : cFn Try.prog cmOf 76 = some (c_pl1) := by kernel_rfl
theorem hF77 : cFn Try.prog cmOf 77 = some (c_cfLL) := by kernel_rfl
theorem hF78 : cFn Try.prog cmOf 78 = some (c_pl2) := by kernel_rfl
theorem hF79 : cFn Try.prog cmOf 79 = some (c_iVar) := by kernel_rfl
theorem hF80 : cFn Try.prog cmOf 80 = some (c_iHost) := by kernel_rfl
theorem hF84 : cFn Try.prog cmOf 84 = some (c_sIn) := by kernel_rfl
theorem hF85 : cFn Try.prog cmOf 85 = some (c_lStep) := by kernel_rfl
theorem hF94 : cFn Try.prog cmOf 94 = some (c_iWhy0) := by kernel_rfl
theorem hF96 : cFn Try.prog cmOf 96 = some (c_drProg) := by kernel_rfl
theorem hF98 : cFn Try.prog cmOf 98 = some (c_sEither) := by kernel_rfl
theorem hF99 : cFn Try.prog cmOf 99 = some (c_sSet) := by kernel_rfl
theorem hF100 : cFn Try.prog cmOf 100 = some (c_sHas) := by kernel_rfl
theorem hF101 : cFn Try.prog cmOf 101 = some (c_sAllSteps) := by kernel_rfl
theorem hF102 : cFn Try.prog cmOf 102 = some (c_sTypeAt) := by kernel_rfl
theorem hF103 : cFn Try.prog cmOf 103 = some (c_sTypeSets) := by kernel_rfl
theorem hF104 : cFn Try.prog cmOf 104 = some (c_sBy) := by kernel_rfl
theorem hF106 : cFn Try.prog cmOf 106 = some (c_iSet) := by kernel_rfl
theorem hF107 : cFn Try.prog cmOf 107 = some (c_iHas) := by kernel_rfl
theorem hF108 : cFn Try.prog cmOf 108 = some (c_iLabels) := by kernel_rfl
theorem hF109 : cFn Try.prog cmOf 109 = some (c_iEvery) := by kernel_rfl
theorem hF110 : cFn Try.prog cmOf 110 = some (c_cloneI) := by kernel_rfl
theorem hF111 : cFn Try.prog cmOf 111 = some (c_ixK) := by kernel_rfl
theorem hF112 : cFn Try.prog cmOf 112 = some (c_sFine) := by kernel_rfl
theorem hF113 : cFn Try.prog cmOf 113 = some (c_sLabelOk) := by kernel_rfl
theorem hF114 : cFn Try.prog cmOf 114 = some (c_sSteps) := by kernel_rfl
theorem hF115 : cFn Try.prog cmOf 115 = some (c_sCount) := by kernel_rfl
theorem hF116 : cFn Try.prog cmOf 116 = some (c_con) := by kernel_rfl
theorem hF117 : cFn Try.prog cmOf 117 = some (c_p1) := by kernel_rfl
theorem hF118 : cFn Try.prog cmOf 118 = some (c_iLabelOk) := by kernel_rfl
theorem hF119 : cFn Try.prog cmOf 119 = some (c_iSteps) := by kernel_rfl
theorem hF121 : cFn Try.prog cmOf 121 = some (c_iWithin) := by kernel_rfl
theorem hF122 : cFn Try.prog cmOf 122 = some (c_iBy) := by kernel_rfl
theorem hF123 : cFn Try.prog cmOf 123 = some (c_iSets) := by kernel_rfl
theorem hF124 : cFn Try.prog cmOf 124 = some (c_iMakes) := by kernel_rfl
theorem hF130 : cFn Try.prog cmOf 130 = some (c_sWithout) := by kernel_rfl
theorem hF131 : cFn Try.prog cmOf 131 = some (c_sWithin) := by kernel_rfl
theorem hF132 : cFn Try.prog cmOf 132 = some (c_ifInt) := by kernel_rfl
theorem hF133 : cFn Try.prog cmOf 133 = some (c_ifLL) := by kernel_rfl
theorem hF134 : cFn Try.prog cmOf 134 = some (c_iIn) := by kernel_rfl
theorem hF135 : cFn Try.prog cmOf 135 = some (c_sVars21) := by kernel_rfl
theorem hF137 : cFn Try.prog cmOf 137 = some (c_iSource) := by kernel_rfl
theorem hF138 : cFn Try.prog cmOf 138 = some (c_iFlows) := by kernel_rfl
theorem hF139 : cFn Try.prog cmOf 139 = some (c_drLabel) := by kernel_rfl
theorem hF140 : cFn Try.prog cmOf 140 = some (c_drSteps) := by kernel_rfl
theorem hF142 : cFn Try.prog cmOf 142 = some (c_sBoth) := by kernel_rfl
theorem hF143 : cFn Try.prog cmOf 143 = some (c_sAll) := by kernel_rfl
theorem hF144 : cFn Try.prog cmOf 144 = some (c_sAt) := by kernel_rfl
theorem hF145 : cFn Try.prog cmOf 145 = some (c_sAny) := by kernel_rfl
theorem hF146 : cFn Try.prog cmOf 146 = some (c_sSets) := by kernel_rfl
theorem hF147 : cFn Try.prog cmOf 147 = some (c_iBoth) := by kernel_rfl
theorem hF148 : cFn Try.prog cmOf 148 = some (c_sFlows) := by kernel_rfl
theorem hF149 : cFn Try.prog cmOf 149 = some (c_sLBoth) := by kernel_rfl
theorem hF150 : cFn Try.prog cmOf 150 = some (c_sValL) := by kernel_rfl
theorem hF151 : cFn Try.prog cmOf 151 = some (c_sStep) := by kernel_rfl
theorem hF152 : cFn Try.prog cmOf 152 = some (c_idx) := by kernel_rfl
theorem hF153 : cFn Try.prog cmOf 153 = some (c_iVal) := by kernel_rfl
theorem hF154 : cFn Try.prog cmOf 154 = some (c_vars) := by kernel_rfl
theorem hF157 : cFn Try.prog cmOf 157 = some (c_drVal) := by kernel_rfl
theorem hF158 : cFn Try.prog cmOf 158 = some (c_sVar) := by kernel_rfl
theorem hF159 : cFn Try.prog cmOf 159 = some (c_sVal) := by kernel_rfl
theorem hF160 : cFn Try.prog cmOf 160 = some (c_iNum) := by kernel_rfl
theorem hF (g : Nat) (fn : IFn) (h : fnOf g = some fn) : cFn Try.prog cmOf g = some fn := by
  unfold fnOf at h
  split at h
  · rw [← h]; exact hF5
  · rw [← h]; exact hF12
  · rw [← h]; exact hF14
  · rw [← h]; exact hF16
  · rw [← h]; exact hF28
  · rw [← h]; exact hF29
  · rw [← h]; exact hF30
  · rw [← h]; exact hF31
  · rw [← h]; exact hF40
  · rw [← h]; exact hF41
  · rw [← h]; exact hF44
  · rw [← h]; exact hF45
  · rw [← h]; exact hF46
  · rw [← h]; exact hF48
  · rw [← h]; exact hF49
  · rw [← h]; exact hF50
  · rw [← h]; exact hF51
  · rw [← h]; exact hF52
  · rw [← h]; exact hF53
  · rw [← h]; exact hF54
  · rw [← h]; exact hF55
  · rw [← h]; exact hF56
  · rw [← h]; exact hF57
  · rw [← h]; exact hF58
  · rw [← h]; exact hF59
  · rw [← h]; exact hF61
  · rw [← h]; exact hF62
  · rw [← h]; exact hF72
  · rw [← h]; exact hF73
  · rw [← h]; exact hF74
  · rw [← h]; exact hF75
  · rw [← h]; exact hF76
  · rw [← h]; exact hF77
  · rw [← h]; exact hF78
  · rw [← h]; exact hF79
  · rw [← h]; exact hF80
  · rw [← h]; exact hF84
  · rw [← h]; exact hF85
  · rw [← h]; exact hF94
  · rw [← h]; exact hF96
  · rw [← h]; exact hF98
  · rw [← h]; exact hF99
  · rw [← h]; exact hF100
  · rw [← h]; exact hF101
  · rw [← h]; exact hF102
  · rw [← h]; exact hF103
  · rw [← h]; exact hF104
  · rw [← h]; exact hF106
  · rw [← h]; exact hF107
  · rw [← h]; exact hF108
  · rw [← h]; exact hF109
  · rw [← h]; exact hF110
  · rw [← h]; exact hF111
  · rw [← h]; exact hF112
  · rw [← h]; exact hF113
  · rw [← h]; exact hF114
  · rw [← h]; exact hF115
  · rw [← h]; exact hF116
  · rw [← h]; exact hF117
  · rw [← h]; exact hF118
  · rw [← h]; exact hF119
  · rw [← h]; exact hF121
  · rw [← h]; exact hF122
  · rw [← h]; exact hF123
  · rw [← h]; exact hF124
  · rw [← h]; exact hF130
  · rw [← h]; exact hF131
  · rw [← h]; exact hF132
  · rw [← h]; exact hF133
  · rw [← h]; exact hF134
  · rw [← h]; exact hF135
  · rw [← h]; exact hF137
  · rw [← h]; exact hF138
  · rw [← h]; exact hF139
  · rw [← h]; exact hF140
  · rw [← h]; exact hF142
  · rw [← h]; exact hF143
  · rw [← h]; exact hF144
  · rw [← h]; exact hF145
  · rw [← h]; exact hF146
  · rw [← h]; exact hF147
  · rw [← h]; exact hF148
  · rw [← h]; exact hF149
  · rw [← h]; exact hF150
  · rw [← h]; exact hF151
  · rw [← h]; exact hF152
  · rw [← h]; exact hF153
  · rw [← h]; exact hF154
  · rw [← h]; exact hF157
  · rw [← h]; exact hF158
  · rw [← h]; exact hF159
  · rw [← h]; exact hF160
  · cases h
theorem hMixed : Try.prog.follows .mixedOrders = true := by kernel_rfl
theorem ok_iIn : ∀ (H : Heap) (a b c : Int), QC fnOf 134 [.int .i64 a, .int .i64 b, .int .i64 c] H (.bool (inB a b c)) := iIn_ok rfl
theorem ok_sIn : ∀ (H : Heap) (a b c : Int), QC fnOf 84 [.int .i64 a, .int .i64 b, .int .i64 c] H (.bool (inB a b c)) := sIn_ok rfl
theorem ok_iSet : ∀ (H : Heap) (a : Int), QC fnOf 106 [.int .i64 a] H (.bool (inB a 0 7)) := iSet_ok rfl ok_iIn
theorem ok_iHost : ∀ (H : Heap) (a : Int), QC fnOf 80 [.int .i64 a] H (.bool (inB a 0 2)) := iHost_ok rfl ok_iIn
theorem ok_iNum : ∀ (H : Heap) (a : Int), QC fnOf 160 [.int .i64 a] H (.bool (inB a 0 9)) := iNum_ok rfl ok_iIn
theorem ok_sAll : ∀ H, QC fnOf 143 [] H (.int .i64 7) := sAll_ok rfl
theorem ok_sSet : ∀ (H : Heap) (a : Int), QC fnOf 99 [.int .i64 a] H (.bool (inB a 0 7)) := sSet_ok rfl ok_sIn ok_sAll
theorem ok_iLabelOk : LabOk fnOf 118 := iLabelOk_ok rfl ok_iSet
theorem ok_sLabelOk : LabOk fnOf 113 := sLabelOk_ok rfl ok_sSet
theorem ok_iVar : VarOk fnOf 79 := iVar_ok rfl ok_iIn
theorem ok_sVar : VarOk fnOf 158 := sVar_ok rfl ok_sIn
theorem ok_iVal : ValOk fnOf 153 := iVal_ok rfl ok_iNum ok_iVar
theorem ok_sVal : ValOk fnOf 159 := sVal_ok rfl ok_sIn ok_sVar
theorem ok_sSteps : ∀ n, StepsOk fnOf 114 n := fun n => (sSteps_all rfl rfl ok_sIn ok_sVar ok_sVal n).1
theorem ok_iSteps : ∀ n, StepsOk fnOf 119 n := iSteps_all rfl ok_iVar ok_iVal ok_iHost
theorem ok_sCount : ∀ n, CntOk fnOf 115 n := cnt_all (fun _ h => sCount_ok rfl h) (sCount_z rfl)
theorem ok_iSize : ∀ n, CntOk fnOf 59 n := cnt_all (fun _ h => iSize_ok rfl h) (iSize_z rfl)
theorem ok_sProg : ProgOk fnOf 57 := sProg_ok rfl ok_sLabelOk ok_sSteps ok_sCount
theorem ok_iProg : ProgOk fnOf 58 := iProg_ok rfl (con_ok rfl (idx_ok rfl (p1_ok rfl ok_iLabelOk))) ok_iSteps ok_iSize
theorem ok_sHas : HasOk fnOf 100 := sHas_ok rfl
theorem ok_sWit : WitOk fnOf 131 := sWithin_ok rfl ok_sHas
theorem ok_sBoth : BothOk fnOf 142 := sBoth_ok rfl ok_sHas
theorem ok_sLBoth : LBothOk fnOf 149 := sLBoth_ok rfl ok_sLabelOk ok_sBoth
theorem ok_sFlows : FlowsOk fnOf 148 := sFlows_ok rfl ok_sLabelOk ok_sWit
theorem ok_sAny : ∀ H, QC fnOf 145 [] H (.agg #[.int .i64 7, .int .i64 7]) := sAny_ok rfl ok_sAll
theorem ok_sFine : FineOk fnOf 112 := sFine_ok rfl (sValL_ok rfl ok_sAny ok_sLBoth) ok_sLBoth ok_sFlows ok_sBoth ok_sHas
theorem ok_sAllSteps : ∀ n, AllOk fnOf 101 n := sAllSteps_all rfl
theorem ok_sAt : ∀ n, AtOk fnOf 144 n := sAt_all rfl ok_sLBoth
theorem ok_sTypeAt : TypeAtOk fnOf 102 := sTypeAt_ok rfl ok_sProg ok_sAny ok_sAt
theorem ok_sWhy : WhyOk fnOf 56 := sWhy_ok rfl ok_sProg ok_sAllSteps ok_sTypeAt ok_sFine
theorem ok_sWithout : ∀ n, WoOk fnOf 130 n := sWithout_all rfl ok_sCount
theorem ok_drProg {H0 : Heap} {rb : Nat} {bv : Value} {code : List Int} (hc : RdC H0 rb bv code) : DrawS fnOf H0 rb bv 96 [] 40000 (ProgQ 3) := drProg_ok rfl rfl rfl rfl rfl ok_sProg hc
theorem ok_drFine {H0 : Heap} {rb : Nat} {bv : Value} {code : List Int} (hc : RdC H0 rb bv code) : DrawS fnOf H0 rb bv 72 [] 40000 (ProgQ 3) := drFine_ok rfl hc (ok_drProg hc) ok_sWhy ok_sWithout
theorem ok_iHas : HasOk fnOf 107 := iHas_ok rfl ok_iHost
theorem ok_iWit : WitOk fnOf 121 := iWithin_ok rfl
theorem ok_iBoth : ILBoth fnOf 147 := iBoth_ok rfl
theorem ok_iAt : AtP fnOf 50 := iAt_ok rfl (iLabels_all rfl ok_iBoth) (iEvery_ok rfl)
theorem ok_iWhy0 : WhyI fnOf 94 := iWhy0_ok rfl ok_iAt (iAll_all rfl) (iSource_ok rfl rfl ok_iBoth) (iFlows_ok rfl ok_iWit) ok_iHas
theorem ok_iTypeOk : TypeP fnOf 48 := iTypeOk_ok rfl ok_iProg ok_iWhy0
theorem ok_iTrusts : TrOk fnOf 49 := iTrusts_ok rfl ok_iSet ok_iHas
theorem ok_iBy : ByOk fnOf 122 := iBy_ok rfl ok_iHas
theorem ok_cloneI : CloneI fnOf 110 := cloneI_ok rfl
theorem ok_iDoes : DoesOk fnOf 62 := iDoes_ok rfl ok_iHas ok_iWit ok_iBy (iSets_all rfl) (iMakes_ok rfl rfl)
theorem ok_iHome1 : HomeI fnOf 61 := iHome1_ok rfl ok_iHas ok_iWit ok_iBy
theorem ok_iPlanLack : LackOk fnOf 30 := iPlanLack_ok rfl ok_iTypeOk ok_iTrusts ok_iAt (iHomes_ok rfl ok_iHome1 ok_cloneI) (iAll_all rfl) ok_iHome1 (iDoer_ok rfl ok_iDoes) rfl rfl rfl rfl rfl rfl
theorem ok_sTrusts : TrOk fnOf 45 := sTrusts_ok rfl ok_sSet ok_sHas
theorem ok_sBy : ByOk fnOf 104 := sBy_ok rfl ok_sHas
theorem ok_sWhyV : WhyV fnOf 56 := sWhyV_ok rfl ok_sProg ok_sAllSteps ok_sTypeAt ok_sFine
theorem ok_sTypeOk : TypeP fnOf 14 := sTypeOk_ok rfl ok_sWhyV ok_sProg
theorem ok_sAllA : ∀ n, AllA fnOf 101 n := sAllA_all rfl
theorem ok_sTypeSets : SetsOk fnOf 103 := sTypeSets_ok rfl ok_sProg ok_sAllA (sSets_all rfl (sEither_ok rfl ok_sBoth))
theorem ok_sSee : SeeOk fnOf 46 := sSee_ok rfl ok_sAllA ok_sTypeAt ok_sTypeSets ok_sBy
theorem ok_lHome : LHome fnOf 73 := lHome_ok rfl ok_sHas ok_sWit
theorem ok_lStep : LStep fnOf 85 := lStep_ok rfl ok_sHas ok_sWit (sVars21_ok rfl)
theorem ok_sPlanLack : LackOk fnOf 29 := sPlanLack_ok rfl ok_sTypeOk ok_sTrusts ok_sSee ok_lHome (lSome_all rfl ok_lHome ok_lStep)
theorem ok_iPlanFind : FindI fnOf 12 := iPlanFind_ok rfl ok_iTypeOk ok_iTrusts ok_iAt (iHomes_ok rfl ok_iHome1 ok_cloneI) (iAll_all rfl) (iDoer_ok rfl ok_iDoes) (conK_ok rfl rfl) (plClone_ok rfl ok_cloneI)
theorem ok_drTrusts {H0 : Heap} {rb : Nat} {bv : Value} {code : List Int} (hc : RdC H0 rb bv code) : DrawS fnOf H0 rb bv 44 [] 10 TrQ := drTrusts_ok rfl rfl (sEither_ok rfl ok_sBoth) hc
theorem ok_drPL : DrawNumsOk fnOf 28 := drPL_ok rfl rfl ok_drFine ok_drTrusts
theorem ok_iPlanHome : HomeV fnOf 31 := iPlanHomeV_ok rfl ok_iProg ok_iTrusts ok_iVar ok_iHost ok_iHome1
theorem ok_iProgSize : SizeOk fnOf 16 := iProgSize_ok rfl ok_iProg ok_iSize
theorem ok_lawPL : LawB fnOf 5 := lawPL_ok rfl ok_drPL ok_sPlanLack ok_iPlanLack ok_iPlanFind ok_iPlanHome ok_iProgSize
end Go.Proofs.YtiekbdijpfnagaaI
end
section
/- Laws of lists of bytes, called in the model. -/
set_option linter.unusedVariables false
set_option linter.unusedSimpArgs false
namespace Go.Proofs.YtiekbdijpfnagaaI
open Go Go.RowKit
theorem Good.byte {w : World} {n : Int} (h : (Lit.int .u8 n).wf = true) : Good Co.byte w [.int .u8 n] := fun H m s =>
  ⟨n, [], m, [.int .u8 n], by simpa using s, sub_refl m, ⟨rfl, by simpa [Lit.wf, IntKind.min, IntKind.max, IntKind.signed, IntKind.bits] using h⟩, All2.cons (.inl rfl) All2.nil⟩
theorem good_5 {T : Type} {enc : TypeId × Value → T} {w : World} {spare : Nat → Bool} {held : Bool} {n : Nat} {cs : List Value} {x : DataW T × List MemPlace} (h : DataW.trod enc Try.prog w 0 spare held n 5 cs = some x) : Good Co.byte w cs := by
  obtain ⟨m, rfl, _, hw⟩ := DataW.trod_int Try.underlying5 h
  exact Good.byte hw
theorem good_22 {T : Type} {enc : TypeId × Value → T} {w : World} {spare : Nat → Bool} {held : Bool} {n : Nat} {cs : List Value} {x : DataW T × List MemPlace} (h : DataW.trod enc Try.prog w 0 spare held n 22 cs = some x) : Good (Co.sl Co.byte) w cs :=
  Good.sl Try.underlying22 (by kernel_rfl) (by decide) h fun _ _ _ _ h => good_5 h
theorem lawB_calls {n : Nat} (hl : LawB fnOf n) {W : World} {a : Option Addr} {l c : Nat} (g0 : Good (Co.sl Co.byte) W [.slice a l c]) :
    Calls Try.prog n #[.slice a l c] W fun e w' => e = .returned (.bool true) ∧ Below W.heap.size W w' := by
  obtain ⟨ts, L2, m2, cs1, s2, q2, r2, e2⟩ := g0 [] (fun _ => none) (SL.none _)
  obtain ⟨u, rfl, hu⟩ := r2
  exact law_core hF hMixed s2 (vals := [u]) (All2.cons (VR.one_mk e2) All2.nil) (hl _ u ts hu)
end Go.Proofs.YtiekbdijpfnagaaI
end
