/- Texts of this proof, merged: H17, H18, GL22, BL22. -/
import Derived.Test.YtemnemmnfnpnoaaPb10
import Derived.Test.YtemnemmnfnpnoaaRows
section
/- Programs whose hosts are named otherwise (the reference's). -/
set_option linter.unusedVariables false
set_option linter.unusedSimpArgs false
namespace Go.Proofs.YtemnemmnfnpnoaaI
open Go Go.RowKit
theorem sTurnProg_ok {F : Nat → Option IFn} {f : Nat} (hf : F f = some c_sTurnProg) (gp : ProgOk F 29) (gr : RowOk F 38) (gv : F 61 = some c_sHosts) (gt : TSetOk F 62) : TurnPOk F f (fun _ => 3) turnLH turnH := by
  intro H n lv sv w ls l row r1 r2 hsm r3
  suffices h : ∃ v H', KC F f [.agg #[lv, sv], w] H v H' ∧ (∃ lv' sv', v = .tuple #[.agg #[lv', sv'], .bool (turnB n (fun _ => 3) ls l row)] ∧ AgX [] H H' ∧ SlR Co.p2 (vw 0 H') lv' (turnO n (fun _ => 3) turnLH turnH ls l row).1 ∧ SlR (Co.step n) (vw 0 H') sv' (turnO n (fun _ => 3) turnLH turnH ls l row).2) by
    obtain ⟨_, H', h1, lv', sv', rfl, h2⟩ := h
    exact ⟨lv', sv', H', h1, h2⟩
  have osv : one sv = true := by obtain ⟨_, a, rfl, _⟩ := r2; rfl
  obtain ⟨_, la, rfl, _⟩ := id r1
  obtain ⟨_, wa, rfl, _⟩ := id r3
  have hls0 : ls.length ≤ 1048576 := hsm.1.1
  refine KC.mk hf rfl ?_
  refine seq_reg ?_
  simp only [go_sem, binC, osv]
  refine wpc_gen fun H1 hH1 => ?_
  have hx1 : AgX [] H H1 := hH1 ▸ AgX.app [] _ _
  have hb2 : H1[H.length]? = some ⟨[.slice la ls.length ls.length, sv], 0, 0, false, true⟩ := hH1 ▸ get_new0 _ _
  have hb4 : H1[H.length + 1]? = some ⟨[nilS, nilS], 0, 0, false, true⟩ := hH1 ▸ get_new _ _ 1
  have hln1 : H1.length = H.length + 2 := by rw [hH1]; simp
  clear hH1
  have r1' := r1.mono (agx_sub hx1)
  have r2' := r2.mono (agx_sub hx1)
  have r3' := r3.mono (agx_sub hx1)
  have hb4l := (List.getElem?_eq_some_iff.1 hb4).1
  refine seq_assoc (seq_reg ?_)
  simp only [go_sem, binC, gc_of hb2, inBlk_some, osv]
  refine op_callB (by simp only [go_sem, binC]; exact gp H1 n _ (ls, l) (prog_rd r1' r2') hsm) (fun hP => ?_) (fun hP => ?_)
  rotate_left
  · simp only [go_sem, binC]
    refine seq_cond (t := true) rfl ?_
    simp only [go_sem, binC]
    refine seq_assoc (seq_reg ?_)
    simp only [go_sem, binC, hb4]
    have hB : turnB n (fun _ => 3) ls l row = false := by simp [turnB, hP]
    have hr : turnO n (fun _ => 3) turnLH turnH ls l row = ([], []) := if_neg (by rw [hB]; simp)
    refine seq_ret ⟨Or.inr rfl, .tuple #[.agg #[nilS, nilS], .bool false], ?_, nilS, nilS, by rw [hB], hx1.setN (by omega) _, ?_, ?_⟩
    · simp [resV, resL, res1, putE_get, notT, ptr, gc_set hb4l, inBlk_some, valOf]
    all_goals (rw [hr]; exact ⟨by simp, none, rfl, .inl rfl⟩)
  have hls : ls.length ≤ 4 := by
    have := hP
    simp only [progB, Bool.and_eq_true, decide_eq_true_eq] at this; have := this.1.1.1; omega
  simp only [go_sem, binC, gc_of hb2, inBlk_some]
  refine op_callB (by simp only [go_sem, binC]; exact gr H1 _ row 3 (by omega) r3') (fun hR => ?_) (fun hR => ?_)
  rotate_left
  · simp only [go_sem, binC]
    refine seq_cond (t := true) rfl ?_
    simp only [go_sem, binC]
    refine seq_assoc (seq_reg ?_)
    simp only [go_sem, binC, hb4]
    have hB : turnB n (fun _ => 3) ls l row = false := by simp [turnB, hR]
    have hr : turnO n (fun _ => 3) turnLH turnH ls l row = ([], []) := if_neg (by rw [hB]; simp)
    refine seq_ret ⟨Or.inr rfl, .tuple #[.agg #[nilS, nilS], .bool false], ?_, nilS, nilS, by rw [hB], hx1.setN (by omega) _, ?_, ?_⟩
    · simp [resV, resL, res1, putE_get, notT, ptr, gc_set hb4l, inBlk_some, valOf]
    all_goals (rw [hr]; exact ⟨by simp, none, rfl, .inl rfl⟩)
  have hB : turnB n (fun _ => 3) ls l row = true := by simp [turnB, hP, hR]
  have hO : turnO n (fun _ => 3) turnLH turnH ls l row = (turnLH row ls, l.map (mapT (turnH row) n)) := if_pos hB
  obtain ⟨hr1, hr2, hr3⟩ := rowB_iff.1 hR
  simp only [go_sem, binC]
  refine seq_cond (t := false) rfl ?_
  simp only [go_sem, binC]
  refine seq_skip (seq_reg ?_)
  simp only [go_sem, binC]
  generalize hHa : H1 ++ [(⟨[], 2, 63, true, true⟩ : Blk)] = Ha
  have hxa : AgX [] H1 Ha := hHa ▸ AgX.app [] _ _
  have hOa : OwnL Co.p2 2 63 H1.length [] Ha H1.length true [] := hHa ▸ OwnG.nil (Nat.le_refl _)
  clear hHa
  have hb2a := hxa.get hb2 (by simp)
  simp only [go_sem, binC, gc_of hb2a, inBlk_some, osv]
  obtain ⟨bv, sov, H2, k2, hx2, o2⟩ := sHosts_all gv hR (by omega) n Ha sv _ l (r2'.mono (agx_sub hxa)) hsm.2 (r3'.mono (agx_sub hxa)) (progB_okS hP)
  refine op_callK (by simp only [go_sem, binC]; exact k2) ?_
  simp only [go_sem, binC, get_new0]
  refine ⟨by have := hx1.1; have := hxa.1; have := hx2.1; omega, ?_⟩
  refine wpc_genH fun H3 hH3 => ?_
  have hx3 : AgX [] H2 H3 := hH3 ▸ AgX.app [] _ _
  have hb6 : H3[H2.length]? = some ⟨[sli H1.length 0 0, sli bv 0 l.length], 0, 0, false, true⟩ := hH3 ▸ get_new0 _ _
  have hl23 : H3.length = H2.length + 1 := by rw [hH3, List.length_append]; rfl
  clear hH3 k2
  have hxa3 := hx2.tr hx3
  have hx13 := hxa.tr hxa3
  have hl2 := hx2.1
  have hl3 := hx3.1
  have hla := hxa.1
  have hal := (List.getElem?_eq_some_iff.1 hOa.2.2.choose_spec.1).1
  have hO3 : OwnL Co.p2 2 63 H1.length [H2.length] H3 H1.length true [] := hOa.sub hxa3 (by simp) fun b' h1 h2 h3 _ => ⟨by simp, by simp; omega⟩
  have s2 : SlR (Co.step n) (vwl Ha.length [] H2) (sli bv 0 l.length) (l.map (mapT (turnH row) n)) := by
    have := o2.slR (step_w n) (by simp)
    rwa [List.length_map] at this
  have hb43 := hx13.get hb4 (by simp)
  have hb23 := hx13.get hb2 (by simp)
  have hlab := List.all_eq_true.1 (progB_labs hP)
  have hlb0 : ∀ p ∈ ls, labB p = true := hlab
  refine seq_assoc (seq_reg ?_)
  simp only [go_sem, binC]
  refine seq_block (wpc_loop ?_)
  suffices h : ∀ (k i : Nat) (e : Env) (Hc : Heap) (b : Nat) (so : Bool), i + k = ls.length → (H2.length ≠ b ∧ (b = H1.length ∨ H2.length < b)) → AgX [b, H1.length, H2.length] H3 Hc → (b = H1.length ∨ H3.length ≤ b) → Hc[H2.length]? = some ⟨[sli b 0 i, sli bv 0 l.length], 0, 0, false, true⟩ → OwnL Co.p2 2 63 H1.length [H2.length] Hc b so (turnLH row (ls.take i)) → e 1 = .slice wa row.length row.length → e 2 = ptr H.length 0 → e 4 = ptr (H.length + 1) 0 → e 6 = ptr H2.length 0 → e 7 = .int .i64 i → W F H.length _ e Hc _ from
    h ls.length 0 _ H3 H1.length true (by omega) ⟨by omega, .inl rfl⟩ (AgX.refl _ _) (.inl rfl) hb6 hO3 (by simp only [go_sem, binC]) (by simp only [go_sem, binC]) (by simp only [go_sem, binC]) (by simp only [go_sem, binC]) (by (simp only [go_sem, binC]) <;> rfl)
  intro k
  induction k with
  | zero =>
    intro i e Hc b so hi hbb hxc hb0 hb6c hOc e1 e2 e4 e6 e7
    have hb4c := hxc.get hb43 (by simp; omega)
    have hb4cl := (List.getElem?_eq_some_iff.1 hb4c).1
    refine lp_step ?_
    refine seq_assoc (seq_reg ?_)
    have hb2c := hxc.get hb23 (by simp; omega)
    simp only [go_sem, binC, e2, e7, gc_of hb2c, inBlk_some]
    refine seq_cond (t := false) (by simp only [go_sem, binC]; rw [decide_eq_false (by omega)]) ?_
    simp only [go_sem, binC]
    refine seq_exit ?_
    simp only [go_sem, binC, thenX_e, out_e, thenX_n]
    obtain rfl : i = ls.length := by omega
    rw [List.take_of_length_le (Nat.le_refl _)] at hOc
    refine seq_reg ?_
    simp only [go_sem, binC, e6, e4, gc_of hb6c, inBlk_some, hb4c]
    have hxf : AgX [H.length + 1] Hc (Hc.set (H.length + 1) ⟨[sli b 0 ls.length, sli bv 0 l.length], 0, 0, false, true⟩) := AgX.set _ _ _
    have hxH : AgX [H1.length, H2.length] H2 Hc := hx3.trans hxc (fun _ h _ => by cases h) (fun b' h1 h2 => by
      simp only [List.mem_cons, List.not_mem_nil, or_false] at h1 ⊢
      rcases h1 with rfl | h | h
      · rcases hb0 with h | h
        · exact .inl h
        · omega
      · exact .inl h
      · exact .inr h)
    have hx1c : AgX [] H1 Hc := (hxa.tr hx2).trans hxH (fun _ h _ => h) (fun b' h1 h2 => by simp only [List.mem_cons, List.not_mem_nil, or_false] at h1; omega)
    refine wpc_ret ⟨Or.inr rfl, .tuple #[.agg #[sli b 0 ls.length, sli bv 0 l.length], .bool true], ?_, _, _, by rw [hB], (hx1.tr hx1c).setN (by omega) _, ?_, ?_⟩
    · simp [resV, resL, res1, putE_get, notT, ptr, gc_set hb4cl, inBlk_some, valOf, e4, sli]
    · rw [hO]
      show SlR Co.p2 _ _ (turnLH row ls)
      have hq := hOc.sub (xs' := [H2.length]) hxf (by simp; rcases hb0 with h | h <;> omega) fun b' h1 h2 h3 h4 => ⟨by simp; omega, h4⟩
      have := hq.slR rfl (by simpa using fun h => hbb.1 h.symm)
      rw [turnLH_len] at this
      exact this.mono (vwl0 _ _ _)
    · rw [hO]
      refine s2.mono ?_
      exact ((vwl_sub (hxH.trans hxf (fun b' h _ => List.mem_cons_of_mem _ h) (fun b' h _ => by simp only [List.mem_singleton] at h; rw [h]; exact List.mem_cons_self) : AgX [H.length + 1, H1.length, H2.length] H2 _) (Nat.le_refl _) (xs' := []) (fun b' h0 h1 h2 => ⟨by simp; omega, by simp⟩))).trans (vwl0 _ _ _)
  | succ k ih =>
    intro i e Hc b so hi hbb hxc hb0 hb6c hOc e1 e2 e4 e6 e7
    have hil : i < ls.length := by omega
    have hw1 : IntKind.i64.wrap ((i : Int) + 1) = ((i + 1 : Nat) : Int) := by rw [wrap_id (by omega) (by omega)]; omega
    have hb2c := hxc.get hb23 (by simp; omega)
    have hxH : AgX [H1.length, H2.length] H2 Hc := hx3.trans hxc (fun _ h _ => by cases h) (fun b' h1 h2 => by
      simp only [List.mem_cons, List.not_mem_nil, or_false] at h1 ⊢
      rcases h1 with rfl | h | h
      · rcases hb0 with h | h
        · exact .inl h
        · omega
      · exact .inl h
      · exact .inr h)
    have hx1c : AgX [] H1 Hc := (hxa.tr hx2).trans hxH (fun _ h _ => h) (fun b' h1 h2 => by simp only [List.mem_cons, List.not_mem_nil, or_false] at h1; omega)
    obtain ⟨pb, po, hpv, hpg⟩ := gcP (r1'.mono (agx_sub hx1c)) hil
    simp only [Value.slice.injEq, and_true] at hpv
    subst hpv
    have hlb := labB_iff.1 (hlab ls[i] (List.getElem_mem hil))
    have r3c := r3'.mono (agx_sub hx1c)
    have gp0 : getCells Hc pb (po + i * 2) 1 = some [.int .i64 ls[i].1] := gc_part (off := 0) (k := 1) hpg (by omega)
    have gp1 : getCells Hc pb (po + i * 2 + 1) 1 = some [.int .i64 ls[i].2] := gc_part (off := 1) (k := 1) hpg (by omega)
    have htO : ∀ s : Int, 0 ≤ s ∧ s ≤ 7 → tsetO row s = tset row s := fun s hs => by
      unfold tsetO
      rw [inB_iff.2 hs, hR]
      rfl
    have hlc := hxc.1
    have hbcl := (List.getElem?_eq_some_iff.1 hb6c).1
    have hx1cl := hx1c.1
    refine lp_step ?_
    refine seq_assoc (seq_reg ?_)
    simp only [go_sem, binC, e2, e7, gc_of hb2c, inBlk_some]
    refine seq_cond (t := true) (by simp only [go_sem, binC]; rw [decide_eq_true (by omega)]) ?_
    simp only [go_sem, binC]
    refine seq_skip (seq_block (wpc_regD ?_))
    simp only [go_sem, binC, e1, e2, e6, e7, gc_of hb6c, gc_of hb2c, inBlk_some]
    refine ⟨⟨by omega, by omega⟩, ?_⟩
    simp only [go_sem, binC, Int.toNat_natCast, gp0, e1]
    refine op_callQ (by simp only [go_sem, binC, e1]; exact gt Hc _ _ row r3c) ?_
    simp only [go_sem, binC, e1, e2, e7, gc_of hb2c, inBlk_some]
    refine ⟨⟨by omega, by omega⟩, ?_⟩
    simp only [go_sem, binC, Int.toNat_natCast, gp1, e1]
    refine op_callQ (by simp only [go_sem, binC, e1]; exact gt Hc _ _ row r3c) ?_
    rw [htO _ hlb.1, htO _ hlb.2]
    have a1 := tset_bd hR hlb.1
    have a2 := tset_bd hR hlb.2
    simp only [go_sem, binC, e6]
    have hlt : (turnLH row (ls.take i)).length = i := by rw [turnLH_len, List.length_take]; omega
    refine op_app_own (A := Co.p2) (lo := H1.length) (a := (tset row ls[i].1, tset row ls[i].2)) hOc (by simp only [go_sem, binC, hlt]) (by (simp only [go_sem, binC]) <;> rfl) (by omega) rfl ⟨[.int .i64 (tset row ls[i].1)], [.int .i64 (tset row ls[i].2)], rfl, ⟨rfl, by omega, by omega⟩, ⟨rfl, by omega, by omega⟩⟩ (by omega) (by omega) (by simp; omega) fun H4 hx4 hO4 => ?_
    have hb64 := hx4.get hb6c (by simpa using hbb.1)
    have hx4l := hx4.1
    simp only [go_sem, binC, e6, hb64]
    refine ⟨by omega, ?_⟩
    simp only [go_sem, binC, out_n, thenX_n]
    have hb64l := (List.getElem?_eq_some_iff.1 hb64).1
    have htk : turnLH row (ls.take i) ++ [(tset row ls[i].1, tset row ls[i].2)] = turnLH row (ls.take (i + 1)) := by
      unfold turnLH
      rw [List.take_add_one, List.getElem?_eq_getElem hil, List.map_append]
      rfl
    rw [htk] at hO4
    rw [hlt]
    have hxs : AgX [H2.length] H4 (H4.set H2.length ⟨[sli (Hc.length + 1) 0 (i + 1), sli bv 0 l.length], 0, 0, false, true⟩) := AgX.set _ _ _
    have hO5 := hO4.sub (xs' := [H2.length]) hxs (by simp; omega) fun b' h1 h2 h3 h4 => ⟨by simpa using h4, h4⟩
    refine wpc_reg ?_
    simp only [go_sem, binC, e7, hw1]
    simp only [go_sem, binC, thenX_n]
    refine ih (i + 1) _ _ (Hc.length + 1) _ (by omega) ⟨by omega, .inr (by omega)⟩ ?_ (.inr (by omega)) (List.getElem?_set_self hb64l) hO5 (by simp only [go_sem, binC, e1]) (by simp only [go_sem, binC, e2]) (by simp only [go_sem, binC, e4]) (by simp only [go_sem, binC, e6]) (by simp only [go_sem, binC])
    refine (hxc.trans hx4 (zs := [Hc.length + 1, H1.length, H2.length]) (fun b' h1 h2 => ?_) (fun b' h1 h2 => ?_)).trans hxs (fun _ h _ => h) (fun b' h _ => by simp only [List.mem_singleton] at h; rw [h]; simp)
    · simp only [List.mem_cons, List.not_mem_nil, or_false] at h1 ⊢
      rcases h1 with rfl | h | h
      · rcases hb0 with h | h
        · exact .inr (.inl h)
        · omega
      · exact .inr (.inl h)
      · exact .inr (.inr h)
    · simp only [List.mem_cons, List.not_mem_nil, or_false] at h1 ⊢
      subst h1
      rcases hb0 with h | h
      · exact .inr (.inl h)
      · omega
end Go.Proofs.YtemnemmnfnpnoaaI
end
section
/- The laws FnTurnProg and FnTurnSame on the ideal machine. -/
set_option linter.unusedVariables false
set_option linter.unusedSimpArgs false
namespace Go.Proofs.YtemnemmnfnpnoaaI
open Go Go.RowKit
def c_lawTSm : IFn := ⟨1, 95, [.t 2],
 .seq (.reg none [
    ⟨(some 2), none, .mov (.c (.bool false))⟩])
 (.seq (.seq (.reg none [
     ⟨(some 15), none, .mov (.t 0)⟩,
     ⟨(some 16), none, .len (.t 15)⟩,
     ⟨(some 17), none, .bin .gtr (.t 16) (.c (.int .i64 1048576))⟩])
  (.cond (.t 17) (.seq (.reg none [
      ⟨(some 2), none, .mov (.c (.bool true))⟩])
   (.ret)) (.skip)))
 (.seq (.reg none [
    ⟨(some 19), none, .mov (.t 0)⟩,
    ⟨(some 20), none, .call .k (.f 27) [(.t 19)]⟩,
    ⟨(some 18), none, .mov (.t 20)⟩,
    ⟨(some 21), none, .ext (.t 18) 0⟩,
    ⟨(some 22), none, .ext (.t 18) 1⟩,
    ⟨(some 3), none, .new [(.slice none 0 0), (.slice none 0 0)]⟩,
    ⟨none, none, .store 2 (.t 3) (.t 21)⟩,
    ⟨(some 4), none, .mov (.t 22)⟩])
 (.seq (.reg none [
    ⟨(some 24), none, .load true 2 (.t 3)⟩,
    ⟨(some 25), none, .mov (.t 4)⟩,
    ⟨(some 26), none, .call .k (.f 25) [(.t 24), (.t 25)]⟩,
    ⟨(some 23), none, .mov (.t 26)⟩,
    ⟨(some 27), none, .ext (.t 23) 0⟩,
    ⟨(some 28), none, .ext (.t 23) 1⟩,
    ⟨(some 5), none, .new [(.slice none 0 0), (.slice none 0 0)]⟩,
    ⟨none, none, .store 2 (.t 5) (.t 27)⟩,
    ⟨(some 6), none, .mov (.t 28)⟩])
 (.seq (.reg none [
    ⟨(some 30), none, .load true 2 (.t 3)⟩,
    ⟨(some 31), none, .mov (.t 4)⟩,
    ⟨(some 32), none, .call .k (.f 26) [(.t 30), (.t 31)]⟩,
    ⟨(some 29), none, .mov (.t 32)⟩,
    ⟨(some 33), none, .ext (.t 29) 0⟩,
    ⟨(some 34), none, .ext (.t 29) 1⟩,
    ⟨(some 7), none, .new [(.slice none 0 0), (.slice none 0 0)]⟩,
    ⟨none, none, .store 2 (.t 7) (.t 33)⟩,
    ⟨(some 8), none, .mov (.t 34)⟩])
 (.seq (.seq (.reg none [
     ⟨(some 35), none, .mov (.t 8)⟩,
     ⟨(some 36), none, .mov (.t 6)⟩,
     ⟨(some 37), none, .beq true (.t 35) (.t 36)⟩,
     ⟨(some 38), none, .mov (.t 37)⟩,
     ⟨(some 39), (some (38, false)), .load true 2 (.t 7)⟩,
     ⟨(some 40), (some (38, false)), .load true 2 (.t 5)⟩,
     ⟨(some 41), (some (38, false)), .call .q (.f 22) [(.t 39), (.t 40)]⟩,
     ⟨(some 42), (some (38, false)), .un .not (.t 41)⟩,
     ⟨(some 43), none, .pick (.t 38) (.c (.bool true)) (.t 42)⟩,
     ⟨(some 44), none, .mov (.t 43)⟩,
     ⟨(some 45), (some (44, false)), .load true 2 (.t 3)⟩,
     ⟨(some 46), (some (44, false)), .call .q (.f 29) [(.t 45)]⟩,
     ⟨(some 47), (some (44, false)), .un .not (.t 46)⟩,
     ⟨(some 48), none, .pick (.t 44) (.c (.bool true)) (.t 47)⟩])
  (.cond (.t 48) (.seq (.reg none [
      ⟨(some 49), none, .mov (.t 8)⟩,
      ⟨(some 50), none, .mov (.t 6)⟩,
      ⟨(some 51), none, .beq false (.t 49) (.t 50)⟩,
      ⟨(some 52), none, .mov (.t 51)⟩,
      ⟨(some 53), (some (52, true)), .load true 2 (.t 7)⟩,
      ⟨(some 54), (some (52, true)), .load true 2 (.t 5)⟩,
      ⟨(some 55), (some (52, true)), .call .q (.f 22) [(.t 53), (.t 54)]⟩,
      ⟨(some 56), none, .pick (.t 52) (.t 55) (.c (.bool false))⟩,
      ⟨(some 2), none, .mov (.t 56)⟩])
   (.ret)) (.skip)))
 (.seq (.reg none [
    ⟨(some 57), none, .lit 1 3 0 [] []⟩,
    ⟨(some 9), none, .mov (.t 57)⟩])
 (.seq (.seq (.reg none [
     ⟨(some 10), none, .mov (.c (.int .i64 0))⟩])
  (.block 0 (.loop (.seq (.seq (.reg none [
        ⟨(some 58), none, .mov (.t 10)⟩,
        ⟨(some 59), none, .fad 0 (.t 3)⟩,
        ⟨(some 60), none, .load false 1 (.t 59)⟩,
        ⟨(some 61), none, .len (.t 60)⟩,
        ⟨(some 62), none, .bin .lss (.t 58) (.t 61)⟩])
     (.cond (.t 62) (.skip) (.exit 0)))
    (.seq (.block 1 (.reg none [
        ⟨(some 65), none, .mov (.t 9)⟩,
        ⟨(some 66), none, .mov (.t 10)⟩,
        ⟨(some 67), none, .lit 1 3 1 [(.int .i64 0)] [(0, 1, (.t 66))]⟩,
        ⟨(some 68), none, .app 1 3 8 false (.t 65) (.t 67)⟩,
        ⟨(some 9), none, .mov (.t 68)⟩]))
    (.reg none [
      ⟨(some 63), none, .mov (.t 10)⟩,
      ⟨(some 64), none, .bin .add (.t 63) (.c (.int .i64 1))⟩,
      ⟨(some 10), none, .mov (.t 64)⟩]))))))
 (.seq (.reg none [
    ⟨(some 70), none, .load true 2 (.t 3)⟩,
    ⟨(some 71), none, .lit 1 3 3 [(.int .i64 0), (.int .i64 0), (.int .i64 0)] [(0, 1, (.c (.int .i64 0))), (1, 1, (.c (.int .i64 1))), (2, 1, (.c (.int .i64 2)))]⟩,
    ⟨(some 72), none, .call .k (.f 26) [(.t 70), (.t 71)]⟩,
    ⟨(some 69), none, .mov (.t 72)⟩,
    ⟨(some 73), none, .ext (.t 69) 0⟩,
    ⟨(some 74), none, .ext (.t 69) 1⟩,
    ⟨(some 11), none, .new [(.slice none 0 0), (.slice none 0 0)]⟩,
    ⟨none, none, .store 2 (.t 11) (.t 73)⟩,
    ⟨(some 12), none, .mov (.t 74)⟩])
 (.seq (.reg none [
    ⟨(some 76), none, .load true 2 (.t 3)⟩,
    ⟨(some 77), none, .mov (.t 9)⟩,
    ⟨(some 78), none, .call .k (.f 15) [(.t 76), (.t 77)]⟩,
    ⟨(some 75), none, .mov (.t 78)⟩,
    ⟨(some 79), none, .ext (.t 75) 0⟩,
    ⟨(some 80), none, .ext (.t 75) 1⟩,
    ⟨(some 13), none, .new [(.slice none 0 0), (.slice none 0 0)]⟩,
    ⟨none, none, .store 2 (.t 13) (.t 79)⟩,
    ⟨(some 14), none, .mov (.t 80)⟩])
 (.seq (.reg none [
    ⟨(some 81), none, .mov (.t 12)⟩,
    ⟨(some 82), none, .mov (.t 81)⟩,
    ⟨(some 83), (some (82, true)), .mov (.t 14)⟩,
    ⟨(some 84), none, .pick (.t 82) (.t 83) (.c (.bool false))⟩,
    ⟨(some 85), none, .mov (.t 84)⟩,
    ⟨(some 86), (some (85, true)), .load true 2 (.t 11)⟩,
    ⟨(some 87), (some (85, true)), .load true 2 (.t 3)⟩,
    ⟨(some 88), (some (85, true)), .call .q (.f 22) [(.t 86), (.t 87)]⟩,
    ⟨(some 89), none, .pick (.t 85) (.t 88) (.c (.bool false))⟩,
    ⟨(some 90), none, .mov (.t 89)⟩,
    ⟨(some 91), (some (90, true)), .load true 2 (.t 13)⟩,
    ⟨(some 92), (some (90, true)), .load true 2 (.t 3)⟩,
    ⟨(some 93), (some (90, true)), .call .q (.f 22) [(.t 91), (.t 92)]⟩,
    ⟨(some 94), none, .pick (.t 90) (.t 93) (.c (.bool false))⟩,
    ⟨(some 2), none, .mov (.t 94)⟩])
 (.ret)))))))))))⟩
theorem rowB_id (k : Nat) : rowB ((List.range k).map fun (i : Nat) => (i : Int)) k = true := by
  unfold rowB
  simp only [List.length_map, List.length_range, decide_true, Bool.true_and, List.all_eq_true, List.mem_range, decide_eq_true_eq, List.mem_map]
  exact fun i hi => ⟨i, hi, rfl⟩
def idR (k : Nat) : List Int := (List.range k).map fun (i : Nat) => (i : Int)
theorem idR_len (k : Nat) : (idR k).length = k := by simp [idR]
theorem idR_get {k i : Nat} (h : i < k) : (idR k)[i]? = some (i : Int) := by
  unfold idR
  rw [List.getElem?_map, List.getElem?_range h]
  rfl
theorem idR_name {k : Nat} {x : Int} (h : 0 ≤ x ∧ x < k) : nameO (idR k) x = x := by
  unfold nameO
  rw [List.getD_eq_getElem?_getD, idR_get (by omega)]
  show ((x.toNat : Nat) : Int) = x
  omega
theorem turnL_id (ls : List (Int × Int)) : turnL (idR ls.length) ls = ls := by
  refine (turnL_of (row := idR ls.length) (show rowB (idR ls.length) ls.length = true from rowB_id _) rfl fun i hi hi' => ?_).symm
  have := idR_get hi
  rw [List.getElem?_eq_getElem hi', Option.some.injEq] at this
  rw [this, Int.toNat_natCast, List.getElem?_eq_getElem hi]
theorem turnS_id {k : Nat} : ∀ s, okS k s → turnS (idR k) s = s := by
  rintro ⟨kd, x, ⟨a, b, c⟩, g⟩ ⟨h1, h2, -, -, -⟩
  have nb : ∀ x, varB k x = true → nameO (idR k) x = x := fun x hx => idR_name (varB_iff.1 hx)
  simp only at h1 h2
  simp only [turnS, Prod.mk.injEq, true_and, and_true]
  refine ⟨nb _ h1, ?_⟩
  rcases h2 with h2 | h2
  · unfold valB at h2
    simp only at h2
    by_cases a1 : a = 1
    · subst a1; simp
    rw [if_neg a1] at h2
    by_cases a2 : a = 2
    · subst a2
      simp only [if_true, Bool.and_eq_true, decide_eq_true_eq] at h2
      simp [nb _ h2.1]
    rw [if_neg a2] at h2
    by_cases a3 : a = 3 ∨ a = 4
    · rw [if_pos a3, Bool.and_eq_true] at h2
      rw [if_pos (.inr a3), if_pos a3]
      exact ⟨nb _ h2.1, nb _ h2.2⟩
    · rw [if_neg a3] at h2; cases h2
  · simp only [Prod.mk.injEq] at h2
    obtain ⟨rfl, rfl, rfl⟩ := h2
    simp
theorem turnV_same {n : Nat} {ls : List (Int × Int)} {l : List (TStep n)} (h : progB n (ls, l) = true) : turnO n (fun k => k) turnL turnS ls l (idR ls.length) = (ls, l) ∧ turnB n (fun k => k) ls l (idR ls.length) = true := by
  have hb : turnB n (fun k => k) ls l (idR ls.length) = true := by
    unfold turnB
    rw [h, show rowB (idR ls.length) ls.length = true from rowB_id _]
    rfl
  refine ⟨?_, hb⟩
  unfold turnO
  rw [if_pos hb, turnL_id, mapL_same turnS_id (progB_okS h)]
theorem turnP_same {n : Nat} {ls : List (Int × Int)} {l : List (TStep n)} (h : progB n (ls, l) = true) : turnO n (fun _ => 3) turnLH turnH ls l [0, 1, 2] = (ls, l) ∧ turnB n (fun _ => 3) ls l [0, 1, 2] = true := by
  have hb : turnB n (fun _ => 3) ls l [0, 1, 2] = true := by
    unfold turnB
    rw [h]
    rfl
  refine ⟨?_, hb⟩
  unfold turnO
  rw [if_pos hb, turnLH_same (progB_labs h), mapL_same turnH_same (progB_okS h)]
set_option maxHeartbeats 4000000 in
theorem lawTSm_ok {F : Nat → Option IFn} {f : Nat} (hf : F f = some c_lawTSm) (gd : DrawNumsOk F 27) (gs : TurnPOk F 25 (fun _ => 3) turnLH turnH) (gi : TurnPOk F 26 (fun _ => 3) turnLH turnH) (gl : SamePOk F 22) (gp : ProgOk F 29) (gv : TurnPOk F 15 (fun k => k) turnL turnS) : LawB F f := by
  intro H v code hv
  have hv0 := hv
  obtain ⟨h0, a, rfl, _⟩ := hv
  refine QC.mk hf rfl ?_
  refine seq_reg ?_
  simp only [go_sem, binC]
  refine seq_assoc (seq_reg ?_)
  simp only [go_sem, binC]
  by_cases hbig : 1048576 < (code.length : Int)
  · refine seq_cond (t := true) (by simp only [go_sem, binC]; rw [decide_eq_true hbig]) ?_
    simp only [go_sem, binC]
    refine seq_assoc (seq_reg ?_)
    simp only [go_sem, binC]
    exact seq_ret ⟨Or.inr rfl, .bool true, by simp only [go_sem, binC], rfl, rfl⟩
  refine seq_cond (t := false) (by simp only [go_sem, binC]; rw [decide_eq_false hbig]) ?_
  simp only [go_sem, binC]
  refine seq_skip (seq_reg ?_)
  simp only [go_sem, binC]
  obtain ⟨d, lv, sv, nv, ls, l, row, H1, k, hx, r1, r2, r3, r4⟩ := gd H _ code hv0
  have hl1 := hx.1
  obtain ⟨_, la0, rfl, _⟩ := id r1
  have osv : one sv = true := by obtain ⟨_, a, rfl, _⟩ := r2; rfl
  obtain ⟨_, na0, rfl, _⟩ := id r4
  refine op_callK (by simp only [go_sem, binC]; exact k) ?_
  simp only [go_sem, binC, osv]
  refine ⟨by omega, ?_⟩
  refine wpc_gen fun H2 hH2 => ?_
  have hb : H2[H1.length]? = some ⟨[.slice la0 ls.length ls.length, sv], 0, 0, false, true⟩ := hH2 ▸ get_new0 _ _
  have hy : AgX [] H1 H2 := hH2 ▸ AgX.app [] _ _
  have hl2 : H2.length = H1.length + 1 := by rw [hH2, List.length_append]; rfl
  replace r1 := r1.mono (agx_sub hy)
  replace r2 := r2.mono (agx_sub hy)
  replace r4 := r4.mono (agx_sub hy)
  clear hH2
  have hls0 : ls.length ≤ 1048576 := r3.1.1
  have hOs : (Co.prog d).sm (turnO d (fun _ => 3) turnLH turnH ls l row) := turnO_sm r3 (by simp [turnLH])
  refine seq_reg ?_
  simp only [go_sem, binC, gc_of hb, inBlk_some, osv]
  obtain ⟨lw, sw, H3, k3, x3, w1, w2⟩ := gs H2 d _ _ _ ls l row r1 r2 r3 r4
  obtain ⟨_, lwa, rfl, _⟩ := id w1
  have osw : one sw = true := by obtain ⟨_, a, rfl, _⟩ := w2; rfl
  have hl3 := x3.1
  refine op_callK (by simp only [go_sem, binC]; exact k3) ?_
  simp only [go_sem, binC, osw]
  refine ⟨by omega, ?_⟩
  refine wpc_gen fun H4 hH4 => ?_
  have x4 : AgX [] H3 H4 := hH4 ▸ AgX.app [] _ _
  have hbw : H4[H3.length]? = some ⟨[.slice lwa (turnO d (fun _ => 3) turnLH turnH ls l row).1.length (turnO d (fun _ => 3) turnLH turnH ls l row).1.length, sw], 0, 0, false, true⟩ := hH4 ▸ get_new0 _ _
  have hl4 : H4.length = H3.length + 1 := by rw [hH4, List.length_append]; rfl
  clear hH4
  have x24 := x3.tr x4
  have hb4 := x24.get hb (by simp)
  replace w1 := w1.mono (agx_sub x4)
  replace w2 := w2.mono (agx_sub x4)
  replace r1 := r1.mono (agx_sub x24)
  replace r2 := r2.mono (agx_sub x24)
  replace r4 := r4.mono (agx_sub x24)
  refine seq_reg ?_
  simp only [go_sem, binC, gc_of hb4, inBlk_some, osv]
  obtain ⟨lq, sq, H5, k5, x5, q1, q2⟩ := gi H4 d _ _ _ ls l row r1 r2 r3 r4
  obtain ⟨_, lqa, rfl, _⟩ := id q1
  have osq : one sq = true := by obtain ⟨_, a, rfl, _⟩ := q2; rfl
  have hl5 := x5.1
  refine op_callK (by simp only [go_sem, binC]; exact k5) ?_
  simp only [go_sem, binC, osq]
  refine ⟨by omega, ?_⟩
  refine wpc_gen fun H6 hH6 => ?_
  have x6 : AgX [] H5 H6 := hH6 ▸ AgX.app [] _ _
  have hbq : H6[H5.length]? = some ⟨[.slice lqa (turnO d (fun _ => 3) turnLH turnH ls l row).1.length (turnO d (fun _ => 3) turnLH turnH ls l row).1.length, sq], 0, 0, false, true⟩ := hH6 ▸ get_new0 _ _
  have hl6 : H6.length = H5.length + 1 := by rw [hH6, List.length_append]; rfl
  clear hH6
  have x46 := x5.tr x6
  have hb6 := x46.get hb4 (by simp)
  have hbw6 := x46.get hbw (by simp)
  replace q1 := q1.mono (agx_sub x6)
  replace q2 := q2.mono (agx_sub x6)
  replace w1 := w1.mono (agx_sub x46)
  replace w2 := w2.mono (agx_sub x46)
  replace r1 := r1.mono (agx_sub x46)
  replace r2 := r2.mono (agx_sub x46)
  replace r4 := r4.mono (agx_sub x46)
  have hEq : QC F 22 [.agg #[.slice lqa (turnO d (fun _ => 3) turnLH turnH ls l row).1.length (turnO d (fun _ => 3) turnLH turnH ls l row).1.length, sq], .agg #[.slice lwa (turnO d (fun _ => 3) turnLH turnH ls l row).1.length (turnO d (fun _ => 3) turnLH turnH ls l row).1.length, sw]] H6 (.bool true) := gl H6 d _ _ _ _ _ _ q1 q2 w1 w2 hOs
  have hx26 : AgX [] H2 H6 := x24.tr x46
  clear k k3 k5
  have hpk := gp H6 d _ (ls, l) (prog_rd r1 r2) r3
  refine seq_assoc (seq_reg ?_)
  simp only [go_sem, binC, beq_self_eq_true, bne_self_eq_false, gc_of hbq, gc_of hbw6, inBlk_some, osq, osw]
  refine op_callQ (by simp only [go_sem, binC]; exact hEq) ?_
  simp only [go_sem, binC, gc_of hb6, inBlk_some, osv]
  refine op_callQ (by simp only [go_sem, binC]; exact hpk) ?_
  cases hP : progB d (ls, l) with
  | false =>
    simp only [go_sem, binC]
    refine seq_cond (t := true) rfl ?_
    simp only [go_sem, binC]
    refine seq_assoc (seq_reg ?_)
    simp only [go_sem, binC, beq_self_eq_true, gc_of hbq, gc_of hbw6, inBlk_some, osq, osw]
    refine op_callQ (by simp only [go_sem, binC]; exact hEq) ?_
    simp only [go_sem, binC]
    exact seq_ret ⟨Or.inr rfl, .bool true, by simp only [go_sem, binC], rfl, rfl⟩
  | true =>
  simp only [go_sem, binC]
  refine seq_cond (t := false) rfl ?_
  simp only [go_sem, binC]
  clear hEq q1 q2 w1 w2 hbq hbw6 hbw
  refine seq_skip (seq_reg ?_)
  simp only [go_sem, binC]
  refine wpc_gen fun H7 hH7 => ?_
  have x7 : AgX [] H6 H7 := hH7 ▸ AgX.app [] _ _
  have hO7 : OwnL Co.int 1 3 H6.length [] H7 H6.length true [] := hH7 ▸ OwnG.nil (Nat.le_refl _)
  clear hH7
  have hls4 : ls.length ≤ 4 := by
    have := hP
    simp only [progB, Bool.and_eq_true, decide_eq_true_eq] at this; have := this.1.1.1; omega
  have hlH6 : H.length ≤ H6.length := by have := hx26.1; omega
  refine seq_assoc (seq_reg ?_)
  simp only [go_sem, binC]
  refine seq_block (wpc_loop ?_)
  suffices h : ∀ (k i : Nat) (e : Env) (Hc : Heap) (b : Nat) (so : Bool), i + k = ls.length → AgX [] H6 Hc → OwnL Co.int 1 3 H6.length [] Hc b so (idR i) → e 3 = ptr H1.length 0 → e 9 = sli b 0 i → e 10 = .int .i64 i → W F H.length _ e Hc _ from
    h ls.length 0 _ H7 H6.length true (by omega) x7 hO7 (by simp only [go_sem, binC]) (by simp only [go_sem, binC]) (by (simp only [go_sem, binC]) <;> rfl)
  intro k
  induction k with
  | zero =>
    intro i e Hc b so hi hxc hOc e3 e9 e10
    obtain rfl : i = ls.length := by omega
    have hbc := hxc.get hb6 (by simp)
    refine lp_step ?_
    refine seq_assoc (seq_reg ?_)
    simp only [go_sem, binC, e3, e10, gc_of hbc, inBlk_some]
    refine seq_cond (t := false) (by simp only [go_sem, binC]; rw [decide_eq_false (by omega)]) ?_
    simp only [go_sem, binC]
    refine seq_exit ?_
    simp only [go_sem, binC, thenX_e, out_e, thenX_n]
    have hHc := hxc.1
    refine seq_reg ?_
    simp only [go_sem, binC, e3, gc_of hbc, inBlk_some, osv]
    generalize hHd : Hc ++ [(⟨[.int .i64 0, .int .i64 1, .int .i64 2], 1, 3, true, true⟩ : Blk)] = Hd
    have xd : AgX [] Hc Hd := hHd ▸ AgX.app [] _ _
    have hbd : Hd[Hc.length]? = some ⟨ints [0, 1, 2], 1, 3, true, true⟩ := hHd ▸ get_new0 _ _
    clear hHd
    have hHd := xd.1
    have x6d := hxc.tr xd
    have rowd : SlR Co.int (vw 0 Hd) (sli Hc.length 0 3) [0, 1, 2] := ints_sl0 hbd (fun x hx => by simp only [List.mem_cons, List.not_mem_nil, or_false] at hx; rcases hx with rfl | rfl | rfl <;> (unfold RgI; omega)) (by simp)
    obtain ⟨t1, t2⟩ := turnP_same hP
    obtain ⟨ly, sy, H8, k8, x8, y1, y2⟩ := gi Hd d _ _ _ ls l [0, 1, 2] (r1.mono (agx_sub x6d)) (r2.mono (agx_sub x6d)) r3 rowd
    rw [t1] at y1 y2
    rw [t2] at k8
    obtain ⟨_, lya, rfl, _⟩ := id y1
    have osy : one sy = true := by obtain ⟨_, a, rfl, _⟩ := y2; rfl
    have hl8 := x8.1
    refine op_callK (by simp only [go_sem, binC]; exact k8) ?_
    simp only [go_sem, binC, osy]
    refine ⟨by omega, ?_⟩
    refine wpc_gen fun H9 hH9 => ?_
    have x9 : AgX [] H8 H9 := hH9 ▸ AgX.app [] _ _
    have hby : H9[H8.length]? = some ⟨[.slice lya ls.length ls.length, sy], 0, 0, false, true⟩ := hH9 ▸ get_new0 _ _
    clear hH9
    have xc9 := xd.tr (x8.tr x9)
    have x69 := hxc.tr xc9
    have hb9 := x69.get hb6 (by simp)
    have hO9 := hOc.sub (xs' := []) xc9 (by simp) fun b' _ _ _ _ => ⟨by simp, by simp⟩
    have row9 : SlR Co.int (vw 0 H9) (sli b 0 (idR ls.length).length) (idR ls.length) := (hO9.slR rfl (by simp)).mono (vwl0 _ _ _)
    rw [idR_len] at row9
    refine seq_reg ?_
    simp only [go_sem, binC, e3, e9, gc_of hb9, inBlk_some, osv]
    obtain ⟨u1, u2⟩ := turnV_same hP
    obtain ⟨lz, sz, H10, k10, x10, z1, z2⟩ := gv H9 d _ _ _ ls l (idR ls.length) (r1.mono (agx_sub x69)) (r2.mono (agx_sub x69)) r3 row9
    rw [u1] at z1 z2
    rw [u2] at k10
    obtain ⟨_, lza, rfl, _⟩ := id z1
    have osz : one sz = true := by obtain ⟨_, a, rfl, _⟩ := z2; rfl
    have hl9 := x9.1
    have hl10 := x10.1
    refine op_callK (by simp only [go_sem, binC, e9]; exact k10) ?_
    simp only [go_sem, binC, osz]
    refine ⟨by omega, ?_⟩
    refine wpc_gen fun H11 hH11 => ?_
    have x11 : AgX [] H10 H11 := hH11 ▸ AgX.app [] _ _
    have hbz : H11[H10.length]? = some ⟨[.slice lza ls.length ls.length, sz], 0, 0, false, true⟩ := hH11 ▸ get_new0 _ _
    clear hH11
    have x911 := x10.tr x11
    have x611 := x69.tr x911
    have hby11 := x911.get hby (by simp)
    have hb11 := x611.get hb6 (by simp)
    refine seq_reg ?_
    simp only [go_sem, binC, e3, gc_of hby11, gc_of hb11, inBlk_some, osy, osv]
    refine op_callQ (by simp only [go_sem, binC]; exact gl H11 d _ _ _ _ ls l (y1.mono (agx_sub (x9.tr x911))) (y2.mono (agx_sub (x9.tr x911))) (r1.mono (agx_sub x611)) (r2.mono (agx_sub x611)) r3) ?_
    simp only [go_sem, binC, e3, gc_of hbz, gc_of hb11, inBlk_some, osz, osv]
    refine op_callQ (by simp only [go_sem, binC]; exact gl H11 d _ _ _ _ ls l (z1.mono (agx_sub x11)) (z2.mono (agx_sub x11)) (r1.mono (agx_sub x611)) (r2.mono (agx_sub x611)) r3) ?_
    simp only [go_sem, binC]
    exact wpc_ret ⟨Or.inr rfl, .bool true, by simp only [go_sem, binC], rfl, rfl⟩
  | succ k ih =>
    intro i e Hc b so hi hxc hOc e3 e9 e10
    have hil : i < ls.length := by omega
    have hw1 : IntKind.i64.wrap ((i : Int) + 1) = ((i + 1 : Nat) : Int) := by rw [wrap_id (by omega) (by omega)]; omega
    have hbc := hxc.get hb6 (by simp)
    have hHc := hxc.1
    refine lp_step ?_
    refine seq_assoc (seq_reg ?_)
    simp only [go_sem, binC, e3, e10, gc_of hbc, inBlk_some]
    refine seq_cond (t := true) (by simp only [go_sem, binC]; rw [decide_eq_true (by omega)]) ?_
    simp only [go_sem, binC]
    refine seq_skip (seq_block (wpc_reg ?_))
    simp only [go_sem, binC, e9, e10]
    refine op_app_own (A := Co.int) (lo := H6.length) (a := (i : Int)) hOc (by simp only [go_sem, binC, e9, idR_len]) (by (simp only [go_sem, binC]) <;> rfl) (by omega) rfl ⟨rfl, by omega, by omega⟩ (by rw [idR_len]; omega) (by omega) (by simp) fun H8 hx8 hO8 => ?_
    simp only [go_sem, binC, out_n, thenX_n]
    refine wpc_reg ?_
    simp only [go_sem, binC, e10, hw1]
    simp only [go_sem, binC, thenX_n]
    have hid : idR i ++ [(i : Int)] = idR (i + 1) := by simp [idR, List.range_succ]
    rw [hid] at hO8
    have hbl := hOc.1
    exact ih (i + 1) _ H8 (Hc.length + 1) _ (by omega) (hxc.trans hx8 (fun _ h _ => h) (fun b' h1 h2 => by simp only [List.mem_singleton] at h1; omega)) hO8 (by simp only [go_sem, binC, e3]) (by simp only [go_sem, binC, idR_len]) (by simp only [go_sem, binC])
end Go.Proofs.YtemnemmnfnpnoaaI
end
section
/- The functions that the law FnTurnSame reaches, as ideal functions. -/
set_option linter.unusedVariables false
set_option linter.unusedSimpArgs false
namespace Go.Proofs.YtemnemmnfnpnoaaI
open Go Go.RowKit
def fnOf : Nat → Option IFn
  | 7 => some (c_lawTSm)
  | 15 => some (c_iTurnVars)
  | 22 => some (c_lcProg)
  | 24 => some (c_iProg)
  | 25 => some (c_sTurnProg)
  | 26 => some (c_iTurnProg)
  | 27 => some (c_drTP)
  | 29 => some (c_sProg)
  | 38 => some (c_sRow)
  | 42 => some (c_iRow)
  | 43 => some (c_pclone)
  | 44 => some (c_change)
  | 45 => some (c_tv1)
  | 52 => some (c_l6Open)
  | 53 => some (c_drAny)
  | 54 => some (c_drRow)
  | 55 => some (c_lcSteps)
  | 56 => some (c_con)
  | 57 => some (c_p1)
  | 58 => some (c_iLabelOk)
  | 59 => some (c_iSteps)
  | 60 => some (c_iSize)
  | 61 => some (c_sHosts)
  | 62 => some (c_sTSet)
  | 63 => some (c_turned)
  | 64 => some (c_tp1)
  | 65 => some (c_sLabelOk)
  | 66 => some (c_sSteps)
  | 67 => some (c_sCount)
  | 76 => some (c_iIn)
  | 77 => some (c_conInt)
  | 78 => some (c_cloneSteps)
  | 81 => some (c_drProg)
  | 82 => some (c_pick)
  | 83 => some (c_drFine)
  | 84 => some (c_drBent)
  | 85 => some (c_idx)
  | 86 => some (c_iSet)
  | 87 => some (c_iVar)
  | 88 => some (c_iVal)
  | 89 => some (c_iHost)
  | 90 => some (c_sSet)
  | 91 => some (c_sHas)
  | 92 => some (c_iHas)
  | 93 => some (c_sStep)
  | 98 => some (c_iNum)
  | 103 => some (c_ixInt)
  | 105 => some (c_drLabel)
  | 106 => some (c_drSteps)
  | 107 => some (c_sWhy)
  | 108 => some (c_sWithout)
  | 109 => some (c_sCopy)
  | 110 => some (c_sIn)
  | 111 => some (c_sAll)
  | 112 => some (c_sVar)
  | 113 => some (c_sVal)
  | 118 => some (c_drVal)
  | 119 => some (c_sAllSteps)
  | 120 => some (c_sTypeAt)
  | 121 => some (c_sFine)
  | 122 => some (c_sAt)
  | 123 => some (c_sAny)
  | 124 => some (c_sFlows)
  | 125 => some (c_sLBoth)
  | 126 => some (c_sValL)
  | 127 => some (c_sBoth)
  | 128 => some (c_sWithin)
  | _ => none
def cmOf (f : Nat) : CM := ⟨fun g => if [7, 22, 24, 29, 38, 42, 55, 56, 57, 58, 59, 60, 62, 63, 65, 66, 67, 76, 77, 85, 86, 87, 88, 89, 90, 91, 92, 93, 98, 103, 107, 110, 111, 112, 113, 121, 123, 124, 125, 126, 127, 128].contains g then .q else if [44, 45, 52, 53, 54, 64, 81, 82, 83, 84, 105, 106, 118, 122].contains g then .n else .k, if [44, 45, 52, 53, 54, 64, 81, 82, 83, 84, 105, 106, 118, 122].contains f then .n else .q, [78].contains f⟩
theorem hF7 : cFn Try.prog cmOf 7 = some (c_lawTSm) := by kernel_rfl
theorem hF15 : cFn Try.prog cmOf 15 = some (c_iTurnVars) := by kernel_rfl
theorem hF22 : cFn Try.prog cmOf 22 = some (c_lcProg) := by kernel_rfl
theorem hF24 : cFn Try.prog cmOf 24 = some (c_iProg) := by kernel_rfl
theorem hF25 : cFn Try.prog cmOf 25 = some (c_sTurnProg) := by kernel_rfl
theorem hF26 : cFn Try.prog cmOf 26 = some (c_iTurnProg) := by kernel_rfl
theorem hF27 : cFn Try.prog cmOf 27 = some (c_drTP) := by kernel_rfl
theorem hF29 : cFn Try.prog cmOf 29 = some (c_sProg) := by kernel_rfl
theorem hF38 : cFn Try.prog cmOf 38 = some (c_sRow) := by kernel_rfl
theorem hF42 : cFn Try.prog cmOf 42 = some (c_iRow) := by kernel_rfl
theorem hF43 : cFn Try.prog cmOf 43 = some (c_pclone) := by kernel_rfl
theorem hF44 : cFn Try.prog cmOf 44 = some (c_change) := by kernel_rfl
theorem hF45 : cFn Try.prog cmOf 45 = some (c_tv1) := by kernel_rfl
theorem hF52 : cFn Try.prog cmOf 52 = some (c_l6Open) := by kernel_rfl
theorem hF53 : cFn Try.prog cmOf 53 = some (c_drAny) := by kernel_rfl
theorem hF54 : cFn Try.prog cmOf 54 = some (c_drRow) := by kernel_rfl
theorem hF55 : cFn Try.prog cmOf 55 = some (c_lcSteps) := by kernel_rfl
theorem hF56 : cFn Try.prog cmOf 56 = some (c_con) := by kernel_rfl
theorem hF57 : cFn Try.prog cmOf 57 = some (c_p1) := by kernel_rfl
theorem hF58 : cFn Try.prog cmOf 58 = some (c_iLabelOk) := by kernel_rfl
theorem hF59 : cFn Try.prog cmOf 59 = some (c_iSteps) := by kernel_rfl
theorem hF60 : cFn Try.prog cmOf 60 = some (c_iSize) := by kernel_rfl
theorem hF61 : cFn Try.prog cmOf 61 = some (c_sHosts) := by kernel_rfl
theorem hF62 : cFn Try.prog cmOf 62 = some (c_sTSet) := by kernel_rfl
theorem hF63 : cFn Try.prog cmOf 63 = some (c_turned) := by kernel_rfl
theorem hF64 : cFn Try.prog cmOf 64 = some (c_tp1) := by kernel_rfl
theorem hF65 : cFn Try.prog cmOf 65 = some (c_sLabelOk) := by kernel_rfl
theorem hF66 : cFn Try.prog cmOf 66 = some (c_sSteps) := by kernel_rfl
theorem hF67 : cFn Try.prog cmOf 67 = some (c_sCount) := by kernel_rfl
theorem hF76 : cFn Try.prog cmOf 76 = some (c_iIn) := by kernel_rfl
theorem hF77 : cFn Try.prog cmOf 77 = some (c_conInt) := by kernel_rfl
theorem hF78 : cFn Try.prog cmOf 78 = some (c_cloneSteps) := by kernel_rfl
theorem hF81 : cFn Try.prog cmOf 81 = some (c_drProg) := by kernel_rfl
theorem hF82 : cFn Try.prog cmOf 82 = some (c_pick) := by kernel_rfl
theorem hF83 : cFn Try.prog cmOf 83 = some (c_drFine) := by kernel_rfl
theorem hF84 : cFn Try.prog cmOf 84 = some (c_drBent) := by kernel_rfl
theorem hF85 : cFn Try.prog cmOf 85 = some (c_idx) := by kernel_rfl
theorem hF86 : cFn Try.prog cmOf 86 = some (c_iSet) := by kernel_rfl
theorem hF87 : cFn Try.prog cmOf 87 = some (c_iVar) := by kernel_rfl
theorem hF88 : cFn Try.prog cmOf 88 = some (c_iVal) := by kernel_rfl
theorem hF89 : cFn Try.prog cmOf 89 = some (c_iHost) := by kernel_rfl
theorem hF90 : cFn Try.prog cmOf 90 = some (c_sSet) := by kernel_rfl
theorem hF91 : cFn Try.prog cmOf 91 = some (c_sHas) := by kernel_rfl
theorem hF92 : cFn Try.prog cmOf 92 = some (c_iHas) := by kernel_rfl
theorem hF93 : cFn Try.prog cmOf 93 = some (c_sStep) := by kernel_rfl
theorem hF98 : cFn Try.prog cmOf 98 = some (c_iNum) := by kernel_rfl
theorem hF103 : cFn Try.prog cmOf 103 = some (c_ixInt) := by kernel_rfl
theorem hF105 : cFn Try.prog cmOf 105 = some (c_drLabel) := by kernel_rfl
theorem hF106 : cFn Try.prog cmOf 106 = some (c_drSteps) := by kernel_rfl
theorem hF107 : cFn Try.prog cmOf 107 = some (c_sWhy) := by kernel_rfl
theorem hF108 : cFn Try.prog cmOf 108 = some (c_sWithout) := by kernel_rfl
theorem hF109 : cFn Try.prog cmOf 109 = some (c_sCopy) := by kernel_rfl
theorem hF110 : cFn Try.prog cmOf 110 = some (c_sIn) := by kernel_rfl
theorem hF111 : cFn Try.prog cmOf 111 = some (c_sAll) := by kernel_rfl
theorem hF112 : cFn Try.prog cmOf 112 = some (c_sVar) := by kernel_rfl
theorem hF113 : cFn Try.prog cmOf 113 = some (c_sVal) := by kernel_rfl
theorem hF118 : cFn Try.prog cmOf 118 = some (c_drVal) := by kernel_rfl
theorem hF119 : cFn Try.prog cmOf 119 = some (c_sAllSteps) := by kernel_rfl
theorem hF120 : cFn Try.prog cmOf 120 = some (c_sTypeAt) := by kernel_rfl
theorem hF121 : cFn Try.prog cmOf 121 = some (c_sFine) := by kernel_rfl
theorem hF122 : cFn Try.prog cmOf 122 = some (c_sAt) := by kernel_rfl
theorem hF123 : cFn Try.prog cmOf 123 = some (c_sAny) := by kernel_rfl
theorem hF124 : cFn Try.prog cmOf 124 = some (c_sFlows) := by kernel_rfl
theorem hF125 : cFn Try.prog cmOf 125 = some (c_sLBoth) := by kernel_rfl
theorem hF126 : cFn Try.prog cmOf 126 = some (c_sValL) := by kernel_rfl
theorem hF127 : cFn Try.prog cmOf 127 = some (c_sBoth) := by kernel_rfl
theorem hF128 : cFn Try.prog cmOf 128 = some (c_sWithin) := by kernel_rfl
theorem hF (g : Nat) (fn : IFn) (h : fnOf g = some fn) : cFn Try.prog cmOf g = some fn := by
  unfold fnOf at h
  split at h
  · rw [← h]; exact hF7
  · rw [← h]; exact hF15
  · rw [← h]; exact hF22
  · rw [← h]; exact hF24
  · rw [← h]; exact hF25
  · rw [← h]; exact hF26
  · rw [← h]; exact hF27
  · rw [← h]; exact hF29
  · rw [← h]; exact hF38
  · rw [← h]; exact hF42
  · rw [← h]; exact hF43
  · rw [← h]; exact hF44
  · rw [← h]; exact hF45
  · rw [← h]; exact hF52
  · rw [← h]; exact hF53
  · rw [← h]; exact hF54
  · rw [← h]; exact hF55
  · rw [← h]; exact hF56
  · rw [← h]; exact hF57
  · rw [← h]; exact hF58
  · rw [← h]; exact hF59
  · rw [← h]; exact hF60
  · rw [← h]; exact hF61
  · rw [← h]; exact hF62
  · rw [← h]; exact hF63
  · rw [← h]; exact hF64
  · rw [← h]; exact hF65
  · rw [← h]; exact hF66
  · rw [← h]; exact hF67
  · rw [← h]; exact hF76
  · rw [← h]; exact hF77
  · rw [← h]; exact hF78
  · rw [← h]; exact hF81
  · rw [← h]; exact hF82
  · rw [← h]; exact hF83
  · rw [← h]; exact hF84
  · rw [← h]; exact hF85
  · rw [← h]; exact hF86
  · rw [← h]; exact hF87
  · rw [← h]; exact hF88
  · rw [← h]; exact hF89
  · rw [← h]; exact hF90
  · rw [← h]; exact hF91
  · rw [← h]; exact hF92
  · rw [← h]; exact hF93
  · rw [← h]; exact hF98
  · rw [← h]; exact hF103
  · rw [← h]; exact hF105
  · rw [← h]; exact hF106
  · rw [← h]; exact hF107
  · rw [← h]; exact hF108
  · rw [← h]; exact hF109
  · rw [← h]; exact hF110
  · rw [← h]; exact hF111
  · rw [← h]; exact hF112
  · rw [← h]; exact hF113
  · rw [← h]; exact hF118
  · rw [← h]; exact hF119
  · rw [← h]; exact hF120
  · rw [← h]; exact hF121
  · rw [← h]; exact hF122
  · rw [← h]; exact hF123
  · rw [← h]; exact hF124
  · rw [← h]; exact hF125
  · rw [← h]; exact hF126
  · rw [← h]; exact hF127
  · rw [← h]; exact hF128
  · cases h
theorem hMixed : Try.prog.follows .mixedOrders = true := by kernel_rfl
theorem ok_iIn : ∀ (H : Heap) (a b c : Int), QC fnOf 76 [.int .i64 a, .int .i64 b, .int .i64 c] H (.bool (inB a b c)) := iIn_ok rfl
theorem ok_sIn : ∀ (H : Heap) (a b c : Int), QC fnOf 110 [.int .i64 a, .int .i64 b, .int .i64 c] H (.bool (inB a b c)) := sIn_ok rfl
theorem ok_iSet : ∀ (H : Heap) (a : Int), QC fnOf 86 [.int .i64 a] H (.bool (inB a 0 7)) := iSet_ok rfl ok_iIn
theorem ok_iHost : ∀ (H : Heap) (a : Int), QC fnOf 89 [.int .i64 a] H (.bool (inB a 0 2)) := iHost_ok rfl ok_iIn
theorem ok_iNum : ∀ (H : Heap) (a : Int), QC fnOf 98 [.int .i64 a] H (.bool (inB a 0 9)) := iNum_ok rfl ok_iIn
theorem ok_sAll : ∀ H, QC fnOf 111 [] H (.int .i64 7) := sAll_ok rfl
theorem ok_sSet : ∀ (H : Heap) (a : Int), QC fnOf 90 [.int .i64 a] H (.bool (inB a 0 7)) := sSet_ok rfl ok_sIn ok_sAll
theorem ok_iLabelOk : LabOk fnOf 58 := iLabelOk_ok rfl ok_iSet
theorem ok_sLabelOk : LabOk fnOf 65 := sLabelOk_ok rfl ok_sSet
theorem ok_iVar : VarOk fnOf 87 := iVar_ok rfl ok_iIn
theorem ok_sVar : VarOk fnOf 112 := sVar_ok rfl ok_sIn
theorem ok_iVal : ValOk fnOf 88 := iVal_ok rfl ok_iNum ok_iVar
theorem ok_sVal : ValOk fnOf 113 := sVal_ok rfl ok_sIn ok_sVar
theorem ok_sSteps : ∀ n, StepsOk fnOf 66 n := fun n => (sSteps_all rfl rfl ok_sIn ok_sVar ok_sVal n).1
theorem ok_iSteps : ∀ n, StepsOk fnOf 59 n := iSteps_all rfl ok_iVar ok_iVal ok_iHost
theorem ok_sCount : ∀ n, CntOk fnOf 67 n := cnt_all (fun _ h => sCount_ok rfl h) (sCount_z rfl)
theorem ok_iSize : ∀ n, CntOk fnOf 60 n := cnt_all (fun _ h => iSize_ok rfl h) (iSize_z rfl)
theorem ok_sProg : ProgOk fnOf 29 := sProg_ok rfl ok_sLabelOk ok_sSteps ok_sCount
theorem ok_iProg : ProgOk fnOf 24 := iProg_ok rfl (con_ok rfl (idx_ok rfl (p1_ok rfl ok_iLabelOk))) ok_iSteps ok_iSize
theorem ok_sHas : HasOk fnOf 91 := sHas_ok rfl
theorem ok_sWit : WitOk fnOf 128 := sWithin_ok rfl ok_sHas
theorem ok_sBoth : BothOk fnOf 127 := sBoth_ok rfl ok_sHas
theorem ok_sLBoth : LBothOk fnOf 125 := sLBoth_ok rfl ok_sLabelOk ok_sBoth
theorem ok_sFlows : FlowsOk fnOf 124 := sFlows_ok rfl ok_sLabelOk ok_sWit
theorem ok_sAny : ∀ H, QC fnOf 123 [] H (.agg #[.int .i64 7, .int .i64 7]) := sAny_ok rfl ok_sAll
theorem ok_sFine : FineOk fnOf 121 := sFine_ok rfl (sValL_ok rfl ok_sAny ok_sLBoth) ok_sLBoth ok_sFlows ok_sBoth ok_sHas
theorem ok_sAllSteps : ∀ n, AllOk fnOf 119 n := sAllSteps_all rfl
theorem ok_sAt : ∀ n, AtOk fnOf 122 n := sAt_all rfl ok_sLBoth
theorem ok_sTypeAt : TypeAtOk fnOf 120 := sTypeAt_ok rfl ok_sProg ok_sAny ok_sAt
theorem ok_sWhy : WhyOk fnOf 107 := sWhy_ok rfl ok_sProg ok_sAllSteps ok_sTypeAt ok_sFine
theorem ok_sCopy : ∀ n, CopyOk fnOf 109 n := sCopy_all rfl
theorem ok_sWithout : ∀ n, WoOk fnOf 108 n := sWithout_all rfl ok_sCount
theorem ok_drProg {H0 : Heap} {rb : Nat} {bv : Value} {code : List Int} (hc : RdC H0 rb bv code) : DrawS fnOf H0 rb bv 81 [] 40000 (ProgQ 3) := drProg_ok rfl rfl rfl rfl rfl ok_sProg hc
theorem ok_drFine {H0 : Heap} {rb : Nat} {bv : Value} {code : List Int} (hc : RdC H0 rb bv code) : DrawS fnOf H0 rb bv 83 [] 40000 (ProgQ 3) := drFine_ok rfl hc (ok_drProg hc) ok_sWhy ok_sWithout
theorem ok_drAny {H0 : Heap} {rb : Nat} {bv : Value} {code : List Int} (hc : RdC H0 rb bv code) : DrawS fnOf H0 rb bv 53 [] 90000 ProgR := drAny_ok rfl rfl hc (ok_drProg hc) (ok_drFine hc) (drBent_ok rfl rfl ok_sCopy hc)
theorem ok_ixInt : ∀ (H : Heap) (v : Value) (l : List Int) (x : Int), SlR Co.int (vw 0 H) v l → QC fnOf 77 [v, .int .i64 x] H (.bool (decide (x ∈ l))) := conInt_ok rfl rfl
theorem ok_iRow : RowOk fnOf 42 := iRow_ok rfl ok_iIn ok_ixInt
theorem ok_sRow : RowOk fnOf 38 := sRow_ok rfl
theorem ok_pclone : PCloneOk fnOf 43 := pclone_ok rfl (cloneSteps_all rfl)
theorem ok_iTurnVars : TurnPOk fnOf 15 (fun k => k) turnL turnS := iTurnVars_ok rfl ok_iProg ok_iRow ok_pclone rfl rfl
theorem ok_lcProg : SamePOk fnOf 22 := lcProg_ok rfl (lcSteps_all rfl)
theorem ok_iHas : HasOk fnOf 92 := iHas_ok rfl ok_iHost
theorem ok_sTSet : TSetOk fnOf 62 := sTSet_ok rfl ok_sHas ok_sSet ok_sRow
theorem ok_iTurnProg : TurnPOk fnOf 26 (fun _ => 3) turnLH turnH := iTurnProg_ok rfl ok_iProg ok_iRow ok_pclone rfl rfl (turned_ok rfl ok_iHas)
theorem ok_sTurnProg : TurnPOk fnOf 25 (fun _ => 3) turnLH turnH := sTurnProg_ok rfl ok_sProg ok_sRow rfl ok_sTSet
theorem ok_drTP : DrawNumsOk fnOf 27 := drTP_ok rfl rfl rfl rfl ok_drAny
theorem ok_lawTSm : LawB fnOf 7 := lawTSm_ok rfl ok_drTP ok_sTurnProg ok_iTurnProg ok_lcProg ok_sProg ok_iTurnVars
end Go.Proofs.YtemnemmnfnpnoaaI
end
section
/- Laws of lists of bytes, called in the model. -/
set_option linter.unusedVariables false
set_option linter.unusedSimpArgs false
namespace Go.Proofs.YtemnemmnfnpnoaaI
open Go Go.RowKit
theorem Good.byte {w : World} {n : Int} (h : (Lit.int .u8 n).wf = true) : Good Co.byte w [.int .u8 n] := fun H m s =>
  ⟨n, [], m, [.int .u8 n], by simpa using s, sub_refl m, ⟨rfl, by simpa [Lit.wf, IntKind.min, IntKind.max, IntKind.signed, IntKind.bits] using h⟩, All2.cons (.inl rfl) All2.nil⟩
theorem good_5 {T : Type} {enc : TypeId × Value → T} {w : World} {spare : Nat → Bool} {held : Bool} {n : Nat} {cs : List Value} {x : DataW T × List MemPlace} (h : DataW.trod enc Try.prog w 0 spare held n 5 cs = some x) : Good Co.byte w cs := by
  obtain ⟨m, rfl, _, hw⟩ := DataW.trod_int Try.underlying5 h
  exact Good.byte hw
theorem good_41 {T : Type} {enc : TypeId × Value → T} {w : World} {spare : Nat → Bool} {held : Bool} {n : Nat} {cs : List Value} {x : DataW T × List MemPlace} (h : DataW.trod enc Try.prog w 0 spare held n 41 cs = some x) : Good (Co.sl Co.byte) w cs :=
  Good.sl Try.underlying41 (by kernel_rfl) (by decide) h fun _ _ _ _ h => good_5 h
theorem lawB_calls {n : Nat} (hl : LawB fnOf n) {W : World} {a : Option Addr} {l c : Nat} (g0 : Good (Co.sl Co.byte) W [.slice a l c]) :
    Calls Try.prog n #[.slice a l c] W fun e w' => e = .returned (.bool true) ∧ Below W.heap.size W w' := by
  obtain ⟨ts, L2, m2, cs1, s2, q2, r2, e2⟩ := g0 [] (fun _ => none) (SL.none _)
  obtain ⟨u, rfl, hu⟩ := r2
  exact law_core hF hMixed s2 (vals := [u]) (All2.cons (VR.one_mk e2) All2.nil) (hl _ u ts hu)
end Go.Proofs.YtemnemmnfnpnoaaI
end
