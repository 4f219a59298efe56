/- Texts of this proof, merged: H9, H10, H11, H12, H13, H14, H15, H16, H17, H18, H20, H21. -/
import Derived.Test.YtemnemmnfnpnoaaPd10
section
/- Variables named otherwise (the reference's). -/
set_option linter.unusedVariables false
set_option linter.unusedSimpArgs false
namespace Go.Proofs.YtemnemmnfnpnoaaI
open Go Go.RowKit
def c_sTurnVars : IFn := ⟨2, 48, [.cell true 2 4, .t 5],
 .seq (.reg none [
    ⟨(some 2), none, .box (.t 0)⟩,
    ⟨(some 4), none, .new [(.slice none 0 0), (.slice none 0 0)]⟩,
    ⟨(some 5), none, .mov (.c (.bool false))⟩])
 (.seq (.seq (.reg none [
     ⟨(some 8), none, .load true 2 (.t 2)⟩,
     ⟨(some 9), none, .call .q (.f 29) [(.t 8)]⟩,
     ⟨(some 10), none, .un .not (.t 9)⟩,
     ⟨(some 11), none, .mov (.t 10)⟩,
     ⟨(some 12), (some (11, false)), .mov (.t 1)⟩,
     ⟨(some 13), (some (11, false)), .fad 0 (.t 2)⟩,
     ⟨(some 14), (some (11, false)), .load false 1 (.t 13)⟩,
     ⟨(some 15), (some (11, false)), .len (.t 14)⟩,
     ⟨(some 16), (some (11, false)), .call .q (.f 38) [(.t 12), (.t 15)]⟩,
     ⟨(some 17), (some (11, false)), .un .not (.t 16)⟩,
     ⟨(some 18), none, .pick (.t 11) (.c (.bool true)) (.t 17)⟩])
  (.cond (.t 18) (.seq (.reg none [
      ⟨(some 19), none, .build [(.slice none 0 0), (.slice none 0 0)] []⟩,
      ⟨none, none, .store 2 (.t 4) (.t 19)⟩,
      ⟨(some 5), none, .mov (.c (.bool false))⟩])
   (.ret)) (.skip)))
 (.seq (.reg (some 10) [
    ⟨(some 20), none, .fad 0 (.t 2)⟩,
    ⟨(some 21), none, .load false 1 (.t 20)⟩,
    ⟨(some 22), none, .len (.t 21)⟩,
    ⟨(some 23), none, .mks 2 63 16 [(.int .i64 0), (.int .i64 0)] (.t 22) (.t 22)⟩,
    ⟨(some 24), none, .fad 1 (.t 2)⟩,
    ⟨(some 25), none, .load false 1 (.t 24)⟩,
    ⟨(some 26), none, .mov (.t 1)⟩,
    ⟨(some 27), none, .call .k (.f 39) [(.t 25), (.t 26)]⟩,
    ⟨(some 28), none, .build [(.slice none 0 0), (.slice none 0 0)] [(0, 1, (.t 23)), (1, 1, (.t 27))]⟩,
    ⟨(some 6), none, .new [(.slice none 0 0), (.slice none 0 0)]⟩,
    ⟨none, none, .store 2 (.t 6) (.t 28)⟩])
 (.seq (.seq (.reg none [
     ⟨(some 7), none, .mov (.c (.int .i64 0))⟩])
  (.block 0 (.loop (.seq (.seq (.reg none [
        ⟨(some 29), none, .mov (.t 7)⟩,
        ⟨(some 30), none, .mov (.t 1)⟩,
        ⟨(some 31), none, .len (.t 30)⟩,
        ⟨(some 32), none, .bin .lss (.t 29) (.t 31)⟩])
     (.cond (.t 32) (.skip) (.exit 0)))
    (.seq (.block 1 (.reg (some 11) [
        ⟨(some 35), none, .fad 0 (.t 6)⟩,
        ⟨(some 36), none, .load false 1 (.t 35)⟩,
        ⟨(some 37), none, .mov (.t 1)⟩,
        ⟨(some 38), none, .mov (.t 7)⟩,
        ⟨(some 39), none, .iad 1 (.t 37) (.t 38)⟩,
        ⟨(some 40), none, .load false 1 (.t 39)⟩,
        ⟨(some 41), none, .fad 0 (.t 2)⟩,
        ⟨(some 42), none, .load false 1 (.t 41)⟩,
        ⟨(some 43), none, .mov (.t 7)⟩,
        ⟨(some 44), none, .iad 2 (.t 42) (.t 43)⟩,
        ⟨(some 45), none, .load true 2 (.t 44)⟩,
        ⟨(some 46), none, .iad 2 (.t 36) (.t 40)⟩,
        ⟨none, none, .store 2 (.t 46) (.t 45)⟩]))
    (.reg none [
      ⟨(some 33), none, .mov (.t 7)⟩,
      ⟨(some 34), none, .bin .add (.t 33) (.c (.int .i64 1))⟩,
      ⟨(some 7), none, .mov (.t 34)⟩]))))))
 (.seq (.reg none [
    ⟨(some 47), none, .load true 2 (.t 6)⟩,
    ⟨none, none, .store 2 (.t 4) (.t 47)⟩,
    ⟨(some 5), none, .mov (.c (.bool true))⟩])
 (.ret)))))⟩
theorem blk_slP {es et b : Nat} {ap so : Bool} {H : Heap} {l : List (Int × Int)} (h : H[b]? = some ⟨l.flatMap fp, es, et, ap, so⟩) (hr : ∀ p ∈ l, RgI p.1 ∧ RgI p.2) (hl : l.length ≤ 1000) : SlR Co.p2 (vw 0 H) (sli b 0 l.length) l := by
  by_cases h0 : l = []
  · subst h0; exact ⟨by simp, _, rfl, .inl rfl⟩
  · have hfl := flat_len (fl := fp) (w := 2) (fun _ => rfl) l
    refine ⟨by omega, _, rfl, .inr ⟨b, 0, rfl, fun i hi => ⟨fp l[i], ?_, ⟨[.int .i64 l[i].1], [.int .i64 l[i].2], rfl, ⟨rfl, (hr _ (List.getElem_mem hi)).1⟩, ⟨rfl, (hr _ (List.getElem_mem hi)).2⟩⟩⟩⟩⟩
    unfold rng vw
    rw [if_pos (Nat.zero_le _), h]
    simp only [Option.map_some, Nat.zero_add, show Co.p2.w = 2 from rfl]
    rw [if_pos (by omega)]
    congr 1
    have : l.flatMap fp = (l.take i).flatMap fp ++ (fp l[i] ++ (l.drop (i + 1)).flatMap fp) := by
      conv => lhs; rw [← List.take_append_drop i l, List.drop_eq_getElem_cons hi]
      rw [List.flatMap_append, List.flatMap_cons]
    rw [this]
    have hlt : ((l.take i).flatMap fp).length = i * 2 := by rw [flat_len (fl := fp) (w := 2) (fun _ => rfl), List.length_take]; omega
    rw [List.drop_append, List.drop_of_length_le (by omega), hlt, Nat.sub_self, List.nil_append, List.drop_zero]
    rfl
theorem rep_fp (n : Nat) : (List.replicate n [Value.int .i64 0, .int .i64 0]).flatten = (List.replicate n ((0, 0) : Int × Int)).flatMap fp := by
  induction n with
  | zero => rfl
  | succ n ih => rw [List.replicate_succ, List.replicate_succ, List.flatten_cons, List.flatMap_cons, ih]; rfl
theorem sTurnVars_ok {F : Nat → Option IFn} {f : Nat} (hf : F f = some c_sTurnVars) (gp : ProgOk F 29) (gr : RowOk F 38) (gv : F 39 = some c_sVars) : TurnPOk F f (fun k => k) turnL turnS := by
  intro H n lv sv w ls l row r1 r2 hsm r3
  suffices h : ∃ v H', KC F f [.agg #[lv, sv], w] H v H' ∧ (∃ lv' sv', v = .tuple #[.agg #[lv', sv'], .bool (turnB n (fun k => k) ls l row)] ∧ AgX [] H H' ∧ SlR Co.p2 (vw 0 H') lv' (turnO n (fun k => k) turnL turnS ls l row).1 ∧ SlR (Co.step n) (vw 0 H') sv' (turnO n (fun k => k) turnL turnS ls l row).2) by
    obtain ⟨_, H', h1, lv', sv', rfl, h2⟩ := h
    exact ⟨lv', sv', H', h1, h2⟩
  have osv : one sv = true := by obtain ⟨_, a, rfl, _⟩ := r2; rfl
  obtain ⟨_, la, rfl, _⟩ := id r1
  obtain ⟨_, wa, rfl, _⟩ := id r3
  have hls0 : ls.length ≤ 1048576 := hsm.1.1
  refine KC.mk hf rfl ?_
  refine seq_reg ?_
  simp only [go_sem, binC, osv]
  refine wpc_gen fun H1 hH1 => ?_
  have hx1 : AgX [] H H1 := hH1 ▸ AgX.app [] _ _
  have hb2 : H1[H.length]? = some ⟨[.slice la ls.length ls.length, sv], 0, 0, false, true⟩ := hH1 ▸ get_new0 _ _
  have hb4 : H1[H.length + 1]? = some ⟨[nilS, nilS], 0, 0, false, true⟩ := hH1 ▸ get_new _ _ 1
  have hln1 : H1.length = H.length + 2 := by rw [hH1]; simp
  clear hH1
  have r1' := r1.mono (agx_sub hx1)
  have r2' := r2.mono (agx_sub hx1)
  have r3' := r3.mono (agx_sub hx1)
  have hb4l := (List.getElem?_eq_some_iff.1 hb4).1
  refine seq_assoc (seq_reg ?_)
  simp only [go_sem, binC, gc_of hb2, inBlk_some, osv]
  refine op_callB (by simp only [go_sem, binC]; exact gp H1 n _ (ls, l) (prog_rd r1' r2') hsm) (fun hP => ?_) (fun hP => ?_)
  rotate_left
  · simp only [go_sem, binC]
    refine seq_cond (t := true) rfl ?_
    simp only [go_sem, binC]
    refine seq_assoc (seq_reg ?_)
    simp only [go_sem, binC, hb4]
    have hB : turnB n (fun k => k) ls l row = false := by simp [turnB, hP]
    have hr : turnO n (fun k => k) turnL turnS ls l row = ([], []) := if_neg (by rw [hB]; simp)
    refine seq_ret ⟨Or.inr rfl, .tuple #[.agg #[nilS, nilS], .bool false], ?_, nilS, nilS, by rw [hB], hx1.setN (by omega) _, ?_, ?_⟩
    · simp [resV, resL, res1, putE_get, notT, ptr, gc_set hb4l, inBlk_some, valOf]
    all_goals (rw [hr]; exact ⟨by simp, none, rfl, .inl rfl⟩)
  have hls : ls.length ≤ 4 := by
    have := hP
    simp only [progB, Bool.and_eq_true, decide_eq_true_eq] at this; have := this.1.1.1; omega
  simp only [go_sem, binC, gc_of hb2, inBlk_some]
  refine op_callB (by simp only [go_sem, binC]; exact gr H1 _ row ls.length (by omega) r3') (fun hR => ?_) (fun hR => ?_)
  rotate_left
  · simp only [go_sem, binC]
    refine seq_cond (t := true) rfl ?_
    simp only [go_sem, binC]
    refine seq_assoc (seq_reg ?_)
    simp only [go_sem, binC, hb4]
    have hB : turnB n (fun k => k) ls l row = false := by simp [turnB, hR]
    have hr : turnO n (fun k => k) turnL turnS ls l row = ([], []) := if_neg (by rw [hB]; simp)
    refine seq_ret ⟨Or.inr rfl, .tuple #[.agg #[nilS, nilS], .bool false], ?_, nilS, nilS, by rw [hB], hx1.setN (by omega) _, ?_, ?_⟩
    · simp [resV, resL, res1, putE_get, notT, ptr, gc_set hb4l, inBlk_some, valOf]
    all_goals (rw [hr]; exact ⟨by simp, none, rfl, .inl rfl⟩)
  have hB : turnB n (fun k => k) ls l row = true := by simp [turnB, hP, hR]
  have hO : turnO n (fun k => k) turnL turnS ls l row = (turnL row ls, l.map (mapT (turnS row) n)) := if_pos hB
  obtain ⟨hr1, hr2, hr3⟩ := rowB_iff.1 hR
  simp only [go_sem, binC]
  refine seq_cond (t := false) rfl ?_
  simp only [go_sem, binC]
  refine seq_skip (seq_regD ?_)
  simp only [go_sem, binC, gc_of hb2, inBlk_some, osv]
  refine ⟨by omega, ?_⟩
  simp only [go_sem, binC, Int.toNat_natCast, rep_fp]
  generalize hHa : H1 ++ [(⟨(List.replicate ls.length ((0, 0) : Int × Int)).flatMap fp, 2, 63, true, true⟩ : Blk)] = Ha
  have hxa : AgX [] H1 Ha := hHa ▸ AgX.app [] _ _
  have hba : Ha[H1.length]? = some ⟨(List.replicate ls.length ((0, 0) : Int × Int)).flatMap fp, 2, 63, true, true⟩ := hHa ▸ get_new0 _ _
  clear hHa
  have hb2a := hxa.get hb2 (by simp)
  simp only [go_sem, binC, gc_of hb2a, inBlk_some, osv]
  obtain ⟨bv, sov, H2, k2, hx2, o2⟩ := sVars_all gv hR (by omega) n Ha sv _ l (r2'.mono (agx_sub hxa)) hsm.2 (r3'.mono (agx_sub hxa)) (progB_okS hP)
  refine op_callK (by simp only [go_sem, binC]; exact k2) ?_
  simp only [go_sem, binC, get_new0]
  refine ⟨by have := hx1.1; have := hxa.1; have := hx2.1; omega, ?_⟩
  refine wpc_genH fun H3 hH3 => ?_
  have hx3 : AgX [] H2 H3 := hH3 ▸ AgX.app [] _ _
  have hb6 : H3[H2.length]? = some ⟨[sli H1.length 0 ls.length, sli bv 0 l.length], 0, 0, false, true⟩ := hH3 ▸ get_new0 _ _
  clear hH3 k2
  have hxa3 := hx2.tr hx3
  have hx13 := hxa.tr hxa3
  have hl2 := hx2.1
  have hl3 := hx3.1
  have hla := hxa.1
  have hba3 := hxa3.get hba (by simp)
  have hHa : Ha.length ≠ 0 := fun h => by have := (List.getElem?_eq_some_iff.1 hba).1; omega
  have hbal := (List.getElem?_eq_some_iff.1 hba).1
  have s2 : SlR (Co.step n) (vwl Ha.length [] H2) (sli bv 0 l.length) (l.map (mapT (turnS row) n)) := by
    have := o2.slR (step_w n) (by simp)
    rwa [List.length_map] at this
  have hb43 := hx13.get hb4 (by simp)
  have hb23 := hx13.get hb2 (by simp)
  refine seq_assoc (seq_reg ?_)
  simp only [go_sem, binC]
  refine seq_block (wpc_loop ?_)
  suffices h : ∀ (k i : Nat) (e : Env) (Hc : Heap) (cur : List (Int × Int)), i + k = ls.length → AgX [H1.length] H3 Hc → cur.length = ls.length → Hc[H1.length]? = some ⟨cur.flatMap fp, 2, 63, true, true⟩ → (∀ p ∈ cur, RgI p.1 ∧ RgI p.2) → (∀ j (h : j < i) (h' : j < ls.length) (h2 : j < row.length), cur[row[j].toNat]? = some ls[j]) → e 1 = .slice wa row.length row.length → e 2 = ptr H.length 0 → e 4 = ptr (H.length + 1) 0 → e 6 = ptr H2.length 0 → e 7 = .int .i64 i → W F H.length _ e Hc _ from
    h ls.length 0 _ H3 (List.replicate ls.length (0, 0)) (by omega) (AgX.refl _ _) (by simp) hba3 (fun p hp => by obtain ⟨_, rfl⟩ := List.mem_replicate.1 hp; unfold RgI; exact ⟨by omega, by omega⟩) (fun j h => by omega) (by simp only [go_sem, binC]) (by simp only [go_sem, binC]) (by simp only [go_sem, binC]) (by simp only [go_sem, binC]) (by (simp only [go_sem, binC]) <;> rfl)
  intro k
  induction k with
  | zero =>
    intro i e Hc cur hi hxc hcl hbc hrg hcur e1 e2 e4 e6 e7
    have hb6c := hxc.get hb6 (by simp; omega)
    have hb4c := hxc.get hb43 (by simp; omega)
    have hb4cl := (List.getElem?_eq_some_iff.1 hb4c).1
    have hx1c : AgX [] H1 Hc := hx13.trans hxc (fun _ h _ => h) (fun b h1 h2 => by simp only [List.mem_singleton] at h1; omega)
    have hcT : cur = turnL row ls := turnL_of hR hcl fun j h h' => hcur j (by omega) h h'
    refine lp_step ?_
    refine seq_assoc (seq_reg ?_)
    simp only [go_sem, binC, e1, e7]
    refine seq_cond (t := false) (by simp only [go_sem, binC]; rw [decide_eq_false (by omega)]) ?_
    simp only [go_sem, binC]
    refine seq_exit ?_
    simp only [go_sem, binC, thenX_e, out_e, thenX_n]
    refine seq_reg ?_
    simp only [go_sem, binC, e6, e4, gc_of hb6c, inBlk_some, hb4c]
    have hxf : AgX [H.length + 1] Hc (Hc.set (H.length + 1) ⟨[sli H1.length 0 ls.length, sli bv 0 l.length], 0, 0, false, true⟩) := AgX.set _ _ _
    refine wpc_ret ⟨Or.inr rfl, .tuple #[.agg #[sli H1.length 0 ls.length, sli bv 0 l.length], .bool true], ?_, _, _, by rw [hB], (hx1.tr hx1c).setN (by omega) _, ?_, ?_⟩
    · simp [resV, resL, res1, putE_get, notT, ptr, gc_set hb4cl, inBlk_some, valOf, e4, sli]
    · rw [hO]
      show SlR Co.p2 _ _ (turnL row ls)
      rw [← hcT]
      have hq := blk_slP (hxf.get hbc (by simp; omega)) hrg (by omega)
      rw [hcl] at hq
      exact hq
    · rw [hO]
      refine s2.mono ?_
      exact ((vwl_sub ((hx3.trans hxc (fun _ h _ => by cases h) (fun _ h _ => h)).trans hxf (fun _ h _ => List.mem_cons_of_mem _ h) (fun b h _ => by simp only [List.mem_singleton] at h; rw [h]; exact List.mem_cons_self) : AgX [H.length + 1, H1.length] H2 _) (Nat.le_refl _) (xs' := []) (fun b' _ h1 h2 => ⟨by simp; omega, by simp⟩))).trans (vwl0 _ _ _)
  | succ k ih =>
    intro i e Hc cur hi hxc hcl hbc hrg hcur e1 e2 e4 e6 e7
    have hil : i < ls.length := by omega
    have hir : i < row.length := by omega
    have hw1 : IntKind.i64.wrap ((i : Int) + 1) = ((i + 1 : Nat) : Int) := by rw [wrap_id (by omega) (by omega)]; omega
    have hx1c : AgX [] H1 Hc := hx13.trans hxc (fun _ h _ => h) (fun b h1 h2 => by simp only [List.mem_singleton] at h1; omega)
    have hb6c := hxc.get hb6 (by simp; omega)
    have hb2c := hxc.get hb23 (by simp; omega)
    have hbcl := (List.getElem?_eq_some_iff.1 hbc).1
    obtain ⟨pb, po, hpv, hpg⟩ := gcP (r1'.mono (agx_sub hx1c)) hil
    simp only [Value.slice.injEq, and_true] at hpv
    subst hpv
    obtain ⟨rb, ro, hrv, hrg2⟩ := gcI0 (r3'.mono (agx_sub hx1c)) hir
    simp only [Value.slice.injEq, and_true] at hrv
    subst hrv
    have hri := hr2 _ (List.getElem_mem hir)
    have hfl := flat_len (fl := fp) (w := 2) (fun _ => rfl) cur
    have hrn : row[i].toNat < cur.length := by omega
    refine lp_step ?_
    refine seq_assoc (seq_reg ?_)
    simp only [go_sem, binC, e1, e7]
    refine seq_cond (t := true) (by simp only [go_sem, binC]; rw [decide_eq_true (by omega)]) ?_
    simp only [go_sem, binC]
    refine seq_skip (seq_block (wpc_regD ?_))
    simp only [go_sem, binC, e1, e2, e6, e7, gc_of hb6c, gc_of hb2c, inBlk_some]
    refine ⟨⟨by omega, by omega⟩, ?_⟩
    simp only [go_sem, binC, Int.toNat_natCast, Nat.mul_one, hrg2]
    refine ⟨⟨by omega, by omega⟩, ?_⟩
    simp only [go_sem, binC, Int.toNat_natCast, hpg]
    refine ⟨⟨by omega, by omega⟩, ?_⟩
    simp only [go_sem, binC, hbc]
    refine ⟨⟨by omega, by omega⟩, ?_⟩
    simp only [go_sem, binC, out_n, thenX_n]
    rw [show ((cur.flatMap fp).set (row[i].toNat * 2) (.int .i64 ls[i].1)).set (row[i].toNat * 2 + 1) (.int .i64 ls[i].2) = (cur.set row[i].toNat ls[i]).flatMap fp from flat_set _ _ ls[i] hrn]
    have hxs : AgX [H1.length] Hc (Hc.set H1.length ⟨(cur.set row[i].toNat ls[i]).flatMap fp, 2, 63, true, true⟩) := AgX.set _ _ _
    have hgs : (Hc.set H1.length ⟨(cur.set row[i].toNat ls[i]).flatMap fp, 2, 63, true, true⟩)[H1.length]? = some ⟨(cur.set row[i].toNat ls[i]).flatMap fp, 2, 63, true, true⟩ := List.getElem?_set_self hbcl
    refine wpc_reg ?_
    simp only [go_sem, binC, e7, hw1]
    simp only [go_sem, binC, thenX_n]
    refine ih (i + 1) _ _ (cur.set row[i].toNat ls[i]) (by omega) (hxc.tr hxs) (by rw [List.length_set]; exact hcl) hgs (fun p hp => ?_) (fun j hj hj' hj2 => ?_) (by simp only [go_sem, binC, e1]) (by simp only [go_sem, binC, e2]) (by simp only [go_sem, binC, e4]) (by simp only [go_sem, binC, e6]) (by simp only [go_sem, binC])
    · rcases List.mem_or_eq_of_mem_set hp with h | rfl
      · exact hrg p h
      · exact p2_rg r1 _ (List.getElem_mem hil)
    · rw [List.getElem?_set]
      by_cases hji : j = i
      · subst hji
        rw [if_pos rfl, if_pos hrn]
      · have hne2 : row[i].toNat ≠ row[j].toNat := fun h => by
          have q1 := hr2 _ (List.getElem_mem hj2)
          exact hji ((List.getElem_inj hr3).1 (show row[j] = row[i] by omega))
        rw [if_neg hne2]
        exact hcur j (by omega) hj' hj2
end Go.Proofs.YtemnemmnfnpnoaaI
end
section
/- What the laws' functions say of steps and programs. -/
set_option linter.unusedVariables false
set_option linter.unusedSimpArgs false
namespace Go.Proofs.YtemnemmnfnpnoaaI
open Go Go.RowKit
def lcsA : List IOper := [
    ⟨(some 17), none, .mov (.t 0)⟩,
    ⟨(some 18), none, .mov (.t 5)⟩,
    ⟨(some 19), none, .iad 8 (.t 17) (.t 18)⟩,
    ⟨(some 20), none, .fad 0 (.t 19)⟩,
    ⟨(some 21), none, .load false 1 (.t 20)⟩,
    ⟨(some 22), none, .mov (.t 1)⟩,
    ⟨(some 23), none, .mov (.t 5)⟩,
    ⟨(some 24), none, .iad 8 (.t 22) (.t 23)⟩,
    ⟨(some 25), none, .fad 0 (.t 24)⟩,
    ⟨(some 26), none, .load false 1 (.t 25)⟩,
    ⟨(some 27), none, .bin .neq (.t 21) (.t 26)⟩,
    ⟨(some 28), none, .mov (.t 27)⟩]
def lcsB : List IOper := [
    ⟨(some 29), (some (28, false)), .mov (.t 0)⟩,
    ⟨(some 30), (some (28, false)), .mov (.t 5)⟩,
    ⟨(some 31), (some (28, false)), .iad 8 (.t 29) (.t 30)⟩,
    ⟨(some 32), (some (28, false)), .fad 1 (.t 31)⟩,
    ⟨(some 33), (some (28, false)), .load false 1 (.t 32)⟩,
    ⟨(some 34), (some (28, false)), .mov (.t 1)⟩,
    ⟨(some 35), (some (28, false)), .mov (.t 5)⟩,
    ⟨(some 36), (some (28, false)), .iad 8 (.t 34) (.t 35)⟩,
    ⟨(some 37), (some (28, false)), .fad 1 (.t 36)⟩,
    ⟨(some 38), (some (28, false)), .load false 1 (.t 37)⟩,
    ⟨(some 39), (some (28, false)), .bin .neq (.t 33) (.t 38)⟩,
    ⟨(some 40), none, .pick (.t 28) (.c (.bool true)) (.t 39)⟩,
    ⟨(some 41), none, .mov (.t 40)⟩]
def lcsC : List IOper := [
    ⟨(some 42), (some (41, false)), .mov (.t 0)⟩,
    ⟨(some 43), (some (41, false)), .mov (.t 5)⟩,
    ⟨(some 44), (some (41, false)), .iad 8 (.t 42) (.t 43)⟩,
    ⟨(some 45), (some (41, false)), .fad 2 (.t 44)⟩,
    ⟨(some 46), (some (41, false)), .load true 3 (.t 45)⟩,
    ⟨(some 47), (some (41, false)), .mov (.t 1)⟩,
    ⟨(some 48), (some (41, false)), .mov (.t 5)⟩,
    ⟨(some 49), (some (41, false)), .iad 8 (.t 47) (.t 48)⟩,
    ⟨(some 50), (some (41, false)), .fad 2 (.t 49)⟩,
    ⟨(some 51), (some (41, false)), .load true 3 (.t 50)⟩,
    ⟨(some 52), (some (41, false)), .eqs true 3 (.t 46) (.t 51)⟩,
    ⟨(some 53), none, .pick (.t 41) (.c (.bool true)) (.t 52)⟩,
    ⟨(some 54), none, .mov (.t 53)⟩]
def lcsD : List IOper := [
    ⟨(some 55), (some (54, false)), .mov (.t 0)⟩,
    ⟨(some 56), (some (54, false)), .mov (.t 5)⟩,
    ⟨(some 57), (some (54, false)), .iad 8 (.t 55) (.t 56)⟩,
    ⟨(some 58), (some (54, false)), .fad 5 (.t 57)⟩,
    ⟨(some 59), (some (54, false)), .load false 1 (.t 58)⟩,
    ⟨(some 60), (some (54, false)), .mov (.t 1)⟩,
    ⟨(some 61), (some (54, false)), .mov (.t 5)⟩,
    ⟨(some 62), (some (54, false)), .iad 8 (.t 60) (.t 61)⟩,
    ⟨(some 63), (some (54, false)), .fad 5 (.t 62)⟩,
    ⟨(some 64), (some (54, false)), .load false 1 (.t 63)⟩,
    ⟨(some 65), (some (54, false)), .bin .neq (.t 59) (.t 64)⟩,
    ⟨(some 66), none, .pick (.t 54) (.c (.bool true)) (.t 65)⟩,
    ⟨(some 67), none, .mov (.t 66)⟩]
def lcsE : List IOper := [
    ⟨(some 68), (some (67, false)), .mov (.t 0)⟩,
    ⟨(some 69), (some (67, false)), .mov (.t 5)⟩,
    ⟨(some 70), (some (67, false)), .iad 8 (.t 68) (.t 69)⟩,
    ⟨(some 71), (some (67, false)), .fad 6 (.t 70)⟩,
    ⟨(some 72), (some (67, false)), .load false 1 (.t 71)⟩,
    ⟨(some 73), (some (67, false)), .mov (.t 1)⟩,
    ⟨(some 74), (some (67, false)), .mov (.t 5)⟩,
    ⟨(some 75), (some (67, false)), .iad 8 (.t 73) (.t 74)⟩,
    ⟨(some 76), (some (67, false)), .fad 6 (.t 75)⟩,
    ⟨(some 77), (some (67, false)), .load false 1 (.t 76)⟩,
    ⟨(some 78), (some (67, false)), .call .q (.f 55) [(.t 72), (.t 77)]⟩,
    ⟨(some 79), (some (67, false)), .un .not (.t 78)⟩,
    ⟨(some 80), none, .pick (.t 67) (.c (.bool true)) (.t 79)⟩,
    ⟨(some 81), none, .mov (.t 80)⟩]
def lcsF : List IOper := [
    ⟨(some 82), (some (81, false)), .mov (.t 0)⟩,
    ⟨(some 83), (some (81, false)), .mov (.t 5)⟩,
    ⟨(some 84), (some (81, false)), .iad 8 (.t 82) (.t 83)⟩,
    ⟨(some 85), (some (81, false)), .fad 7 (.t 84)⟩,
    ⟨(some 86), (some (81, false)), .load false 1 (.t 85)⟩,
    ⟨(some 87), (some (81, false)), .mov (.t 1)⟩,
    ⟨(some 88), (some (81, false)), .mov (.t 5)⟩,
    ⟨(some 89), (some (81, false)), .iad 8 (.t 87) (.t 88)⟩,
    ⟨(some 90), (some (81, false)), .fad 7 (.t 89)⟩,
    ⟨(some 91), (some (81, false)), .load false 1 (.t 90)⟩,
    ⟨(some 92), (some (81, false)), .call .q (.f 55) [(.t 86), (.t 91)]⟩,
    ⟨(some 93), (some (81, false)), .un .not (.t 92)⟩,
    ⟨(some 94), none, .pick (.t 81) (.c (.bool true)) (.t 93)⟩]
def c_lcSteps : IFn := ⟨2, 95, [.t 4],
 .seq (.reg none [
    ⟨(some 4), none, .mov (.c (.bool false))⟩])
 (.seq (.seq (.reg none [
     ⟨(some 6), none, .mov (.t 0)⟩,
     ⟨(some 7), none, .len (.t 6)⟩,
     ⟨(some 8), none, .mov (.t 1)⟩,
     ⟨(some 9), none, .len (.t 8)⟩,
     ⟨(some 10), none, .bin .neq (.t 7) (.t 9)⟩])
  (.cond (.t 10) (.seq (.reg none [
      ⟨(some 4), none, .mov (.c (.bool false))⟩])
   (.ret)) (.skip)))
 (.seq (.seq (.reg none [
     ⟨(some 5), none, .mov (.c (.int .i64 0))⟩])
  (.block 0 (.loop (.seq (.seq (.reg none [
        ⟨(some 11), none, .mov (.t 5)⟩,
        ⟨(some 12), none, .mov (.t 0)⟩,
        ⟨(some 13), none, .len (.t 12)⟩,
        ⟨(some 14), none, .bin .lss (.t 11) (.t 13)⟩])
     (.cond (.t 14) (.skip) (.exit 0)))
    (.seq (.block 1 (.seq (.reg (some 75) (lcsA ++ (lcsB ++ (lcsC ++ (lcsD ++ (lcsE ++ lcsF))))))
      (.cond (.t 94) (.seq (.reg none [
          ⟨(some 4), none, .mov (.c (.bool false))⟩])
       (.ret)) (.skip))))
    (.reg none [
      ⟨(some 15), none, .mov (.t 5)⟩,
      ⟨(some 16), none, .bin .add (.t 15) (.c (.int .i64 1))⟩,
      ⟨(some 5), none, .mov (.t 16)⟩]))))))
 (.seq (.reg none [
    ⟨(some 4), none, .mov (.c (.bool true))⟩])
 (.ret))))⟩
def c_lcProg : IFn := ⟨2, 36, [.t 4],
 .seq (.reg none [
    ⟨(some 2), none, .box (.t 0)⟩,
    ⟨(some 3), none, .box (.t 1)⟩,
    ⟨(some 4), none, .mov (.c (.bool false))⟩])
 (.seq (.seq (.reg none [
     ⟨(some 6), none, .fad 0 (.t 2)⟩,
     ⟨(some 7), none, .load false 1 (.t 6)⟩,
     ⟨(some 8), none, .len (.t 7)⟩,
     ⟨(some 9), none, .fad 0 (.t 3)⟩,
     ⟨(some 10), none, .load false 1 (.t 9)⟩,
     ⟨(some 11), none, .len (.t 10)⟩,
     ⟨(some 12), none, .bin .neq (.t 8) (.t 11)⟩])
  (.cond (.t 12) (.seq (.reg none [
      ⟨(some 4), none, .mov (.c (.bool false))⟩])
   (.ret)) (.skip)))
 (.seq (.seq (.reg none [
     ⟨(some 5), none, .mov (.c (.int .i64 0))⟩])
  (.block 0 (.loop (.seq (.seq (.reg none [
        ⟨(some 13), none, .mov (.t 5)⟩,
        ⟨(some 14), none, .fad 0 (.t 2)⟩,
        ⟨(some 15), none, .load false 1 (.t 14)⟩,
        ⟨(some 16), none, .len (.t 15)⟩,
        ⟨(some 17), none, .bin .lss (.t 13) (.t 16)⟩])
     (.cond (.t 17) (.skip) (.exit 0)))
    (.seq (.block 1 (.seq (.reg (some 10) [
         ⟨(some 20), none, .fad 0 (.t 2)⟩,
         ⟨(some 21), none, .load false 1 (.t 20)⟩,
         ⟨(some 22), none, .mov (.t 5)⟩,
         ⟨(some 23), none, .iad 2 (.t 21) (.t 22)⟩,
         ⟨(some 24), none, .load true 2 (.t 23)⟩,
         ⟨(some 25), none, .fad 0 (.t 3)⟩,
         ⟨(some 26), none, .load false 1 (.t 25)⟩,
         ⟨(some 27), none, .mov (.t 5)⟩,
         ⟨(some 28), none, .iad 2 (.t 26) (.t 27)⟩,
         ⟨(some 29), none, .load true 2 (.t 28)⟩,
         ⟨(some 30), none, .eqs true 2 (.t 24) (.t 29)⟩])
      (.cond (.t 30) (.seq (.reg none [
          ⟨(some 4), none, .mov (.c (.bool false))⟩])
       (.ret)) (.skip))))
    (.reg none [
      ⟨(some 18), none, .mov (.t 5)⟩,
      ⟨(some 19), none, .bin .add (.t 18) (.c (.int .i64 1))⟩,
      ⟨(some 5), none, .mov (.t 19)⟩]))))))
 (.seq (.reg none [
    ⟨(some 31), none, .fad 1 (.t 2)⟩,
    ⟨(some 32), none, .load false 1 (.t 31)⟩,
    ⟨(some 33), none, .fad 1 (.t 3)⟩,
    ⟨(some 34), none, .load false 1 (.t 33)⟩,
    ⟨(some 35), none, .call .q (.f 55) [(.t 32), (.t 34)]⟩,
    ⟨(some 4), none, .mov (.t 35)⟩])
 (.ret))))⟩
/-- Steps that are the same are told the same. -/
def SameSOk (F : Nat → Option IFn) (f n : Nat) : Prop := ∀ (H : Heap) (v w : Value) (l : List (TStep n)), SlR (Co.step n) (vw 0 H) v l → SlR (Co.step n) (vw 0 H) w l → (Co.sl (Co.step n)).sm l → QC F f [v, w] H (.bool true)
theorem eqsV3 (a b c : Int) : eqsV true 3 (.agg #[.int .i64 a, .int .i64 b, .int .i64 c]) (.agg #[.int .i64 a, .int .i64 b, .int .i64 c]) = some (.bool false) := by
  have h : eqCells [.int .i64 a, .int .i64 b, .int .i64 c] [.int .i64 a, .int .i64 b, .int .i64 c] = some true := by simp [eqCells]
  simp only [eqsV, List.length_cons, List.length_nil, h]
  rfl
theorem wpp_app2 {F : Nat → Option IFn} {lo p : Nat} (q : Nat) {K : Env → Heap → Prop} {l1 l2 : List IOper} {e : Env} {H : Heap} (hq : p = l1.length + q) (h : wpp F lo l1.length l1 e H fun e1 H1 => wpp F lo q l2 e1 H1 K) : wpp F lo p (l1 ++ l2) e H K := by
  rw [hq]
  exact wpp_app l1 e H h
theorem lcsA_ok {F : Nat → Option IFn} {lo : Nat} {e : Env} {H : Heap} {K : Env → Heap → Prop} {vb vo wb wo i len : Nat} {x : Int} (e0 : e 0 = .slice (some ⟨vb, vo, none⟩) len len) (e1 : e 1 = .slice (some ⟨wb, wo, none⟩) len len) (e5 : e 5 = .int .i64 i) (hi : i < len)
    (g : getCells H vb (vo + i * 8) 1 = some [.int .i64 x]) (g' : getCells H wb (wo + i * 8) 1 = some [.int .i64 x]) (k : ∀ e2 : Env, e2 0 = e 0 → e2 1 = e 1 → e2 5 = e 5 → e2 28 = .bool false → K e2 H) : wpp F lo lcsA.length lcsA e H K := by
  have hij : (0 ≤ (i : Int) ∧ (i : Int) < (len : Int)) = True := eq_true ⟨by omega, by omega⟩
  show wpp F lo 12 _ e H K
  unfold lcsA
  simp only [go_sem, binC, e0, e1, e5, hij, Int.toNat_natCast, g, g', bne_f (a := x) (b := x) rfl]
  exact k _ (by simp only [go_sem, binC]) (by simp only [go_sem, binC]) (by simp only [go_sem, binC]) (by simp only [go_sem, binC])
theorem lcsB_ok {F : Nat → Option IFn} {lo : Nat} {e : Env} {H : Heap} {K : Env → Heap → Prop} {vb vo wb wo i len : Nat} {x : Int} (e0 : e 0 = .slice (some ⟨vb, vo, none⟩) len len) (e1 : e 1 = .slice (some ⟨wb, wo, none⟩) len len) (e5 : e 5 = .int .i64 i) (eg : e 28 = .bool false) (hi : i < len)
    (g : getCells H vb (vo + i * 8 + 1) 1 = some [.int .i64 x]) (g' : getCells H wb (wo + i * 8 + 1) 1 = some [.int .i64 x]) (k : ∀ e2 : Env, e2 0 = e 0 → e2 1 = e 1 → e2 5 = e 5 → e2 41 = .bool false → K e2 H) : wpp F lo lcsB.length lcsB e H K := by
  have hij : (0 ≤ (i : Int) ∧ (i : Int) < (len : Int)) = True := eq_true ⟨by omega, by omega⟩
  show wpp F lo 13 _ e H K
  unfold lcsB
  simp only [go_sem, binC, e0, e1, e5, hij, Int.toNat_natCast, g, g', bne_f (a := x) (b := x) rfl, eg]
  exact k _ (by simp only [go_sem, binC]) (by simp only [go_sem, binC]) (by simp only [go_sem, binC]) (by simp only [go_sem, binC])
theorem lcsC_ok {F : Nat → Option IFn} {lo : Nat} {e : Env} {H : Heap} {K : Env → Heap → Prop} {vb vo wb wo i len : Nat} {x y z : Int} (e0 : e 0 = .slice (some ⟨vb, vo, none⟩) len len) (e1 : e 1 = .slice (some ⟨wb, wo, none⟩) len len) (e5 : e 5 = .int .i64 i) (eg : e 41 = .bool false) (hi : i < len)
    (g : getCells H vb (vo + i * 8 + 2) 3 = some [.int .i64 x, .int .i64 y, .int .i64 z]) (g' : getCells H wb (wo + i * 8 + 2) 3 = some [.int .i64 x, .int .i64 y, .int .i64 z]) (k : ∀ e2 : Env, e2 0 = e 0 → e2 1 = e 1 → e2 5 = e 5 → e2 54 = .bool false → K e2 H) : wpp F lo lcsC.length lcsC e H K := by
  have hij : (0 ≤ (i : Int) ∧ (i : Int) < (len : Int)) = True := eq_true ⟨by omega, by omega⟩
  show wpp F lo 13 _ e H K
  unfold lcsC
  simp only [go_sem, binC, e0, e1, e5, hij, Int.toNat_natCast, g, g', eqsV3, optP_some, eg]
  exact k _ (by simp only [go_sem, binC]) (by simp only [go_sem, binC]) (by simp only [go_sem, binC]) (by simp only [go_sem, binC])
theorem lcsD_ok {F : Nat → Option IFn} {lo : Nat} {e : Env} {H : Heap} {K : Env → Heap → Prop} {vb vo wb wo i len : Nat} {x : Int} (e0 : e 0 = .slice (some ⟨vb, vo, none⟩) len len) (e1 : e 1 = .slice (some ⟨wb, wo, none⟩) len len) (e5 : e 5 = .int .i64 i) (eg : e 54 = .bool false) (hi : i < len)
    (g : getCells H vb (vo + i * 8 + 5) 1 = some [.int .i64 x]) (g' : getCells H wb (wo + i * 8 + 5) 1 = some [.int .i64 x]) (k : ∀ e2 : Env, e2 0 = e 0 → e2 1 = e 1 → e2 5 = e 5 → e2 67 = .bool false → K e2 H) : wpp F lo lcsD.length lcsD e H K := by
  have hij : (0 ≤ (i : Int) ∧ (i : Int) < (len : Int)) = True := eq_true ⟨by omega, by omega⟩
  show wpp F lo 13 _ e H K
  unfold lcsD
  simp only [go_sem, binC, e0, e1, e5, hij, Int.toNat_natCast, g, g', bne_f (a := x) (b := x) rfl, eg]
  exact k _ (by simp only [go_sem, binC]) (by simp only [go_sem, binC]) (by simp only [go_sem, binC]) (by simp only [go_sem, binC])
theorem lcsE_ok {F : Nat → Option IFn} {lo : Nat} {e : Env} {H : Heap} {K : Env → Heap → Prop} {vb vo wb wo i len : Nat} {x y : Value} (e0 : e 0 = .slice (some ⟨vb, vo, none⟩) len len) (e1 : e 1 = .slice (some ⟨wb, wo, none⟩) len len) (e5 : e 5 = .int .i64 i) (eg : e 67 = .bool false) (hi : i < len)
    (g : getCells H vb (vo + i * 8 + 6) 1 = some [x]) (g' : getCells H wb (wo + i * 8 + 6) 1 = some [y]) (ox : one x = true) (oy : one y = true) (q : ∀ lo : Nat, QC F 55 [x, y] H (.bool true)) (k : ∀ e2 : Env, e2 0 = e 0 → e2 1 = e 1 → e2 5 = e 5 → e2 81 = .bool false → K e2 H) : wpp F lo lcsE.length lcsE e H K := by
  have hij : (0 ≤ (i : Int) ∧ (i : Int) < (len : Int)) = True := eq_true ⟨by omega, by omega⟩
  show wpp F lo 14 _ e H K
  unfold lcsE
  simp only [go_sem, binC, e0, e1, e5, eg, hij, Int.toNat_natCast, g, g', ox, oy]
  refine op_callQ (by simp only [go_sem, binC]; exact q 0) ?_
  simp only [go_sem, binC, eg]
  exact k _ (by simp only [go_sem, binC]) (by simp only [go_sem, binC]) (by simp only [go_sem, binC]) (by simp only [go_sem, binC])
theorem lcsF_ok {F : Nat → Option IFn} {lo : Nat} {e : Env} {H : Heap} {K : Env → Heap → Prop} {vb vo wb wo i len : Nat} {x y : Value} (e0 : e 0 = .slice (some ⟨vb, vo, none⟩) len len) (e1 : e 1 = .slice (some ⟨wb, wo, none⟩) len len) (e5 : e 5 = .int .i64 i) (eg : e 81 = .bool false) (hi : i < len)
    (g : getCells H vb (vo + i * 8 + 7) 1 = some [x]) (g' : getCells H wb (wo + i * 8 + 7) 1 = some [y]) (ox : one x = true) (oy : one y = true) (q : ∀ lo : Nat, QC F 55 [x, y] H (.bool true)) (k : ∀ e2 : Env, e2 0 = e 0 → e2 1 = e 1 → e2 5 = e 5 → e2 94 = .bool false → K e2 H) : wpp F lo 10 lcsF e H K := by
  have hij : (0 ≤ (i : Int) ∧ (i : Int) < (len : Int)) = True := eq_true ⟨by omega, by omega⟩
  unfold lcsF
  simp only [go_sem, binC, e0, e1, e5, eg, hij, Int.toNat_natCast, g, g', ox, oy]
  refine op_callQ (by simp only [go_sem, binC]; exact q 0) ?_
  simp only [go_sem, binC, eg]
  exact k _ (by simp only [go_sem, binC]) (by simp only [go_sem, binC]) (by simp only [go_sem, binC]) (by simp only [go_sem, binC])
theorem lcSteps_ok {F : Nat → Option IFn} {f n : Nat} (hf : F f = some c_lcSteps) (ih : ∀ m, n = m + 1 → SameSOk F 55 m) : SameSOk F f n := by
  intro H v w l hv hw hsm
  have hv0 := hv
  have hw0 := hw
  obtain ⟨h0, av, rfl, hv1⟩ := hv
  obtain ⟨_, aw, rfl, hw1⟩ := hw
  have hsm1 := hsm.1
  refine QC.mk hf rfl ?_
  refine seq_reg ?_
  simp only [go_sem, binC]
  refine seq_assoc (seq_reg ?_)
  simp only [go_sem, binC, bne_f (a := (l.length : Int)) (b := (l.length : Int)) rfl]
  refine seq_cond (t := false) rfl ?_
  simp only [go_sem, binC]
  refine seq_skip (seq_assoc (seq_reg ?_))
  simp only [go_sem, binC]
  refine seq_block (wpc_loop ?_)
  suffices h : ∀ (k i : Nat) (e : Env), i + k = l.length → e 0 = .slice av l.length l.length → e 1 = .slice aw l.length l.length → e 5 = .int .i64 i → W F H.length _ e H _ from
    h l.length 0 _ (by omega) (by simp only [go_sem, binC]) (by simp only [go_sem, binC]) (by (simp only [go_sem, binC]) <;> rfl)
  intro k
  induction k with
  | zero =>
    intro i e hi e0 e1 e5
    refine lp_step ?_
    refine seq_assoc (seq_reg ?_)
    simp only [go_sem, binC, e0, e5]
    refine seq_cond (t := false) (by simp only [go_sem, binC]; rw [decide_eq_false (by omega)]) ?_
    simp only [go_sem, binC]
    refine seq_exit ?_
    simp only [go_sem, binC, thenX_e, out_e, thenX_n]
    refine seq_reg ?_
    simp only [go_sem, binC]
    exact wpc_ret ⟨Or.inr rfl, _, (by (simp only [go_sem, binC]) <;> rfl), rfl, rfl⟩
  | succ k ihk =>
    intro i e hi e0 e1 e5
    have hil : i < l.length := by omega
    cases n with
    | zero => exact (l[i]).elim
    | succ n =>
    obtain ⟨vb, vo, sk, sx, sa, sbb, sc, sg, tv, ev, tl, el, hav, hs, rg, otv, oev, hgc, htl, hel⟩ := step_atV hv0 hil
    obtain ⟨wb, wo, sk', sx', sa', sbb', sc', sg', tv', ev', tl', el', haw, hs', rg', otv', oev', hgc', htl', hel'⟩ := step_atV hw0 hil
    rw [hs] at hs'
    replace hs' : ((sk, sx, (sa, sbb, sc), sg, tl, el) : Int × Int × (Int × Int × Int) × Int × List (TStep n) × List (TStep n)) = (sk', sx', (sa', sbb', sc'), sg', tl', el') := hs'
    simp only [Prod.mk.injEq] at hs'
    obtain ⟨rfl, rfl, ⟨rfl, rfl, rfl⟩, rfl, rfl, rfl⟩ := hs'
    simp only [Value.slice.injEq, and_true] at hav haw
    subst hav haw
    have hsmi := hsm.2 _ (List.getElem_mem hil)
    rw [hs] at hsmi
    obtain ⟨_, _, _, _, mtl, mel⟩ := hsmi
    have hw1 : IntKind.i64.wrap ((i : Int) + 1) = ((i + 1 : Nat) : Int) := by rw [wrap_id (by omega) (by omega)]; omega
    have hg := hgc H (Sub.refl _)
    have hg' := hgc' H (Sub.refl _)
    have gc0 : getCells H vb (vo + i * 8) 1 = some [.int .i64 sk] := gc_part (off := 0) (k := 1) hg (by omega)
    have gc1 : getCells H vb (vo + i * 8 + 1) 1 = some [.int .i64 sx] := gc_part (off := 1) (k := 1) hg (by omega)
    have gc2 : getCells H vb (vo + i * 8 + 2) 3 = some [.int .i64 sa, .int .i64 sbb, .int .i64 sc] := gc_part (off := 2) (k := 3) hg (by omega)
    have gc5 : getCells H vb (vo + i * 8 + 5) 1 = some [.int .i64 sg] := gc_part (off := 5) (k := 1) hg (by omega)
    have gc6 : getCells H vb (vo + i * 8 + 6) 1 = some [tv] := gc_part (off := 6) (k := 1) hg (by omega)
    have gc7 : getCells H vb (vo + i * 8 + 7) 1 = some [ev] := gc_part (off := 7) (k := 1) hg (by omega)
    have gd0 : getCells H wb (wo + i * 8) 1 = some [.int .i64 sk] := gc_part (off := 0) (k := 1) hg' (by omega)
    have gd1 : getCells H wb (wo + i * 8 + 1) 1 = some [.int .i64 sx] := gc_part (off := 1) (k := 1) hg' (by omega)
    have gd2 : getCells H wb (wo + i * 8 + 2) 3 = some [.int .i64 sa, .int .i64 sbb, .int .i64 sc] := gc_part (off := 2) (k := 3) hg' (by omega)
    have gd5 : getCells H wb (wo + i * 8 + 5) 1 = some [.int .i64 sg] := gc_part (off := 5) (k := 1) hg' (by omega)
    have gd6 : getCells H wb (wo + i * 8 + 6) 1 = some [tv'] := gc_part (off := 6) (k := 1) hg' (by omega)
    have gd7 : getCells H wb (wo + i * 8 + 7) 1 = some [ev'] := gc_part (off := 7) (k := 1) hg' (by omega)
    refine lp_step ?_
    refine seq_assoc (seq_reg ?_)
    simp only [go_sem, binC, e0, e5]
    refine seq_cond (t := true) (by simp only [go_sem, binC]; rw [decide_eq_true (by omega)]) ?_
    simp only [go_sem, binC]
    refine seq_skip (seq_block (seq_regD ?_))
    have hij : (0 ≤ (i : Int) ∧ (i : Int) < (l.length : Int)) = True := eq_true ⟨by omega, by omega⟩
    refine wpp_app2 63 rfl (lcsA_ok e0 e1 e5 hil gc0 gd0 fun ea a0 a1 a5 ag => ?_)
    refine wpp_app2 50 rfl (lcsB_ok (a0.trans e0) (a1.trans e1) (a5.trans e5) ag hil gc1 gd1 fun eb b0 b1 b5 bg => ?_)
    refine wpp_app2 37 rfl (lcsC_ok (b0.trans (a0.trans e0)) (b1.trans (a1.trans e1)) (b5.trans (a5.trans e5)) bg hil gc2 gd2 fun ec c0 c1 c5 cg => ?_)
    refine wpp_app2 24 rfl (lcsD_ok (c0.trans (b0.trans (a0.trans e0))) (c1.trans (b1.trans (a1.trans e1))) (c5.trans (b5.trans (a5.trans e5))) cg hil gc5 gd5 fun e2 d0 d1 d5 f67 => ?_)
    have f0 := d0.trans (c0.trans (b0.trans (a0.trans e0)))
    have f1 := d1.trans (c1.trans (b1.trans (a1.trans e1)))
    have f5 := d5.trans (c5.trans (b5.trans (a5.trans e5)))
    clear d0 d1 d5 c0 c1 c5 b0 b1 b5 a0 a1 a5 ag bg cg
    refine wpp_app2 10 rfl (lcsE_ok f0 f1 f5 f67 hil gc6 gd6 otv otv' (fun lo => ih n rfl H tv tv' tl htl htl' mtl) fun e3 k0 k1 k5 f81 => ?_)
    refine lcsF_ok (k0.trans f0) (k1.trans f1) (k5.trans f5) f81 hil gc7 gd7 oev oev' (fun lo => ih n rfl H ev ev' el hel hel' mel) fun e4 j0 j1 j5 f94 => ?_
    replace j0 := j0.trans (k0.trans f0)
    replace j1 := j1.trans (k1.trans f1)
    replace j5 := j5.trans (k5.trans f5)
    clear k0 k1 k5 f81 f67
    refine wpc_cond (t := false) (by simp only [go_sem, binC, f94]) ?_
    simp only [go_sem, binC, out_n, thenX_n]
    refine wpc_skip ?_
    simp only [go_sem, binC, out_n, thenX_n]
    refine wpc_reg ?_
    simp only [go_sem, binC, j5, hw1]
    simp only [go_sem, binC, thenX_n]
    exact ihk (i + 1) _ (by omega) (by simp only [go_sem, binC, j0]) (by simp only [go_sem, binC, j1]) (by simp only [go_sem, binC])
theorem lcSteps_all {F : Nat → Option IFn} (hf : F 55 = some c_lcSteps) : ∀ n, SameSOk F 55 n
  | 0 => lcSteps_ok hf fun m h => by cases h
  | n + 1 => lcSteps_ok hf fun m h => by cases h; exact lcSteps_all hf n
/-- Programs that are the same are told the same. -/
def SamePOk (F : Nat → Option IFn) (f : Nat) : Prop := ∀ (H : Heap) (n : Nat) (lv sv lw sw : Value) (ls : List (Int × Int)) (l : List (TStep n)), SlR Co.p2 (vw 0 H) lv ls → SlR (Co.step n) (vw 0 H) sv l → SlR Co.p2 (vw 0 H) lw ls → SlR (Co.step n) (vw 0 H) sw l → (Co.prog n).sm (ls, l) → QC F f [.agg #[lv, sv], .agg #[lw, sw]] H (.bool true)
theorem lcProg_ok {F : Nat → Option IFn} {f : Nat} (hf : F f = some c_lcProg) (gs : ∀ n, SameSOk F 55 n) : SamePOk F f := by
  intro H n lv sv lw sw ls l r1 r2 r3 r4 hsm
  have osv : one sv = true := by obtain ⟨_, a, rfl, _⟩ := r2; rfl
  have osw : one sw = true := by obtain ⟨_, a, rfl, _⟩ := r4; rfl
  obtain ⟨_, la, rfl, _⟩ := id r1
  obtain ⟨_, lb, rfl, _⟩ := id r3
  have hls0 : ls.length ≤ 1048576 := hsm.1.1
  refine QC.mk hf rfl ?_
  refine seq_reg ?_
  simp only [go_sem, binC, osv, osw]
  refine wpc_gen fun H1 hH1 => ?_
  have hx1 : AgX [] H H1 := hH1 ▸ AgX.app [] _ _
  have hb2 : H1[H.length]? = some ⟨[.slice la ls.length ls.length, sv], 0, 0, false, true⟩ := hH1 ▸ get_new0 _ _
  have hb3 : H1[H.length + 1]? = some ⟨[.slice lb ls.length ls.length, sw], 0, 0, false, true⟩ := hH1 ▸ get_new _ _ 1
  clear hH1
  have r1' := r1.mono (agx_sub hx1)
  have r2' := r2.mono (agx_sub hx1)
  have r3' := r3.mono (agx_sub hx1)
  have r4' := r4.mono (agx_sub hx1)
  have hl1 := hx1.1
  refine seq_assoc (seq_reg ?_)
  simp only [go_sem, binC, gc_of hb2, gc_of hb3, inBlk_some, bne_f (a := (ls.length : Int)) (b := (ls.length : Int)) rfl]
  refine seq_cond (t := false) rfl ?_
  simp only [go_sem, binC]
  refine seq_skip (seq_assoc (seq_reg ?_))
  simp only [go_sem, binC]
  refine seq_block (wpc_loop ?_)
  suffices h : ∀ (k i : Nat) (e : Env), i + k = ls.length → e 2 = ptr H.length 0 → e 3 = ptr (H.length + 1) 0 → e 5 = .int .i64 i → W F H.length _ e H1 _ from
    h ls.length 0 _ (by omega) (by simp only [go_sem, binC]) (by simp only [go_sem, binC]) (by (simp only [go_sem, binC]) <;> rfl)
  intro k
  induction k with
  | zero =>
    intro i e hi e2 e3 e5
    refine lp_step ?_
    refine seq_assoc (seq_reg ?_)
    simp only [go_sem, binC, e2, e5, gc_of hb2, inBlk_some]
    refine seq_cond (t := false) (by simp only [go_sem, binC]; rw [decide_eq_false (by omega)]) ?_
    simp only [go_sem, binC]
    refine seq_exit ?_
    simp only [go_sem, binC, thenX_e, out_e, thenX_n]
    refine seq_reg ?_
    simp only [go_sem, binC, e2, e3, gc_of hb2, gc_of hb3, inBlk_some, osv, osw]
    refine op_callQ (by simp only [go_sem, binC]; exact gs n H1 sv sw l r2' r4' hsm.2) ?_
    simp only [go_sem, binC]
    exact wpc_ret ⟨Or.inr rfl, _, (by (simp only [go_sem, binC]) <;> rfl), rfl, rfl⟩
  | succ k ih =>
    intro i e hi e2 e3 e5
    have hil : i < ls.length := by omega
    obtain ⟨b, o, hv1, hg⟩ := gcP r1' hil
    obtain ⟨b', o', hv2, hg'⟩ := gcP r3' hil
    simp only [Value.slice.injEq, and_true] at hv1 hv2
    subst hv1 hv2
    have hw1 : IntKind.i64.wrap ((i : Int) + 1) = ((i + 1 : Nat) : Int) := by rw [wrap_id (by omega) (by omega)]; omega
    refine lp_step ?_
    refine seq_assoc (seq_reg ?_)
    simp only [go_sem, binC, e2, e5, gc_of hb2, inBlk_some]
    refine seq_cond (t := true) (by simp only [go_sem, binC]; rw [decide_eq_true (by omega)]) ?_
    simp only [go_sem, binC]
    refine seq_skip (seq_block (seq_regD ?_))
    simp only [go_sem, binC, e2, e3, e5, gc_of hb2, gc_of hb3, inBlk_some]
    refine ⟨⟨by omega, by omega⟩, ?_⟩
    simp only [go_sem, binC, Int.toNat_natCast, hg]
    refine ⟨⟨by omega, by omega⟩, ?_⟩
    simp only [go_sem, binC, Int.toNat_natCast, hg', eqsV2, decide_true]
    refine wpc_cond (t := false) rfl ?_
    simp only [go_sem, binC]
    refine wpc_skip ?_
    simp only [go_sem, binC, out_n, thenX_n]
    refine wpc_reg ?_
    simp only [go_sem, binC, e5, hw1]
    simp only [go_sem, binC, thenX_n]
    exact ih (i + 1) _ (by omega) (by simp only [go_sem, binC, e2]) (by simp only [go_sem, binC, e3]) (by simp only [go_sem, binC])
/-- A row of names turned back. -/
def backR (row : List Int) : List Int := (List.range row.length).map fun (i : Nat) => (row.idxOf (i : Int) : Int)
theorem rep_ints (n : Nat) : (List.replicate n [Value.int .i64 0]).flatten = ints (List.replicate n (0 : Int)) := by
  induction n with
  | zero => rfl
  | succ n ih => rw [List.replicate_succ, List.replicate_succ, List.flatten_cons, ih]; rfl
theorem ints_len (l : List Int) : (ints l).length = l.length := by simp [ints]
end Go.Proofs.YtemnemmnfnpnoaaI
end
section
/- Rows are drawn, with a program. -/
set_option linter.unusedVariables false
set_option linter.unusedSimpArgs false
namespace Go.Proofs.YtemnemmnfnpnoaaI
open Go Go.RowKit
def drRowTail : ICode := (.seq (.seq (.reg none [
     ⟨(some 45), none, .mov (.t 0)⟩,
     ⟨(some 46), none, .call .n (.f 82) [(.t 45), (.c (.int .i64 16))]⟩,
     ⟨(some 47), none, .bin .eql (.t 46) (.c (.int .i64 0))⟩])
  (.cond (.t 47) (.reg none [
     ⟨(some 48), none, .mov (.t 5)⟩,
     ⟨(some 49), none, .mov (.t 0)⟩,
     ⟨(some 50), none, .call .n (.f 82) [(.t 49), (.c (.int .i64 3))]⟩,
     ⟨(some 51), none, .lit 1 3 1 [(.int .i64 0)] [(0, 1, (.t 50))]⟩,
     ⟨(some 52), none, .app 1 3 8 false (.t 48) (.t 51)⟩,
     ⟨(some 5), none, .mov (.t 52)⟩]) (.skip)))
 (.seq (.reg none [
    ⟨(some 53), none, .mov (.t 5)⟩,
    ⟨(some 4), none, .mov (.t 53)⟩])
 (.ret)))
def c_drRow : IFn := ⟨2, 54, [.t 4],
 .seq (.reg none [
    ⟨(some 4), none, .mov (.c (.slice none 0 0))⟩])
 (.seq (.reg none [
    ⟨(some 10), none, .lit 1 3 0 [] []⟩,
    ⟨(some 5), none, .mov (.t 10)⟩])
 (.seq (.seq (.reg none [
     ⟨(some 6), none, .mov (.c (.int .i64 0))⟩])
  (.block 0 (.loop (.seq (.seq (.reg none [
        ⟨(some 11), none, .mov (.t 6)⟩,
        ⟨(some 12), none, .bin .lss (.t 11) (.c (.int .i64 60))⟩,
        ⟨(some 13), none, .mov (.t 12)⟩,
        ⟨(some 14), (some (13, true)), .mov (.t 5)⟩,
        ⟨(some 15), (some (13, true)), .len (.t 14)⟩,
        ⟨(some 16), (some (13, true)), .mov (.t 1)⟩,
        ⟨(some 17), (some (13, true)), .bin .lss (.t 15) (.t 16)⟩,
        ⟨(some 18), none, .pick (.t 13) (.t 17) (.c (.bool false))⟩])
     (.cond (.t 18) (.skip) (.exit 0)))
    (.seq (.block 1 (.seq (.reg none [
         ⟨(some 21), none, .mov (.t 0)⟩,
         ⟨(some 22), none, .mov (.t 1)⟩,
         ⟨(some 23), none, .call .n (.f 82) [(.t 21), (.t 22)]⟩,
         ⟨(some 7), none, .mov (.t 23)⟩])
      (.seq (.reg none [
         ⟨(some 8), none, .mov (.c (.bool false))⟩])
      (.seq (.seq (.reg none [
          ⟨(some 9), none, .mov (.c (.int .i64 0))⟩])
       (.block 2 (.loop (.seq (.seq (.reg none [
             ⟨(some 24), none, .mov (.t 9)⟩,
             ⟨(some 25), none, .mov (.t 5)⟩,
             ⟨(some 26), none, .len (.t 25)⟩,
             ⟨(some 27), none, .bin .lss (.t 24) (.t 26)⟩])
          (.cond (.t 27) (.skip) (.exit 2)))
         (.seq (.block 3 (.reg none [
             ⟨(some 30), none, .mov (.t 8)⟩,
             ⟨(some 31), none, .mov (.t 30)⟩,
             ⟨(some 32), (some (31, false)), .mov (.t 5)⟩,
             ⟨(some 33), (some (31, false)), .mov (.t 9)⟩,
             ⟨(some 34), (some (31, false)), .iad 1 (.t 32) (.t 33)⟩,
             ⟨(some 35), (some (31, false)), .load false 1 (.t 34)⟩,
             ⟨(some 36), (some (31, false)), .mov (.t 7)⟩,
             ⟨(some 37), (some (31, false)), .bin .eql (.t 35) (.t 36)⟩,
             ⟨(some 38), none, .pick (.t 31) (.c (.bool true)) (.t 37)⟩,
             ⟨(some 8), none, .mov (.t 38)⟩]))
         (.reg none [
           ⟨(some 28), none, .mov (.t 9)⟩,
           ⟨(some 29), none, .bin .add (.t 28) (.c (.int .i64 1))⟩,
           ⟨(some 9), none, .mov (.t 29)⟩]))))))
      (.seq (.reg none [
         ⟨(some 39), none, .mov (.t 8)⟩,
         ⟨(some 40), none, .un .not (.t 39)⟩])
      (.cond (.t 40) (.reg none [
         ⟨(some 41), none, .mov (.t 5)⟩,
         ⟨(some 42), none, .mov (.t 7)⟩,
         ⟨(some 43), none, .lit 1 3 1 [(.int .i64 0)] [(0, 1, (.t 42))]⟩,
         ⟨(some 44), none, .app 1 3 8 false (.t 41) (.t 43)⟩,
         ⟨(some 5), none, .mov (.t 44)⟩]) (.skip)))))))
    (.reg none [
      ⟨(some 19), none, .mov (.t 6)⟩,
      ⟨(some 20), none, .bin .add (.t 19) (.c (.int .i64 1))⟩,
      ⟨(some 6), none, .mov (.t 20)⟩]))))))
 drRowTail))⟩
def RowQ (H H' : Heap) (v : Value) : Prop := ∃ row : List Int, SlR Co.int (vwl H.length [] H') v row ∧ row.length ≤ 100
theorem drRowTail_ok {F : Nat → Option IFn} {lo : Nat} (hpk : F 82 = some c_pick) {H0 : Heap} {rb : Nat} {bv : Value} {code : List Int} (hc : RdC H0 rb bv code) {H Hc : Heap} {p q : Int} {e : Env} {b : Nat} {so : Bool} {l : List Int} (hs : St H0 rb bv q Hc) (hl : rb < H.length) (hx : AgX [rb] H Hc) (hO : OwnL Co.int 1 3 H.length [] Hc b so l) (hll : l.length ≤ 60) (hp : 0 ≤ p) (hpq : p ≤ q) (hq : q ≤ p + 60) (hp2 : p + 100 ≤ 1000000) (hlo : lo ≤ rb)
    (e0 : e 0 = ptr rb 0) (e5 : e 5 = sli b 0 l.length) : wpc F lo drRowTail e Hc (fin [.t 4] fun v H' => ∃ p', AgX [rb] H H' ∧ St H0 rb bv p' H' ∧ (p ≤ p' ∧ p' ≤ p + 100) ∧ RowQ H H' v) := by
  unfold drRowTail
  have hbl := hO.1
  refine seq_assoc (seq_reg ?_)
  simp only [go_sem, binC, e0]
  refine op_draw (n := 16) hpk hc hs (by omega) (by omega) hlo (by simp only [go_sem, binC, e0]) (by simp only [go_sem, binC]) fun H2 hl2 hx2 hs2 => ?_
  have ht2 := hx.tr hx2
  have hO2 : OwnL Co.int 1 3 H.length [] H2 b so l := hO.sub hx2 (by simp; omega) fun b' _ h1 h2 _ => ⟨by simp; omega, by simp⟩
  simp only [go_sem, binC]
  by_cases h0 : pickV code q 16 = 0
  · simp only [go_sem, binC, beq_t h0]
    refine seq_cond (t := true) rfl ?_
    simp only [go_sem, binC]
    refine seq_reg ?_
    simp only [go_sem, binC, e0, e5]
    refine op_draw (n := 3) hpk hc hs2 (by omega) (by omega) hlo (by simp only [go_sem, binC, e0]) (by simp only [go_sem, binC]) fun H3 hl3 hx3 hs3 => ?_
    have ht3 := ht2.tr hx3
    have hO3 : OwnL Co.int 1 3 H.length [] H3 b so l := hO2.sub hx3 (by simp; omega) fun b' _ h1 h2 _ => ⟨by simp; omega, by simp⟩
    have hbd := pickV_bd code (q + 1) (n := 3) (by omega)
    simp only [go_sem, binC, e5]
    refine op_app_own (A := Co.int) (lo := H.length) (a := pickV code (q + 1) 3) hO3 (by simp only [go_sem, binC, e5]) (by (simp only [go_sem, binC]) <;> rfl) (by omega) rfl ⟨rfl, by omega, by omega⟩ (by omega) (by omega) (by simp) fun H4 hx4 hO4 => ?_
    simp only [go_sem, binC]
    refine seq_reg ?_
    simp only [go_sem, binC]
    have hlen : (l ++ [pickV code (q + 1) 3]).length = l.length + 1 := by simp
    have hr := hO4.slR rfl (by simp)
    rw [hlen] at hr
    have ht4 : AgX [rb] H H4 := ht3.trans hx4 (fun _ h _ => h) (fun b' h1 h2 => by simp only [List.mem_singleton] at h1; omega)
    exact wpc_ret ⟨Or.inr rfl, _, (by (simp only [go_sem, binC]) <;> rfl), q + 1 + 1, ht4, hs3.mono hc hx4 (fun b' h1 => by simp only [List.mem_singleton] at h1; omega), by omega, _, hr, by omega⟩
  · simp only [go_sem, binC, beq_f h0]
    refine seq_cond (t := false) rfl ?_
    simp only [go_sem, binC]
    refine seq_skip (seq_reg ?_)
    simp only [go_sem, binC, e5]
    exact wpc_ret ⟨Or.inr rfl, _, (by (simp only [go_sem, binC]) <;> rfl), q + 1, ht2, hs2, by omega, _, hO2.slR rfl (by simp), by omega⟩
theorem drRow_ok {F : Nat → Option IFn} {f : Nat} (hf : F f = some c_drRow) (hpk : F 82 = some c_pick) {H0 : Heap} {rb : Nat} {bv : Value} {code : List Int} (hc : RdC H0 rb bv code) {n : Int} (hn : n ≤ 9223372036854775807) : DrawS F H0 rb bv f [.int .i64 n] 100 (fun H H' v => RowQ H H' v) := by
  refine DrawS.mk hf rfl fun H p lo hs hp hp2 hlo => ?_
  have hl := hs.lt
  refine seq_reg ?_
  simp only [go_sem, binC]
  refine seq_reg ?_
  simp only [go_sem, binC]
  refine wpc_gen fun H1 hH1 => ?_
  have hs1 : St H0 rb bv p H1 := hH1 ▸ hs.appN hc _
  have ht1 : AgX [rb] H H1 := hH1 ▸ AgX.app [rb] _ _
  have hO1 : OwnL Co.int 1 3 H.length [] H1 H.length true [] := hH1 ▸ OwnG.nil (Nat.le_refl _)
  clear hH1
  refine seq_assoc (seq_reg ?_)
  simp only [go_sem, binC]
  refine seq_block (wpc_loop ?_)
  suffices h : ∀ (k i : Nat) (e : Env) (Hc : Heap) (b : Nat) (so : Bool) (l : List Int), i + k = 60 → l.length ≤ i → St H0 rb bv (p + i) Hc → AgX [rb] H Hc → OwnL Co.int 1 3 H.length [] Hc b so l → e 0 = ptr rb 0 → e 1 = .int .i64 n → e 5 = sli b 0 l.length → e 6 = .int .i64 i → W F lo _ e Hc _ from
    h 60 0 _ H1 H.length true [] rfl (Nat.le_refl _) (by simpa using hs1) ht1 hO1 (by simp only [go_sem, binC]) (by simp only [go_sem, binC]) (by (simp only [go_sem, binC]) <;> rfl) (by (simp only [go_sem, binC]) <;> rfl)
  intro k
  induction k with
  | zero =>
    intro i e Hc b so l hik hli hsc hxc hO e0 e1 e5 e6
    refine lp_step ?_
    refine seq_assoc (seq_reg ?_)
    simp only [go_sem, binC, e0, e1, e5, e6]
    have hd : decide ((i : Int) < 60) = false := decide_eq_false (by omega)
    simp only [go_sem, binC, hd]
    refine seq_cond (t := false) (by simp only [go_sem, binC]) ?_
    simp only [go_sem, binC]
    refine seq_exit ?_
    simp only [go_sem, binC, thenX_e, out_e, thenX_n]
    exact drRowTail_ok hpk hc hsc hl hxc hO (by omega) hp (by omega) (by omega) hp2 hlo (by simp only [go_sem, binC, e0]) (by simp only [go_sem, binC, e5])
  | succ k ih =>
    intro i e Hc b so l hik hli hsc hxc hO e0 e1 e5 e6
    have hw1 : IntKind.i64.wrap ((i : Int) + 1) = ((i + 1 : Nat) : Int) := by rw [wrap_id (by omega) (by omega)]; omega
    refine lp_step ?_
    refine seq_assoc (seq_reg ?_)
    have hd : decide ((i : Int) < 60) = true := decide_eq_true (by omega)
    simp only [go_sem, binC, e0, e1, e5, e6, hd]
    by_cases hlt : (l.length : Int) < n
    rotate_left
    · simp only [go_sem, binC, decide_eq_false hlt]
      refine seq_cond (t := false) (by simp only [go_sem, binC]) ?_
      simp only [go_sem, binC]
      refine seq_exit ?_
      simp only [go_sem, binC, thenX_e, out_e, thenX_n]
      exact drRowTail_ok hpk hc hsc hl hxc hO (by omega) hp (by omega) (by omega) hp2 hlo (by simp only [go_sem, binC, e0]) (by simp only [go_sem, binC, e5])
    simp only [go_sem, binC, decide_eq_true hlt]
    refine seq_cond (t := true) (by simp only [go_sem, binC]) ?_
    simp only [go_sem, binC]
    refine seq_skip (seq_block (seq_reg ?_))
    simp only [go_sem, binC, e0, e1]
    refine op_draw (n := n) hpk hc hsc (by omega) (by omega) hlo (by simp only [go_sem, binC, e0]) (by simp only [go_sem, binC, e1]) fun H2 hl2 hx2 hs2 => ?_
    have hbl := hO.1
    have ht2 := hxc.tr hx2
    have hO2 : OwnL Co.int 1 3 H.length [] H2 b so l := hO.sub hx2 (by simp; omega) fun b' _ h1 h2 _ => ⟨by simp; omega, by simp⟩
    have hbd := pickV_i64 code (p + i) hn
    generalize pickV code (p + i) n = kv at hbd
    simp only [go_sem, binC]
    refine seq_reg ?_
    simp only [go_sem, binC]
    refine seq_assoc (seq_reg ?_)
    simp only [go_sem, binC]
    refine seq_block (wpc_loop ?_)
    suffices hin : ∀ (k2 m : Nat) (e2 : Env) (t : Bool), m + k2 = l.length → e2 0 = ptr rb 0 → e2 1 = .int .i64 n → e2 5 = sli b 0 l.length → e2 6 = .int .i64 i → e2 7 = .int .i64 kv → e2 8 = .bool t → e2 9 = .int .i64 m → W F lo _ e2 H2 _ from
      hin l.length 0 _ false (by omega) (by simp only [go_sem, binC, e0]) (by simp only [go_sem, binC, e1]) (by simp only [go_sem, binC, e5]) (by simp only [go_sem, binC, e6]) (by simp only [go_sem, binC]) (by simp only [go_sem, binC]) (by (simp only [go_sem, binC]) <;> rfl)
    intro k2
    induction k2 with
    | zero =>
      intro m e2 t hm f0 f1 f5 f6 f7 f8 f9
      refine lp_step ?_
      refine seq_assoc (seq_reg ?_)
      simp only [go_sem, binC, f5, f9]
      refine seq_cond (t := false) (by simp only [go_sem, binC]; rw [decide_eq_false (by omega)]) ?_
      simp only [go_sem, binC]
      refine seq_exit ?_
      simp only [go_sem, binC, thenX_e, out_e, thenX_n]
      refine seq_reg ?_
      simp only [go_sem, binC, f8]
      cases t with
      | true =>
        simp only [go_sem, binC]
        refine wpc_cond (t := false) (by simp only [go_sem, binC]) ?_
        simp only [go_sem, binC]
        refine wpc_skip ?_
        simp only [go_sem, binC, out_n, thenX_n]
        refine wpc_reg ?_
        simp only [go_sem, binC, f6, hw1]
        simp only [go_sem, binC, thenX_n]
        exact ih (i + 1) _ H2 b so l (by omega) (by omega) (by rw [show p + ((i + 1 : Nat) : Int) = p + i + 1 by omega]; exact hs2) ht2 hO2 (by simp only [go_sem, binC, f0]) (by simp only [go_sem, binC, f1]) (by simp only [go_sem, binC, f5]) (by simp only [go_sem, binC])
      | false =>
        simp only [go_sem, binC]
        refine wpc_cond (t := true) (by simp only [go_sem, binC]) ?_
        simp only [go_sem, binC]
        refine wpc_reg ?_
        simp only [go_sem, binC, f5, f7]
        refine op_app_own (A := Co.int) (lo := H.length) (a := kv) hO2 (by simp only [go_sem, binC, f5]) (by (simp only [go_sem, binC]) <;> rfl) (by omega) rfl ⟨rfl, by omega, by omega⟩ (by omega) (by omega) (by simp) fun H4 hx4 hO4 => ?_
        simp only [go_sem, binC, out_n, thenX_n]
        refine wpc_reg ?_
        simp only [go_sem, binC, f6, hw1]
        simp only [go_sem, binC, thenX_n]
        have hlen : (l ++ [kv]).length = l.length + 1 := by simp
        have ht4 : AgX [rb] H H4 := ht2.trans hx4 (fun _ h _ => h) (fun b' h1 h2 => by simp only [List.mem_singleton] at h1; omega)
        refine ih (i + 1) _ H4 (H2.length + 1) _ (l ++ [kv]) (by omega) (by omega) ?_ ht4 hO4 (by simp only [go_sem, binC, f0]) (by simp only [go_sem, binC, f1]) (by (simp only [go_sem, binC, hlen]) <;> rfl) (by simp only [go_sem, binC])
        rw [show p + ((i + 1 : Nat) : Int) = p + i + 1 by omega]
        exact hs2.mono hc hx4 (fun b' h1 => by simp only [List.mem_singleton] at h1; omega)
    | succ k2 ih2 =>
      intro m e2 t hm f0 f1 f5 f6 f7 f8 f9
      have hml : m < l.length := by omega
      obtain ⟨b9, o9, hv9, hg9⟩ := gcI ((hO2.slR rfl (by simp)).mono (vwl0 _ _ _)) hml
      simp only [sli, Value.slice.injEq, Option.some.injEq, Addr.mk.injEq, and_true] at hv9
      obtain ⟨rfl, rfl⟩ := hv9
      have hw2 : IntKind.i64.wrap ((m : Int) + 1) = ((m + 1 : Nat) : Int) := by rw [wrap_id (by omega) (by omega)]; omega
      refine lp_step ?_
      refine seq_assoc (seq_reg ?_)
      simp only [go_sem, binC, f5, f9]
      refine seq_cond (t := true) (by simp only [go_sem, binC]; rw [decide_eq_true (by omega)]) ?_
      simp only [go_sem, binC]
      refine seq_skip (seq_block (wpc_reg ?_))
      cases t with
      | true =>
        simp only [go_sem, binC, f8]
        simp only [go_sem, binC, out_n, thenX_n]
        refine wpc_reg ?_
        simp only [go_sem, binC, f9, hw2]
        simp only [go_sem, binC, thenX_n]
        exact ih2 (m + 1) _ true (by omega) (by simp only [go_sem, binC, f0]) (by simp only [go_sem, binC, f1]) (by simp only [go_sem, binC, f5]) (by simp only [go_sem, binC, f6]) (by simp only [go_sem, binC, f7]) (by simp only [go_sem, binC]) (by simp only [go_sem, binC])
      | false =>
        simp only [go_sem, binC, f5, f7, f8, f9, sli]
        refine ⟨⟨by omega, by omega⟩, ?_⟩
        rw [Nat.zero_add] at hg9
        simp only [go_sem, binC, f7, Int.toNat_natCast, Nat.mul_one, hg9]
        simp only [go_sem, binC, out_n, thenX_n]
        refine wpc_reg ?_
        simp only [go_sem, binC, f9, hw2]
        simp only [go_sem, binC, thenX_n]
        exact ih2 (m + 1) _ _ (by omega) (by simp only [go_sem, binC, f0]) (by simp only [go_sem, binC, f1]) (by simp only [go_sem, binC, f5, sli]) (by simp only [go_sem, binC, f6]) (by simp only [go_sem, binC, f7]) (by simp only [go_sem, binC]; rfl) (by simp only [go_sem, binC])
end Go.Proofs.YtemnemmnfnpnoaaI
end
section
/- A program and a row, drawn. -/
set_option linter.unusedVariables false
set_option linter.unusedSimpArgs false
namespace Go.Proofs.YtemnemmnfnpnoaaI
open Go Go.RowKit
def c_drTV : IFn := ⟨1, 16, [.cell true 2 2, .t 3],
 .seq (.reg none [
    ⟨(some 2), none, .new [(.slice none 0 0), (.slice none 0 0)]⟩,
    ⟨(some 3), none, .mov (.c (.slice none 0 0))⟩])
 (.seq (.reg none [
    ⟨(some 6), none, .mov (.t 0)⟩,
    ⟨(some 7), none, .call .n (.f 52) [(.t 6)]⟩,
    ⟨(some 4), none, .mov (.t 7)⟩])
 (.seq (.reg none [
    ⟨(some 8), none, .mov (.t 4)⟩,
    ⟨(some 9), none, .call .n (.f 53) [(.t 8)]⟩,
    ⟨(some 5), none, .new [(.slice none 0 0), (.slice none 0 0)]⟩,
    ⟨none, none, .store 2 (.t 5) (.t 9)⟩])
 (.seq (.reg (some 6) [
    ⟨(some 10), none, .load true 2 (.t 5)⟩,
    ⟨(some 11), none, .mov (.t 4)⟩,
    ⟨(some 12), none, .fad 0 (.t 5)⟩,
    ⟨(some 13), none, .load false 1 (.t 12)⟩,
    ⟨(some 14), none, .len (.t 13)⟩,
    ⟨(some 15), none, .call .n (.f 54) [(.t 11), (.t 14)]⟩,
    ⟨none, none, .store 2 (.t 2) (.t 10)⟩,
    ⟨(some 3), none, .mov (.t 15)⟩])
 (.ret))))⟩
def DrawNumsOk (F : Nat → Option IFn) (f : Nat) : Prop := ∀ (H : Heap) (v : Value) (code : List Int), SlR Co.byte (vw 0 H) v code → ∃ (d : Nat) (lv sv nv : Value) (ls : List (Int × Int)) (l : List (TStep d)) (nums : List Int) (H' : Heap), KC F f [v] H (.tuple #[.agg #[lv, sv], nv]) H' ∧
  (AgX [] H H' ∧ SlR Co.p2 (vw 0 H') lv ls ∧ SlR (Co.step d) (vw 0 H') sv l ∧ (Co.prog d).sm (ls, l) ∧ SlR Co.int (vw 0 H') nv nums)
def DrawNumsV (F : Nat → Option IFn) (f : Nat) : Prop := ∀ (H : Heap) (v : Value) (code : List Int), SlR Co.byte (vw 0 H) v code → ∃ (d : Nat) (lv sv nv : Value) (ls : List (Int × Int)) (l : List (TStep d)) (nums : List Int) (H' : Heap), KC F f [v] H (.tuple #[.agg #[lv, sv], nv]) H' ∧
  (AgX [] H H' ∧ SlR Co.p2 (vwl H.length [] H') lv ls ∧ SlR (Co.step d) (vwl H.length [] H') sv l ∧ (Co.prog d).sm (ls, l) ∧ SlR Co.int (vwl H.length [] H') nv nums)
theorem DrawNumsV.ok {F : Nat → Option IFn} {f : Nat} (h : DrawNumsV F f) : DrawNumsOk F f := by
  intro H v code hv
  obtain ⟨d, lv, sv, nv, ls, l, nums, H', h1, h2, r1, r2, r3, r4⟩ := h H v code hv
  exact ⟨d, lv, sv, nv, ls, l, nums, H', h1, h2, r1.mono (vwl0 _ _ _), r2.mono (vwl0 _ _ _), r3, r4.mono (vwl0 _ _ _)⟩
theorem drTV_ok {F : Nat → Option IFn} {f : Nat} (hf : F f = some c_drTV) (hop : F 52 = some c_l6Open) (hpk : F 82 = some c_pick) (hrw : F 54 = some c_drRow) (gan : ∀ {H0 : Heap} {rb : Nat} {bv : Value} {code : List Int}, RdC H0 rb bv code → DrawS F H0 rb bv 53 [] 90000 ProgR) : DrawNumsOk F f := by
  refine DrawNumsV.ok fun H v code hv => ?_
  suffices h : ∃ w H', KC F f [v] H w H' ∧ (∃ (d : Nat) (lv sv nv : Value) (ls : List (Int × Int)) (l : List (TStep d)) (nums : List Int), w = .tuple #[.agg #[lv, sv], nv] ∧ (AgX [] H H' ∧ SlR Co.p2 (vwl H.length [] H') lv ls ∧ SlR (Co.step d) (vwl H.length [] H') sv l ∧ (Co.prog d).sm (ls, l) ∧ SlR Co.int (vwl H.length [] H') nv nums)) by
    obtain ⟨w, H', h1, d, lv, sv, nv, ls, l, nums, rfl, h2⟩ := h
    exact ⟨d, lv, sv, nv, ls, l, nums, H', h1, h2⟩
  refine KC.mk hf rfl ?_
  refine seq_reg ?_
  simp only [go_sem, binC]
  refine wpc_gen fun H1 hH1 => ?_
  have ht1 : AgX [] H H1 := hH1 ▸ AgX.app [] _ _
  have hb1 : H1[H.length]? = some ⟨[nilS, nilS], 0, 0, false, true⟩ := hH1 ▸ get_new0 _ _
  have hn1 : H1.length = H.length + 1 := by rw [hH1, List.length_append]; rfl
  clear hH1
  refine seq_reg ?_
  simp only [go_sem, binC]
  obtain ⟨bv, code', k2, hc, hs2⟩ := l6Open_ok hop (hv.mono (agx_sub ht1)) H.length ht1.1
  refine op_callN (by simp only [go_sem, binC]; exact k2) ?_
  simp only [go_sem, binC]
  refine wpc_gen fun H2 hH2 => ?_
  rw [← hH2] at hs2
  have ht2 : AgX [] H H2 := hH2 ▸ ht1.appN _
  have hb2 : H2[H.length]? = some ⟨[nilS, nilS], 0, 0, false, true⟩ := by rw [hH2, List.getElem?_append_left (List.getElem?_eq_some_iff.1 hb1).1]; exact hb1
  have hn2 : H2.length = H1.length + 1 := by rw [hH2, List.length_append]; rfl
  clear hH2
  refine seq_reg ?_
  simp only [go_sem, binC]
  obtain ⟨v3, H3, p3, k3, x3, s3, c3, d, lv, sv, ls, l, rfl, r1, r2, r3, r4, r5⟩ := gan hc H2 0 H.length hs2 (by omega) (by omega) (by omega)
  refine op_callN (by simp only [go_sem, binC]; exact k3) ?_
  have olv : one lv = true := by obtain ⟨_, a, rfl, _⟩ := r1; rfl
  have osv : one sv = true := by obtain ⟨_, a, rfl, _⟩ := r2; rfl
  have hl3 := x3.1
  simp only [go_sem, binC, olv, osv]
  refine ⟨by omega, ?_⟩
  refine wpc_gen fun H4 hH4 => ?_
  have hs4 : St H1 H1.length bv p3 H4 := hH4 ▸ s3.appN hc _
  have ht4 : AgX [H1.length] H2 H4 := hH4 ▸ x3.appN _
  have hb4 : H4[H.length]? = some ⟨[nilS, nilS], 0, 0, false, true⟩ := ht4.get hb2 (by simp; omega)
  have hbx4 : H4[H3.length]? = some ⟨[lv, sv], 0, 0, false, true⟩ := hH4 ▸ get_new0 _ _
  have hn4 : H4.length = H3.length + 1 := by rw [hH4, List.length_append]; rfl
  have hvw4 : Sub (vwl H2.length [] H3) (vwl H2.length [H3.length] H4) := by subst hH4; exact vwl_sub (AgX.app [] _ _) (Nat.le_refl _) fun b' h1 h2 _ => ⟨by simp, by simp; omega⟩
  clear hH4
  obtain ⟨hl0, la, rfl, _⟩ := id r1
  obtain ⟨v5, H5, p5, k5, x5, s5, c5, row, hns, hnl⟩ := drRow_ok hrw hpk hc (n := (ls.length : Int)) (by omega) H4 p3 H.length hs4 (by omega) (by omega) (by omega)
  have hb5 := x5.get hb4 (by simp; omega)
  have hbx5 := x5.get hbx4 (by simp; omega)
  have hn5 := x5.1
  have hb5l := (List.getElem?_eq_some_iff.1 hb5).1
  have g4 : getCells H4 H3.length 0 2 = some [.slice la ls.length ls.length, sv] := by rw [gc_of hbx4]; rfl
  have g5 : getCells H5 H3.length 0 2 = some [.slice la ls.length ls.length, sv] := by rw [gc_of hbx5]; rfl
  have g4' : getCells H4 H3.length 0 1 = some [.slice la ls.length ls.length] := by rw [gc_of hbx4]; rfl
  have g5' : getCells H5 H3.length 0 1 = some [.slice la ls.length ls.length] := by rw [gc_of hbx5]; rfl
  refine wpc_genE fun e0 he => ?_
  have e2 : e0 2 = ptr H.length 0 := by rw [he]; simp only [go_sem, binC]
  have e4 : e0 4 = ptr H1.length 0 := by rw [he]; simp only [go_sem, binC]
  have e5 : e0 5 = ptr H3.length 0 := by rw [he]; simp only [go_sem, binC]
  clear he
  refine seq_regV (q := 5) (k := 0) (ea := putE (putE (putE (putE (putE e0 (some 10) (.agg #[.slice la ls.length ls.length, sv])) (some 11) (ptr H1.length 0)) (some 12) (ptr H3.length 0)) (some 13) (.slice la ls.length ls.length)) (some 14) (.int .i64 ls.length)) rfl rfl rfl ?_
  refine op_callN (by simp only [go_sem, binC, e4]; exact k5) ?_
  refine ⟨frees_cons _ (iop_load (by simp only [go_sem, binC, e5]) g4) (iop_load (by simp only [go_sem, binC, e5]) g5) (frees_cons _ (by simp only [go_sem, binC, e4, iop]) (by simp only [go_sem, binC, e4, iop]) (frees_cons _ (by simp only [go_sem, binC, e5, iop, ptr]) (by simp only [go_sem, binC, e5, iop, ptr]) (frees_cons _ (by simp only [go_sem, binC, iop, ptr, g4', Option.bind_some]) (by simp only [go_sem, binC, iop, ptr, g5', Option.bind_some]) (frees_cons _ (by simp only [go_sem, binC, iop]) (by simp only [go_sem, binC, iop]) rfl)))), _, rfl, ?_⟩
  simp only [go_sem, binC, e2, hb5, osv]
  have hvf : Sub (vwl H2.length [] H3) (vwl H.length [] (H5.set H.length ⟨[.slice la ls.length ls.length, sv], 0, 0, false, true⟩)) := (hvw4.trans (vwl_sub x5 (Nat.le_refl _) (xs' := []) fun b' h1 h2 _ => ⟨by simp; omega, by simp⟩) : Sub (vwl H2.length [] H3) (vwl H2.length [] H5)).trans (vwl_sub (AgX.set H5 H.length _) (show H.length ≤ H2.length by omega) (xs' := []) fun b' h1 h2 _ => ⟨by simp; omega, by simp⟩)
  have hvn : Sub (vwl H4.length [] H5) (vwl H.length [] (H5.set H.length ⟨[.slice la ls.length ls.length, sv], 0, 0, false, true⟩)) := vwl_sub (AgX.set H5 H.length _) (show H.length ≤ H4.length by omega) (xs' := []) fun b' h1 h2 h3 => ⟨by simp; omega, h3⟩
  refine wpc_ret ⟨Or.inr rfl, .tuple #[.agg #[.slice la ls.length ls.length, sv], v5], ?_, ?_⟩
  · obtain ⟨_, a5, rfl, _⟩ := hns
    simp [resV, resL, res1, putE_get, notT, e2, ptr, gc_set hb5l, inBlk_some, valOf]
  · refine ⟨d, _, sv, v5, ls, l, row, rfl, ?_, r1.mono hvf, r2.mono hvf, r3, hns.mono hvn⟩
    exact (ht2.trans (ht4.tr x5) (fun _ h _ => h) (fun b h1 h2 => by simp at h1; omega)).setN (Nat.le_refl _) _
end Go.Proofs.YtemnemmnfnpnoaaI
end
section
/- Programs whose variables are named otherwise, and named back: plain facts. -/
set_option linter.unusedVariables false
set_option linter.unusedSimpArgs false
namespace Go.Proofs.YtemnemmnfnpnoaaI
open Go Go.RowKit
theorem mapT_succ (T : Shal → Shal) (n : Nat) (k x : Int) (v : Int × Int × Int) (g : Int) (th el : List (TStep n)) : mapT T (n + 1) (k, x, v, g, th, el) = ((T (k, x, v, g)).1, (T (k, x, v, g)).2.1, (T (k, x, v, g)).2.2.1, (T (k, x, v, g)).2.2.2, th.map (mapT T n), el.map (mapT T n)) := rfl
theorem cntT_map (T : Shal → Shal) : ∀ (n : Nat) (s : TStep n), cntT n (mapT T n s) = cntT n s
  | 0, s => s.elim
  | n + 1, (k, x, v, g, th, el) => by
    have go : ∀ l : List (TStep n), ((l.map (mapT T n)).map (cntT n)) = l.map (cntT n) := fun l => by
      rw [List.map_map]
      exact List.map_congr_left fun a _ => cntT_map T n a
    rw [mapT_succ]
    show 1 + ((((th.map (mapT T n)).map (cntT n))).sum + (((el.map (mapT T n)).map (cntT n))).sum) = _
    rw [go, go]
    rfl
theorem cntL_map (T : Shal → Shal) {n : Nat} (l : List (TStep n)) : cntL n (l.map (mapT T n)) = cntL n l := by
  unfold cntL
  rw [List.map_map]
  congr 1
  exact List.map_congr_left fun a _ => cntT_map T n a
/-- What leaves steps in form. -/
structure GoodT (k : Nat) (T : Shal → Shal) : Prop where
  kd : ∀ s, (T s).1 = s.1
  vr : ∀ s, varB k s.2.1 = true → varB k (T s).2.1 = true
  vl : ∀ s, valB k s.2.2.1 = true → valB k (T s).2.2.1 = true
  v0 : ∀ s, s.2.2.1 = (0, 0, 0) → (T s).2.2.1 = (0, 0, 0)
  h0 : ∀ s, s.1 ≠ 3 → (T s).2.2.2 = s.2.2.2
  h3 : ∀ s, s.1 = 3 → inB s.2.2.2 0 2 = true → inB (T s).2.2.2 0 2 = true
theorem stepB_map {k : Nat} {T : Shal → Shal} (hT : GoodT k T) : ∀ (n : Nat) (d : Int) (s : TStep n), stepB k n d s = true → stepB k n d (mapT T n s) = true
  | 0, _, s, _ => s.elim
  | n + 1, d, (kd, vr, v, ho, th, el), h => by
    have go : ∀ l : List (TStep n), l.all (stepB k n (d - 1)) = true → (l.map (mapT T n)).all (stepB k n (d - 1)) = true := fun l hl => by
      rw [List.all_eq_true] at hl ⊢
      intro a ha
      obtain ⟨a', ha', rfl⟩ := List.mem_map.1 ha
      exact stepB_map hT n (d - 1) a' (hl a' ha')
    have q0 := hT.kd (kd, vr, v, ho)
    have q1 := hT.vr (kd, vr, v, ho)
    have q2 := hT.vl (kd, vr, v, ho)
    have q3 := hT.v0 (kd, vr, v, ho)
    have q4 := hT.h0 (kd, vr, v, ho)
    have q5 := hT.h3 (kd, vr, v, ho)
    rw [mapT_succ]
    generalize T (kd, vr, v, ho) = t at *
    obtain ⟨kd', vr', v', ho'⟩ := t
    simp only at q0 q1 q2 q3 q4 q5 ⊢
    subst q0
    simp only [stepB, Bool.and_eq_true, decide_eq_true_eq] at h ⊢
    obtain ⟨⟨h1, hv⟩, h⟩ := h
    refine ⟨⟨h1, q1 hv⟩, ?_⟩
    by_cases k1 : kd' = 1
    · rw [if_pos k1] at h ⊢
      simp only [Bool.and_eq_true, decide_eq_true_eq, List.length_map] at h ⊢
      exact ⟨⟨q2 h.1.1, by rw [q4 (by omega)]; exact h.1.2⟩, h.2⟩
    rw [if_neg k1] at h ⊢
    by_cases k3 : kd' = 3
    · rw [if_pos k3] at h ⊢
      simp only [Bool.and_eq_true, decide_eq_true_eq, List.length_map] at h ⊢
      exact ⟨⟨q3 h.1.1, q5 k3 h.1.2⟩, h.2⟩
    rw [if_neg k3] at h ⊢
    by_cases k2 : kd' = 2
    · rw [if_pos k2] at h ⊢
      simp only [Bool.and_eq_true, decide_eq_true_eq] at h ⊢
      exact ⟨⟨⟨q3 h.1.1.1, by rw [q4 (by omega)]; exact h.1.1.2⟩, go th h.1.2⟩, go el h.2⟩
    · rw [if_neg k2] at h; cases h
theorem progB_map {n : Nat} {ls ls' : List (Int × Int)} {l : List (TStep n)} {T : Shal → Shal} (hT : GoodT ls.length T) (h : progB n (ls, l) = true) (hl : ls'.length = ls.length) (hls : ls'.all labB = true) : progB n (ls', l.map (mapT T n)) = true := by
  simp only [progB, Bool.and_eq_true, decide_eq_true_eq] at h ⊢
  obtain ⟨⟨⟨h1, h2⟩, h3⟩, h4⟩ := h
  refine ⟨⟨⟨by rw [hl]; exact h1, hls⟩, ?_⟩, by rw [cntL_map]; exact h4⟩
  rw [hl, List.all_eq_true]
  intro a ha
  obtain ⟨a', ha', rfl⟩ := List.mem_map.1 ha
  exact stepB_map hT n 3 a' (List.all_eq_true.1 h3 a' ha')
theorem step_sm_map {T : Shal → Shal} : ∀ (n : Nat) (s : TStep n), (Co.step n).sm s → (Co.step n).sm (mapT T n s)
  | 0, s, _ => s.elim
  | n + 1, (k, x, v, g, th, el), h => by
    have go : ∀ l : List (TStep n), (Co.sl (Co.step n)).sm l → (Co.sl (Co.step n)).sm (l.map (mapT T n)) := fun l hl => ⟨by rw [List.length_map]; exact hl.1, fun a ha => by
      obtain ⟨a', ha', rfl⟩ := List.mem_map.1 ha
      exact step_sm_map n a' (hl.2 a' ha')⟩
    obtain ⟨h1, h2, h3, h4, h5, h6⟩ := h
    exact ⟨trivial, trivial, ⟨trivial, trivial, trivial⟩, trivial, go th h5, go el h6⟩
theorem steps_sm_map {T : Shal → Shal} {n : Nat} {l : List (TStep n)} (hl : (Co.sl (Co.step n)).sm l) : (Co.sl (Co.step n)).sm (l.map (mapT T n)) := ⟨by rw [List.length_map]; exact hl.1, fun a ha => by
  obtain ⟨a', ha', rfl⟩ := List.mem_map.1 ha
  exact step_sm_map n a' (hl.2 a' ha')⟩
theorem labs_sm {ls : List (Int × Int)} (h : ls.length ≤ 1048576) : (Co.sl Co.p2).sm ls := ⟨h, fun a _ => ⟨trivial, trivial⟩⟩
/-! ### Names -/
theorem nameO_get {row : List Int} {k : Nat} (hr : rowB row k = true) {x : Int} (hx : 0 ≤ x ∧ x < k) : ∃ h : x.toNat < row.length, nameO row x = row[x.toNat] ∧ 0 ≤ nameO row x ∧ nameO row x < k := by
  obtain ⟨h1, h2, h3⟩ := rowB_iff.1 hr
  have h : x.toNat < row.length := by omega
  have e : nameO row x = row[x.toNat] := by
    unfold nameO
    rw [List.getD_eq_getElem?_getD, List.getElem?_eq_getElem h]
    rfl
  have := h2 _ (List.getElem_mem h)
  exact ⟨h, e, by omega, by omega⟩
theorem nameO_back {row : List Int} {k : Nat} (hr : rowB row k = true) {x : Int} (hx : 0 ≤ x ∧ x < k) : nameO (backR row) (nameO row x) = x := by
  obtain ⟨h1, h2, h3⟩ := rowB_iff.1 hr
  obtain ⟨h, e, e1, e2⟩ := nameO_get hr hx
  rw [e] at e1 e2 ⊢
  unfold nameO backR
  rw [List.getD_eq_getElem?_getD, List.getElem?_map, List.getElem?_range (by omega)]
  have h4 : ((row[x.toNat].toNat : Nat) : Int) = row[x.toNat] := by omega
  simp only [Option.map_some, Option.getD_some, h4]
  rw [h3.idxOf_getElem]
  omega
theorem varB_iff {k : Nat} {x : Int} : varB k x = true ↔ 0 ≤ x ∧ x < k := by
  unfold varB
  rw [inB_iff]
  omega
theorem turnS_good {row : List Int} {k : Nat} (hr : rowB row k = true) : GoodT k (turnS row) := by
  have nv : ∀ x, varB k x = true → varB k (nameO row x) = true := fun x hx => varB_iff.2 (nameO_get hr (varB_iff.1 hx)).2.2
  refine ⟨fun s => rfl, fun s h => nv _ h, fun ⟨kd, x, ⟨a, b, c⟩, g⟩ h => ?_, fun ⟨kd, x, ⟨a, b, c⟩, g⟩ h => ?_, fun s _ => rfl, fun s _ h => h⟩
  · unfold valB at h
    simp only at h
    show valB k (a, _, _) = true
    unfold valB
    simp only
    by_cases a1 : a = 1
    · subst a1; simpa using h
    rw [if_neg a1] at h ⊢
    by_cases a2 : a = 2
    · subst a2
      simp only [if_true, Bool.and_eq_true, decide_eq_true_eq, true_or] at h ⊢
      exact ⟨nv _ h.1, by simpa using h.2⟩
    rw [if_neg a2] at h ⊢
    by_cases a3 : a = 3 ∨ a = 4
    · rw [if_pos a3] at h ⊢
      rw [if_pos (.inr a3), if_pos a3]
      rw [Bool.and_eq_true] at h ⊢
      exact ⟨nv _ h.1, nv _ h.2⟩
    · rw [if_neg a3] at h; cases h
  · simp only [Prod.mk.injEq] at h
    obtain ⟨rfl, rfl, rfl⟩ := h
    rfl
/-- A program with its variables turned is in form. -/
theorem turnV_ok {n : Nat} {ls : List (Int × Int)} {l : List (TStep n)} {row : List Int} (h : progB n (ls, l) = true) (hr : rowB row ls.length = true) : progB n (turnL row ls, l.map (mapT (turnS row) n)) = true := by
  refine progB_map (turnS_good hr) h (turnL_len _ _) ?_
  rw [List.all_eq_true]
  intro p hp
  simp only [progB, Bool.and_eq_true] at h
  exact List.all_eq_true.1 h.1.1.2 p (turnL_mem hr p hp)
end Go.Proofs.YtemnemmnfnpnoaaI
end
section
/- The law FnTurnVars on the ideal machine. -/
set_option linter.unusedVariables false
set_option linter.unusedSimpArgs false
namespace Go.Proofs.YtemnemmnfnpnoaaI
open Go Go.RowKit
theorem turnO_sm {n : Nat} {m : Nat → Nat} {lab : List Int → List (Int × Int) → List (Int × Int)} {T : List Int → Shal → Shal} {ls : List (Int × Int)} {l : List (TStep n)} {row : List Int} (h : (Co.prog n).sm (ls, l)) (hl : (lab row ls).length = ls.length) : (Co.prog n).sm (turnO n m lab T ls l row) := by
  unfold turnO
  split
  · exact ⟨labs_sm (by rw [hl]; exact h.1.1), steps_sm_map h.2⟩
  · exact ⟨⟨by simp, by simp⟩, ⟨by simp, by simp⟩⟩
end Go.Proofs.YtemnemmnfnpnoaaI
end
section
/- Sets of hosts that are named otherwise. -/
set_option linter.unusedVariables false
set_option linter.unusedSimpArgs false
namespace Go.Proofs.YtemnemmnfnpnoaaI
open Go Go.RowKit
theorem getD_int {l : List Int} {i : Nat} (h : i < l.length) : l.getD i 0 = l[i] := by simp [List.getD, h]
/-! ### Facts of sets -/
end Go.Proofs.YtemnemmnfnpnoaaI
end
section
/- Programs whose hosts are named otherwise. -/
set_option linter.unusedVariables false
set_option linter.unusedSimpArgs false
namespace Go.Proofs.YtemnemmnfnpnoaaI
open Go Go.RowKit
end Go.Proofs.YtemnemmnfnpnoaaI
end
section
/- Programs whose hosts are named otherwise (the reference's). -/
set_option linter.unusedVariables false
set_option linter.unusedSimpArgs false
namespace Go.Proofs.YtemnemmnfnpnoaaI
open Go Go.RowKit
end Go.Proofs.YtemnemmnfnpnoaaI
end
section
/- The laws FnTurnProg and FnTurnSame on the ideal machine. -/
set_option linter.unusedVariables false
set_option linter.unusedSimpArgs false
namespace Go.Proofs.YtemnemmnfnpnoaaI
open Go Go.RowKit
end Go.Proofs.YtemnemmnfnpnoaaI
end
section
/- The law FnTurnRun on the ideal machine. -/
set_option linter.unusedVariables false
set_option linter.unusedSimpArgs false
namespace Go.Proofs.YtemnemmnfnpnoaaI
open Go Go.RowKit
def c_iRunTo : IFn := ⟨2, 26, [.t 4],
 .seq (.reg none [
    ⟨(some 2), none, .box (.t 0)⟩,
    ⟨(some 4), none, .mov (.c (.slice none 0 0))⟩])
 (.seq (.reg none [
    ⟨(some 5), none, .mov (.c (.slice none 0 0))⟩])
 (.seq (.seq (.reg none [
     ⟨(some 8), none, .fad 2 (.t 2)⟩,
     ⟨(some 9), none, .load false 1 (.t 8)⟩,
     ⟨(some 10), none, .len (.t 9)⟩,
     ⟨(some 11), none, .mov (.c (.int .i64 0))⟩])
  (.block 0 (.loop (.seq (.reg none [
       ⟨(some 12), none, .bin .lss (.t 11) (.t 10)⟩])
    (.seq (.cond (.t 12) (.skip) (.exit 0))
    (.seq (.block 1 (.seq (.reg none [
         ⟨(some 13), none, .iad 2 (.t 9) (.t 11)⟩,
         ⟨(some 14), none, .load true 2 (.t 13)⟩,
         ⟨(some 7), none, .new [(.int .i64 0), (.int .i64 0)]⟩,
         ⟨none, none, .store 2 (.t 7) (.t 14)⟩])
      (.seq (.reg none [
         ⟨(some 15), none, .fad 0 (.t 7)⟩,
         ⟨(some 16), none, .load false 1 (.t 15)⟩,
         ⟨(some 17), none, .mov (.t 1)⟩,
         ⟨(some 18), none, .bin .eql (.t 16) (.t 17)⟩])
      (.cond (.t 18) (.reg none [
         ⟨(some 19), none, .mov (.t 5)⟩,
         ⟨(some 20), none, .fad 1 (.t 7)⟩,
         ⟨(some 21), none, .load false 1 (.t 20)⟩,
         ⟨(some 22), none, .lit 1 3 1 [(.int .i64 0)] [(0, 1, (.t 21))]⟩,
         ⟨(some 23), none, .app 1 3 8 false (.t 19) (.t 22)⟩,
         ⟨(some 5), none, .mov (.t 23)⟩]) (.skip)))))
    (.reg none [
      ⟨(some 24), none, .bin .add (.t 11) (.c (.int .i64 1))⟩,
      ⟨(some 11), none, .mov (.t 24)⟩])))))))
 (.seq (.reg none [
    ⟨(some 25), none, .mov (.t 5)⟩,
    ⟨(some 4), none, .mov (.t 25)⟩])
 (.ret))))⟩
def toldL (h : Int) (ss : List (Int × Int)) : List Int := (ss.filter (fun w => decide (w.1 = h))).map (·.2)
def ToldOk (F : Nat → Option IFn) (f : Nat) : Prop := ∀ (H : Heap) (nv wv sv : Value) (r : RunS) (h : Int), one nv = true → one wv = true → SlR Co.p2 (vw 0 H) sv r.2.2 → r.2.2.length ≤ 1000 → (∀ w ∈ r.2.2, RgI w.1 ∧ RgI w.2) → ∃ z H', KC F f [.agg #[nv, wv, sv], .int .i64 h] H z H' ∧ AgX [] H H' ∧ SlR Co.int (vw 0 H') z (toldL h r.2.2)
theorem iRunTo_ok {F : Nat → Option IFn} {f : Nat} (hf : F f = some c_iRunTo) : ToldOk F f := by
  intro H nv wv sv r h on ow hs hl hrg
  suffices hh : ∃ z H', KC F f [.agg #[nv, wv, sv], .int .i64 h] H z H' ∧ (AgX [] H H' ∧ SlR Co.int (vw 0 H') z (toldL h r.2.2)) from hh
  obtain ⟨_, sa, rfl, _⟩ := id hs
  generalize r.2.2 = ss at hs hl hrg
  refine KC.mk hf rfl ?_
  refine seq_reg ?_
  simp only [go_sem, binC, on, ow]
  refine wpc_gen fun H1 hH1 => ?_
  have hx1 : AgX [] H H1 := hH1 ▸ AgX.app [] _ _
  have hb : H1[H.length]? = some ⟨[nv, wv, .slice sa ss.length ss.length], 0, 0, false, true⟩ := hH1 ▸ get_new0 _ _
  clear hH1
  have hl1 := hx1.1
  have hlt : ∀ l : List (Int × Int), (toldL h l).length ≤ l.length := fun l => by unfold toldL; rw [List.length_map]; exact List.length_filter_le _ _
  refine seq_reg ?_
  simp only [go_sem, binC]
  refine seq_assoc (seq_reg ?_)
  simp only [go_sem, binC, gc_of hb, inBlk_some]
  refine seq_block (wpc_loop ?_)
  suffices hh : ∀ (k i : Nat) (e : Env) (Hc : Heap) (v5 : Value), i + k = ss.length → AgX [] H1 Hc → GLi fi 1 3 H1.length Hc v5 (toldL h (ss.take i)) → e 1 = .int .i64 h → e 5 = v5 → e 9 = .slice sa ss.length ss.length → e 10 = .int .i64 ss.length → e 11 = .int .i64 i → W F H.length _ e Hc _ from
    hh ss.length 0 _ H1 _ (by omega) (AgX.refl _ _) (.inl ⟨rfl, rfl⟩) (by simp only [go_sem, binC]) (by simp only [go_sem, binC]) (by simp only [go_sem, binC]) (by simp only [go_sem, binC]) (by (simp only [go_sem, binC]) <;> rfl)
  intro k
  induction k with
  | zero =>
    intro i e Hc v5 hi hxc q e1 e5 e9 e10 e11
    refine lp_step ?_
    refine seq_reg ?_
    simp only [go_sem, binC, e10, e11]
    refine seq_cond (t := false) (by simp only [go_sem, binC]; rw [decide_eq_false (by omega)]) ?_
    simp only [go_sem, binC]
    refine seq_exit ?_
    simp only [go_sem, binC, thenX_e, out_e, thenX_n]
    refine seq_reg ?_
    simp only [go_sem, binC, e5]
    rw [List.take_of_length_le (by omega)] at q
    refine wpc_ret ⟨Or.inr rfl, _, (by (simp only [go_sem, binC]) <;> rfl), hx1.tr hxc, q.slI (es := 1) (fun x hx => ?_) (Nat.le_trans (hlt _) hl)⟩
    unfold toldL at hx
    obtain ⟨w, hw, rfl⟩ := List.mem_map.1 hx
    exact (hrg w (List.mem_filter.1 hw).1).2
  | succ k ih =>
    intro i e Hc v5 hi hxc q e1 e5 e9 e10 e11
    have hil : i < ss.length := by omega
    obtain ⟨b, o, hv1, hg⟩ := gcP (hs.mono (agx_sub (hx1.tr hxc))) hil
    simp only [Value.slice.injEq, and_true] at hv1
    subst hv1
    have hw1 : IntKind.i64.wrap ((i : Int) + 1) = ((i + 1 : Nat) : Int) := by rw [wrap_id (by omega) (by omega)]; omega
    have htk : toldL h (ss.take (i + 1)) = toldL h (ss.take i) ++ (if ss[i].1 = h then [ss[i].2] else []) := by
      unfold toldL
      rw [List.take_add_one, List.getElem?_eq_getElem hil, List.filter_append, List.map_append]
      congr 1
      by_cases hh : ss[i].1 = h <;> simp [hh]
    have hlc := hxc.1
    refine lp_step ?_
    refine seq_reg ?_
    simp only [go_sem, binC, e10, e11]
    refine seq_cond (t := true) (by simp only [go_sem, binC]; rw [decide_eq_true (by omega)]) ?_
    simp only [go_sem, binC]
    refine seq_skip (seq_block (seq_reg ?_))
    simp only [go_sem, binC, e9, e11]
    refine ⟨⟨by omega, by omega⟩, ?_⟩
    simp only [go_sem, binC, Int.toNat_natCast, hg]
    refine ⟨by omega, ?_⟩
    refine wpc_gen fun H2 hH2 => ?_
    have hx2 : AgX [] Hc H2 := hH2 ▸ AgX.app [] _ _
    have hb7 : H2[Hc.length]? = some ⟨[.int .i64 ss[i].1, .int .i64 ss[i].2], 0, 0, false, true⟩ := hH2 ▸ get_new0 _ _
    clear hH2
    have q2 := q.keep hx2 (fun _ _ _ _ _ => by simp)
    have hl2 := hx2.1
    refine seq_reg ?_
    simp only [go_sem, binC, e1, gc_of hb7, inBlk_some]
    by_cases he : ss[i].1 = h
    · rw [if_pos he] at htk
      simp only [go_sem, binC, beq_t he]
      refine wpc_cond (t := true) (by first | rfl | (simp only [go_sem, binC]; rw [beq_t he])) ?_
      simp only [go_sem, binC]
      refine wpc_reg ?_
      simp only [go_sem, binC, e5, gc_of hb7, inBlk_some]
      refine op_app_fl (fl := fi) (a := ss[i].2) (lo := H1.length) (fun _ => rfl) q2 (by simp only [go_sem, binC, e5]) (by (simp only [go_sem, binC]) <;> rfl) hl1 (by omega) (by have := hlt (ss.take i); rw [List.length_take] at this; omega) (by omega) fun H3 w3 hx3 q3 => ?_
      rw [← htk] at q3
      have hblk := q2.blk
      simp only [go_sem, binC, out_n, thenX_n]
      refine wpc_reg ?_
      simp only [go_sem, binC, e11, hw1]
      simp only [go_sem, binC, thenX_n]
      exact ih (i + 1) _ H3 w3 (by omega) ((hxc.tr hx2).trans hx3 (fun _ h _ => h) (fun b h1 h2 => by have := hblk b h1; omega)) q3 (by simp only [go_sem, binC, e1]) (by simp only [go_sem, binC]) (by simp only [go_sem, binC, e9]) (by simp only [go_sem, binC, e10]) (by simp only [go_sem, binC])
    · rw [if_neg he, List.append_nil] at htk
      simp only [go_sem, binC, beq_f he]
      refine wpc_cond (t := false) (by first | rfl | (simp only [go_sem, binC]; rw [beq_f he])) ?_
      simp only [go_sem, binC]
      refine wpc_skip ?_
      simp only [go_sem, binC, out_n, thenX_n]
      refine wpc_reg ?_
      simp only [go_sem, binC, e11, hw1]
      simp only [go_sem, binC, thenX_n]
      exact ih (i + 1) _ H2 v5 (by omega) (hxc.tr hx2) (by rw [htk]; exact q2) (by simp only [go_sem, binC, e1]) (by simp only [go_sem, binC, e5]) (by simp only [go_sem, binC, e9]) (by simp only [go_sem, binC, e10]) (by simp only [go_sem, binC])
/-! ### Plainly -/
/-- The numbers that the law takes. -/
def nmL (m k : Nat) : List Int := (List.range k).map fun (i : Nat) => ((m : Int) + (i : Int) * 3) % 10
theorem nmL_len (m k : Nat) : (nmL m k).length = k := by simp [nmL]
theorem nmL_succ (m k : Nat) : nmL m k ++ [((m : Int) + (k : Int) * 3) % 10] = nmL m (k + 1) := by simp [nmL, List.range_succ]
theorem nmL_rg {m k : Nat} : ∀ x ∈ nmL m k, 0 ≤ x ∧ x ≤ 9 := by
  intro x hx
  simp only [nmL, List.mem_map, List.mem_range] at hx
  obtain ⟨i, _, rfl⟩ := hx
  omega
theorem numsB_nm {n : Nat} {ls : List (Int × Int)} {l : List (TStep n)} (h : progB n (ls, l) = true) (m : Nat) : numsB n (ls, l) (nmL m ls.length) = true := by
  unfold numsB
  rw [h, nmL_len]
  simp only [decide_true, Bool.true_and, Bool.and_true, List.all_eq_true]
  exact fun x hx => inB_iff.2 (nmL_rg x hx)
theorem binI_remJ {x : Int} (h : 0 ≤ x) : binI .rem .i64 x 10 = some (.int .i64 (x % 10)) := by
  show (if (10 : Int) = 0 then none else some (Value.int .i64 (x.tmod 10))) = _
  rw [if_neg (by decide), Int.tmod_eq_emod_of_nonneg h]
theorem RunOk.bd {n : Nat} {p : TProg n} {nums : List Int} (h : progB n p = true) (hsm : (Co.prog n).sm p) : (runOf n p nums).2.2.length ≤ 1000 := by
  have key : ∀ (m : Nat) (s : TStep m) (r : RunS), (runT m s r).2.2.length ≤ r.2.2.length + (allT m s).length := by
    intro m
    induction m with
    | zero => intro s; exact s.elim
    | succ m ih =>
      rintro ⟨kd, vr, v, ho, th, el⟩ r
      have go : ∀ (l : List (TStep m)) (r : RunS), (runL m l r).2.2.length ≤ r.2.2.length + (allL m l).length := by
        intro l
        induction l with
        | nil => intro r; simp [runL, allL]
        | cons a l ihl =>
          intro r
          have h1 := ih a r
          have h2 := ihl (runT m a r)
          simp only [runL, List.foldl_cons] at h2 ⊢
          have h3 : (allL m (a :: l)).length = (allT m a).length + (allL m l).length := by simp [allL]
          omega
      rw [allT_succ]
      simp only [List.length_cons, List.length_append]
      by_cases k1 : kd = 1
      · subst k1; rw [runT_set]; simp only; omega
      by_cases k2 : kd = 2
      · subst k2
        rw [runT_if]
        split
        · have := go el r; omega
        · have := go th r; omega
      · rw [runT_tell k1 k2]; simp only [List.length_append, List.length_singleton]; omega
  have go : ∀ (l : List (TStep n)) (r : RunS), (runL n l r).2.2.length ≤ r.2.2.length + (allL n l).length := by
    intro l
    induction l with
    | nil => intro r; simp [runL, allL]
    | cons a l ihl =>
      intro r
      have h1 := key n a r
      have h2 := ihl (runT n a r)
      simp only [runL, List.foldl_cons] at h2 ⊢
      have h3 : (allL n (a :: l)).length = (allT n a).length + (allL n l).length := by simp [allL]
      omega
  have hc := progB_cnt h hsm
  unfold runOf
  split
  · have := go p.2 (nums, [], [])
    simp only [List.length_nil] at this
    omega
  · simp
end Go.Proofs.YtemnemmnfnpnoaaI
end
section
/- The law FnTurnVarsRun on the ideal machine. -/
set_option linter.unusedVariables false
set_option linter.unusedSimpArgs false
namespace Go.Proofs.YtemnemmnfnpnoaaI
open Go Go.RowKit
def c_lawTVR : IFn := ⟨2, 145, [.t 4],
 .seq (.reg none [
    ⟨(some 4), none, .mov (.c (.bool false))⟩])
 (.seq (.seq (.reg none [
     ⟨(some 20), none, .mov (.t 0)⟩,
     ⟨(some 21), none, .len (.t 20)⟩,
     ⟨(some 22), none, .bin .gtr (.t 21) (.c (.int .i64 1048576))⟩,
     ⟨(some 23), none, .mov (.t 22)⟩,
     ⟨(some 24), (some (23, false)), .mov (.t 1)⟩,
     ⟨(some 25), (some (23, false)), .len (.t 24)⟩,
     ⟨(some 26), (some (23, false)), .bin .gtr (.t 25) (.c (.int .i64 1048576))⟩,
     ⟨(some 27), none, .pick (.t 23) (.c (.bool true)) (.t 26)⟩])
  (.cond (.t 27) (.seq (.reg none [
      ⟨(some 4), none, .mov (.c (.bool true))⟩])
   (.ret)) (.skip)))
 (.seq (.reg none [
    ⟨(some 29), none, .mov (.t 0)⟩,
    ⟨(some 30), none, .call .k (.f 21) [(.t 29)]⟩,
    ⟨(some 28), none, .mov (.t 30)⟩,
    ⟨(some 31), none, .ext (.t 28) 0⟩,
    ⟨(some 32), none, .ext (.t 28) 1⟩,
    ⟨(some 5), none, .new [(.slice none 0 0), (.slice none 0 0)]⟩,
    ⟨none, none, .store 2 (.t 5) (.t 31)⟩,
    ⟨(some 6), none, .mov (.t 32)⟩])
 (.seq (.reg none [
    ⟨(some 34), none, .load true 2 (.t 5)⟩,
    ⟨(some 35), none, .mov (.t 6)⟩,
    ⟨(some 36), none, .call .k (.f 12) [(.t 34), (.t 35)]⟩,
    ⟨(some 33), none, .mov (.t 36)⟩,
    ⟨(some 37), none, .ext (.t 33) 0⟩,
    ⟨(some 38), none, .ext (.t 33) 1⟩,
    ⟨(some 7), none, .new [(.slice none 0 0), (.slice none 0 0)]⟩,
    ⟨none, none, .store 2 (.t 7) (.t 37)⟩,
    ⟨(some 8), none, .mov (.t 38)⟩])
 (.seq (.reg none [
    ⟨(some 40), none, .load true 2 (.t 5)⟩,
    ⟨(some 41), none, .mov (.t 6)⟩,
    ⟨(some 42), none, .call .k (.f 15) [(.t 40), (.t 41)]⟩,
    ⟨(some 39), none, .mov (.t 42)⟩,
    ⟨(some 43), none, .ext (.t 39) 0⟩,
    ⟨(some 44), none, .ext (.t 39) 1⟩,
    ⟨(some 9), none, .new [(.slice none 0 0), (.slice none 0 0)]⟩,
    ⟨none, none, .store 2 (.t 9) (.t 43)⟩,
    ⟨(some 10), none, .mov (.t 44)⟩])
 (.seq (.seq (.reg none [
     ⟨(some 45), none, .mov (.t 10)⟩,
     ⟨(some 46), none, .mov (.t 8)⟩,
     ⟨(some 47), none, .beq true (.t 45) (.t 46)⟩,
     ⟨(some 48), none, .mov (.t 47)⟩,
     ⟨(some 49), (some (48, false)), .load true 2 (.t 9)⟩,
     ⟨(some 50), (some (48, false)), .load true 2 (.t 7)⟩,
     ⟨(some 51), (some (48, false)), .call .q (.f 22) [(.t 49), (.t 50)]⟩,
     ⟨(some 52), (some (48, false)), .un .not (.t 51)⟩,
     ⟨(some 53), none, .pick (.t 48) (.c (.bool true)) (.t 52)⟩,
     ⟨(some 54), none, .mov (.t 53)⟩,
     ⟨(some 55), (some (54, false)), .mov (.t 10)⟩,
     ⟨(some 56), (some (54, false)), .un .not (.t 55)⟩,
     ⟨(some 57), none, .pick (.t 54) (.c (.bool true)) (.t 56)⟩])
  (.cond (.t 57) (.seq (.reg none [
      ⟨(some 58), none, .mov (.t 10)⟩,
      ⟨(some 59), none, .mov (.t 8)⟩,
      ⟨(some 60), none, .beq false (.t 58) (.t 59)⟩,
      ⟨(some 61), none, .mov (.t 60)⟩,
      ⟨(some 62), (some (61, true)), .load true 2 (.t 9)⟩,
      ⟨(some 63), (some (61, true)), .load true 2 (.t 7)⟩,
      ⟨(some 64), (some (61, true)), .call .q (.f 22) [(.t 62), (.t 63)]⟩,
      ⟨(some 65), none, .pick (.t 61) (.t 64) (.c (.bool false))⟩,
      ⟨(some 4), none, .mov (.t 65)⟩])
   (.ret)) (.skip)))
 (.seq (.reg none [
    ⟨(some 66), none, .lit 1 3 0 [] []⟩,
    ⟨(some 11), none, .mov (.t 66)⟩])
 (.seq (.reg none [
    ⟨(some 67), none, .fad 0 (.t 5)⟩,
    ⟨(some 68), none, .load false 1 (.t 67)⟩,
    ⟨(some 69), none, .len (.t 68)⟩,
    ⟨(some 70), none, .mks 1 3 8 [(.int .i64 0)] (.t 69) (.t 69)⟩,
    ⟨(some 12), none, .mov (.t 70)⟩])
 (.seq (.seq (.reg none [
     ⟨(some 13), none, .mov (.c (.int .i64 0))⟩])
  (.block 0 (.loop (.seq (.seq (.reg none [
        ⟨(some 71), none, .mov (.t 13)⟩,
        ⟨(some 72), none, .fad 0 (.t 5)⟩,
        ⟨(some 73), none, .load false 1 (.t 72)⟩,
        ⟨(some 74), none, .len (.t 73)⟩,
        ⟨(some 75), none, .bin .lss (.t 71) (.t 74)⟩])
     (.cond (.t 75) (.skip) (.exit 0)))
    (.seq (.block 1 (.seq (.reg none [
         ⟨(some 78), none, .mov (.t 11)⟩,
         ⟨(some 79), none, .mov (.t 1)⟩,
         ⟨(some 80), none, .len (.t 79)⟩,
         ⟨(some 81), none, .mov (.t 13)⟩,
         ⟨(some 82), none, .bin .mul (.t 81) (.c (.int .i64 3))⟩,
         ⟨(some 83), none, .bin .add (.t 80) (.t 82)⟩,
         ⟨(some 84), none, .bin .rem (.t 83) (.c (.int .i64 10))⟩,
         ⟨(some 85), none, .lit 1 3 1 [(.int .i64 0)] [(0, 1, (.t 84))]⟩,
         ⟨(some 86), none, .app 1 3 8 false (.t 78) (.t 85)⟩,
         ⟨(some 11), none, .mov (.t 86)⟩])
      (.reg (some 9) [
        ⟨(some 87), none, .mov (.t 12)⟩,
        ⟨(some 88), none, .mov (.t 6)⟩,
        ⟨(some 89), none, .mov (.t 13)⟩,
        ⟨(some 90), none, .iad 1 (.t 88) (.t 89)⟩,
        ⟨(some 91), none, .load false 1 (.t 90)⟩,
        ⟨(some 92), none, .mov (.t 11)⟩,
        ⟨(some 93), none, .mov (.t 13)⟩,
        ⟨(some 94), none, .iad 1 (.t 92) (.t 93)⟩,
        ⟨(some 95), none, .load false 1 (.t 94)⟩,
        ⟨(some 96), none, .iad 1 (.t 87) (.t 91)⟩,
        ⟨none, none, .store 1 (.t 96) (.t 95)⟩])))
    (.reg none [
      ⟨(some 76), none, .mov (.t 13)⟩,
      ⟨(some 77), none, .bin .add (.t 76) (.c (.int .i64 1))⟩,
      ⟨(some 13), none, .mov (.t 77)⟩]))))))
 (.seq (.reg none [
    ⟨(some 98), none, .load true 2 (.t 5)⟩,
    ⟨(some 99), none, .mov (.t 11)⟩,
    ⟨(some 100), none, .call .k (.f 32) [(.t 98), (.t 99)]⟩,
    ⟨(some 97), none, .mov (.t 100)⟩,
    ⟨(some 101), none, .ext (.t 97) 0⟩,
    ⟨(some 102), none, .ext (.t 97) 1⟩,
    ⟨(some 14), none, .new [(.slice none 0 0), (.slice none 0 0), (.slice none 0 0)]⟩,
    ⟨none, none, .store 3 (.t 14) (.t 101)⟩,
    ⟨(some 15), none, .mov (.t 102)⟩])
 (.seq (.reg none [
    ⟨(some 104), none, .load true 2 (.t 9)⟩,
    ⟨(some 105), none, .mov (.t 12)⟩,
    ⟨(some 106), none, .call .k (.f 32) [(.t 104), (.t 105)]⟩,
    ⟨(some 103), none, .mov (.t 106)⟩,
    ⟨(some 107), none, .ext (.t 103) 0⟩,
    ⟨(some 108), none, .ext (.t 103) 1⟩,
    ⟨(some 16), none, .new [(.slice none 0 0), (.slice none 0 0), (.slice none 0 0)]⟩,
    ⟨none, none, .store 3 (.t 16) (.t 107)⟩,
    ⟨(some 17), none, .mov (.t 108)⟩])
 (.seq (.seq (.reg none [
     ⟨(some 18), none, .mov (.c (.int .i64 0))⟩])
  (.block 2 (.loop (.seq (.seq (.reg none [
        ⟨(some 109), none, .mov (.t 18)⟩,
        ⟨(some 110), none, .mov (.t 6)⟩,
        ⟨(some 111), none, .len (.t 110)⟩,
        ⟨(some 112), none, .bin .lss (.t 109) (.t 111)⟩])
     (.cond (.t 112) (.skip) (.exit 2)))
    (.seq (.block 3 (.seq (.reg (some 13) [
         ⟨(some 115), none, .fad 0 (.t 16)⟩,
         ⟨(some 116), none, .load false 1 (.t 115)⟩,
         ⟨(some 117), none, .mov (.t 6)⟩,
         ⟨(some 118), none, .mov (.t 18)⟩,
         ⟨(some 119), none, .iad 1 (.t 117) (.t 118)⟩,
         ⟨(some 120), none, .load false 1 (.t 119)⟩,
         ⟨(some 121), none, .iad 1 (.t 116) (.t 120)⟩,
         ⟨(some 122), none, .load false 1 (.t 121)⟩,
         ⟨(some 123), none, .fad 0 (.t 14)⟩,
         ⟨(some 124), none, .load false 1 (.t 123)⟩,
         ⟨(some 125), none, .mov (.t 18)⟩,
         ⟨(some 126), none, .iad 1 (.t 124) (.t 125)⟩,
         ⟨(some 127), none, .load false 1 (.t 126)⟩,
         ⟨(some 128), none, .bin .neq (.t 122) (.t 127)⟩])
      (.cond (.t 128) (.seq (.reg none [
          ⟨(some 4), none, .mov (.c (.bool false))⟩])
       (.ret)) (.skip))))
    (.reg none [
      ⟨(some 113), none, .mov (.t 18)⟩,
      ⟨(some 114), none, .bin .add (.t 113) (.c (.int .i64 1))⟩,
      ⟨(some 18), none, .mov (.t 114)⟩]))))))
 (.seq (.seq (.reg none [
     ⟨(some 19), none, .mov (.c (.int .i64 0))⟩])
  (.block 4 (.loop (.seq (.seq (.reg none [
        ⟨(some 129), none, .mov (.t 19)⟩,
        ⟨(some 130), none, .bin .lss (.t 129) (.c (.int .i64 3))⟩])
     (.cond (.t 130) (.skip) (.exit 4)))
    (.seq (.block 5 (.seq (.reg (some 5) [
         ⟨(some 133), none, .load true 3 (.t 14)⟩,
         ⟨(some 134), none, .mov (.t 19)⟩,
         ⟨(some 135), none, .call .k (.f 34) [(.t 133), (.t 134)]⟩,
         ⟨(some 136), none, .load true 3 (.t 16)⟩,
         ⟨(some 137), none, .mov (.t 19)⟩,
         ⟨(some 138), none, .call .k (.f 34) [(.t 136), (.t 137)]⟩,
         ⟨(some 139), none, .call .q (.f 33) [(.t 135), (.t 138)]⟩,
         ⟨(some 140), none, .un .not (.t 139)⟩])
      (.cond (.t 140) (.seq (.reg none [
          ⟨(some 4), none, .mov (.c (.bool false))⟩])
       (.ret)) (.skip))))
    (.reg none [
      ⟨(some 131), none, .mov (.t 19)⟩,
      ⟨(some 132), none, .bin .add (.t 131) (.c (.int .i64 1))⟩,
      ⟨(some 19), none, .mov (.t 132)⟩]))))))
 (.seq (.reg none [
    ⟨(some 141), none, .mov (.t 15)⟩,
    ⟨(some 142), none, .mov (.t 141)⟩,
    ⟨(some 143), (some (142, true)), .mov (.t 17)⟩,
    ⟨(some 144), none, .pick (.t 142) (.t 143) (.c (.bool false))⟩,
    ⟨(some 4), none, .mov (.t 144)⟩])
 (.ret))))))))))))))⟩
/-- Numbers of variables, and of the same variables with other names. -/
def TRn (k : Nat) (row a b : List Int) : Prop := a.length = k ∧ b.length = k ∧ ∀ x : Int, 0 ≤ x → x < k → b.getD (nameO row x).toNat 0 = a.getD x.toNat 0
theorem getD_set {l : List Int} {i j : Nat} {v : Int} (h : i < l.length) : (l.set i v).getD j 0 = if i = j then v else l.getD j 0 := by
  rw [List.getD_eq_getElem?_getD, List.getD_eq_getElem?_getD, List.getElem?_set]
  by_cases hij : i = j
  · subst hij
    rw [if_pos rfl, if_pos h, if_pos rfl]
    rfl
  · rw [if_neg hij, if_neg hij]
theorem nameO_inj {row : List Int} {k : Nat} (hr : rowB row k = true) {x y : Int} (hx : 0 ≤ x ∧ x < k) (hy : 0 ≤ y ∧ y < k) (h : (nameO row x).toNat = (nameO row y).toNat) : x = y := by
  have q1 := (nameO_get hr hx).2.2
  have q2 := (nameO_get hr hy).2.2
  have e : nameO row x = nameO row y := by omega
  rw [← nameO_back hr hx, ← nameO_back hr hy, e]
theorem TRn.set {k : Nat} {row a b : List Int} (hr : rowB row k = true) (h : TRn k row a b) {x : Int} (hx : 0 ≤ x ∧ x < k) (v : Int) : TRn k row (a.set x.toNat v) (b.set (nameO row x).toNat v) := by
  obtain ⟨h1, h2, h3⟩ := h
  have q := (nameO_get hr hx).2.2
  refine ⟨by rw [List.length_set, h1], by rw [List.length_set, h2], fun y hy1 hy2 => ?_⟩
  rw [getD_set (by omega), getD_set (by omega)]
  by_cases hxy : x = y
  · subst hxy; rw [if_pos rfl, if_pos rfl]
  · rw [if_neg (fun h => hxy (nameO_inj hr hx ⟨hy1, hy2⟩ h)), if_neg (by omega), h3 y hy1 hy2]
theorem TRn.val {k : Nat} {row a b : List Int} (h : TRn k row a b) {v : Int × Int × Int} (hv : valB k v = true) : valN b (v.1, if v.1 = 2 ∨ v.1 = 3 ∨ v.1 = 4 then nameO row v.2.1 else v.2.1, if v.1 = 3 ∨ v.1 = 4 then nameO row v.2.2 else v.2.2) = valN a v := by
  obtain ⟨c, x, y⟩ := v
  obtain ⟨h1, h2, h3⟩ := h
  unfold valB at hv
  simp only at hv
  unfold valN
  simp only
  by_cases c1 : c = 1
  · subst c1; simp
  rw [if_neg c1] at hv
  rw [if_neg c1, if_neg c1]
  by_cases c2 : c = 2
  · subst c2
    simp only [if_true, Bool.and_eq_true, decide_eq_true_eq, true_or] at hv ⊢
    have := varB_iff.1 hv.1
    exact h3 x this.1 this.2
  rw [if_neg c2] at hv
  rw [if_neg c2, if_neg c2]
  by_cases c3 : c = 3 ∨ c = 4
  · rw [if_pos c3, Bool.and_eq_true] at hv
    have qx := varB_iff.1 hv.1
    have qy := varB_iff.1 hv.2
    rw [if_pos (show c = 2 ∨ c = 3 ∨ c = 4 from .inr c3), if_pos c3, h3 x qx.1 qx.2, h3 y qy.1 qy.2]
  · rw [if_neg c3] at hv; cases hv
def RRn (k : Nat) (row : List Int) (r r' : RunS) : Prop := TRn k row r.1 r'.1 ∧ r'.2.2 = r.2.2
theorem runT_vars {row : List Int} {k : Nat} (hr : rowB row k = true) : ∀ (n : Nat) (d : Int) (s : TStep n) (r r' : RunS), stepB k n d s = true → RRn k row r r' → RRn k row (runT n s r) (runT n (mapT (turnS row) n s) r')
  | 0, _, s, _, _, _, _ => s.elim
  | n + 1, d, (kd, vr, v, ho, th, el), r, r', h, hh => by
    have go : ∀ l : List (TStep n), l.all (stepB k n (d - 1)) = true → ∀ r r', RRn k row r r' → RRn k row (runL n l r) (runL n (l.map (mapT (turnS row) n)) r') := by
      intro l
      induction l with
      | nil => intro _ r r' hr; exact hr
      | cons a l ih =>
        intro hl r r' hr'
        rw [List.all_cons, Bool.and_eq_true] at hl
        have q1 := runT_vars hr n (d - 1) a r r' hl.1 hr'
        have := ih hl.2 _ _ q1
        simpa only [runL, List.map_cons, List.foldl_cons] using this
    simp only [stepB, Bool.and_eq_true, decide_eq_true_eq] at h
    obtain ⟨⟨_, hvr⟩, h⟩ := h
    have qv := varB_iff.1 hvr
    obtain ⟨ht, hs⟩ := hh
    have e : mapT (turnS row) (n + 1) (kd, vr, v, ho, th, el) = (kd, nameO row vr, (v.1, (if v.1 = 2 ∨ v.1 = 3 ∨ v.1 = 4 then nameO row v.2.1 else v.2.1), (if v.1 = 3 ∨ v.1 = 4 then nameO row v.2.2 else v.2.2)), ho, th.map (mapT (turnS row) n), el.map (mapT (turnS row) n)) := rfl
    rw [e]
    by_cases k1 : kd = 1
    · subst k1
      rw [if_pos rfl] at h
      simp only [Bool.and_eq_true] at h
      rw [runT_set, runT_set, ht.val h.1.1]
      exact ⟨ht.set hr qv _, hs⟩
    rw [if_neg k1] at h
    by_cases k3 : kd = 3
    · subst k3
      rw [runT_tell (by decide) (by decide), runT_tell (by decide) (by decide), ht.2.2 vr qv.1 qv.2]
      exact ⟨ht, by simp only [hs]⟩
    rw [if_neg k3] at h
    by_cases k2 : kd = 2
    · subst k2
      rw [if_pos rfl] at h
      simp only [Bool.and_eq_true, decide_eq_true_eq] at h
      rw [runT_if, runT_if, ht.2.2 vr qv.1 qv.2]
      by_cases h0 : r.1.getD vr.toNat 0 = 0
      · rw [if_pos h0, if_pos h0]
        exact go el h.2 r r' ⟨ht, hs⟩
      · rw [if_neg h0, if_neg h0]
        exact go th h.1.2 r r' ⟨ht, hs⟩
    · rw [if_neg k2] at h; cases h
theorem runL_vars {row : List Int} {k : Nat} (hr : rowB row k = true) {n : Nat} {d : Int} : ∀ (l : List (TStep n)), l.all (stepB k n d) = true → ∀ r r', RRn k row r r' → RRn k row (runL n l r) (runL n (l.map (mapT (turnS row) n)) r')
  | [], _, r, r', hr' => hr'
  | a :: l, hl, r, r', hr' => by
    rw [List.all_cons, Bool.and_eq_true] at hl
    have q1 := runT_vars hr n d a r r' hl.1 hr'
    have := runL_vars hr l hl.2 _ _ q1
    simpa only [runL, List.map_cons, List.foldl_cons] using this
theorem runOf_vars {n : Nat} {ls : List (Int × Int)} {l : List (TStep n)} {row nums nums' : List Int} (h : progB n (ls, l) = true) (hr : rowB row ls.length = true) (hN : numsB n (ls, l) nums = true) (hN' : numsB n (turnL row ls, l.map (mapT (turnS row) n)) nums' = true) (ht : TRn ls.length row nums nums') :
    RRn ls.length row (runOf n (ls, l) nums) (runOf n (turnL row ls, l.map (mapT (turnS row) n)) nums') := by
  unfold runOf
  rw [if_pos hN, if_pos hN']
  have hs := h
  simp only [progB, Bool.and_eq_true] at hs
  exact runL_vars (row := row) hr l hs.1.2 (nums, [], []) (nums', [], []) ⟨ht, rfl⟩
set_option maxHeartbeats 4000000 in
theorem lawTVR_ok {F : Nat → Option IFn} {f : Nat} (hf : F f = some c_lawTVR) (gd : DrawNumsOk F 21) (gs : TurnPOk F 12 (fun k => k) turnL turnS) (gi : TurnPOk F 15 (fun k => k) turnL turnS) (gl : SamePOk F 22) (gr : RunOk F 32) (gtl : ToldOk F 34) (gli : IntsOk F 33) : LawB2 F f := by
  intro H v wv code more hv hw
  have hv0 := hv
  have hw0 := hw
  obtain ⟨h0, a, rfl, _⟩ := hv
  obtain ⟨h00, am, rfl, _⟩ := hw
  refine QC.mk hf rfl ?_
  refine seq_reg ?_
  simp only [go_sem, binC]
  refine seq_assoc (seq_reg ?_)
  simp only [go_sem, binC]
  by_cases hbig : 1048576 < (code.length : Int)
  · simp only [go_sem, binC, decide_eq_true hbig]
    refine seq_cond (t := true) (by simp only [go_sem, binC]) ?_
    simp only [go_sem, binC]
    refine seq_assoc (seq_reg ?_)
    simp only [go_sem, binC]
    exact seq_ret ⟨Or.inr rfl, .bool true, by simp only [go_sem, binC], rfl, rfl⟩
  simp only [go_sem, binC, decide_eq_false hbig]
  by_cases hbigm : 1048576 < (more.length : Int)
  · simp only [go_sem, binC, decide_eq_true hbigm]
    refine seq_cond (t := true) (by simp only [go_sem, binC]) ?_
    simp only [go_sem, binC]
    refine seq_assoc (seq_reg ?_)
    simp only [go_sem, binC]
    exact seq_ret ⟨Or.inr rfl, .bool true, by simp only [go_sem, binC], rfl, rfl⟩
  simp only [go_sem, binC, decide_eq_false hbigm]
  refine seq_cond (t := false) (by simp only [go_sem, binC]) ?_
  simp only [go_sem, binC]
  refine seq_skip (seq_reg ?_)
  simp only [go_sem, binC]
  obtain ⟨d, lv, sv, nv, ls, l, row, H1, k, hx, r1, r2, r3, r4⟩ := gd H _ code hv0
  have hl1 := hx.1
  obtain ⟨_, la0, rfl, _⟩ := id r1
  have osv : one sv = true := by obtain ⟨_, a, rfl, _⟩ := r2; rfl
  obtain ⟨_, na0, rfl, _⟩ := id r4
  refine op_callK (by simp only [go_sem, binC]; exact k) ?_
  simp only [go_sem, binC, osv]
  refine ⟨by omega, ?_⟩
  refine wpc_gen fun H2 hH2 => ?_
  have hb : H2[H1.length]? = some ⟨[.slice la0 ls.length ls.length, sv], 0, 0, false, true⟩ := hH2 ▸ get_new0 _ _
  have hy : AgX [] H1 H2 := hH2 ▸ AgX.app [] _ _
  have hl2 : H2.length = H1.length + 1 := by rw [hH2, List.length_append]; rfl
  replace r1 := r1.mono (agx_sub hy)
  replace r2 := r2.mono (agx_sub hy)
  replace r4 := r4.mono (agx_sub hy)
  clear hH2
  have hls0 : ls.length ≤ 1048576 := r3.1.1
  have hOs : (Co.prog d).sm (turnO d (fun k => k) turnL turnS ls l row) := turnO_sm r3 (by simp [turnL_len])
  refine seq_reg ?_
  simp only [go_sem, binC, gc_of hb, inBlk_some, osv]
  obtain ⟨lw, sw, H3, k3, x3, w1, w2⟩ := gs H2 d _ _ _ ls l row r1 r2 r3 r4
  obtain ⟨_, lwa, rfl, _⟩ := id w1
  have osw : one sw = true := by obtain ⟨_, a, rfl, _⟩ := w2; rfl
  have hl3 := x3.1
  refine op_callK (by simp only [go_sem, binC]; exact k3) ?_
  simp only [go_sem, binC, osw]
  refine ⟨by omega, ?_⟩
  refine wpc_gen fun H4 hH4 => ?_
  have x4 : AgX [] H3 H4 := hH4 ▸ AgX.app [] _ _
  have hbw : H4[H3.length]? = some ⟨[.slice lwa (turnO d (fun k => k) turnL turnS ls l row).1.length (turnO d (fun k => k) turnL turnS ls l row).1.length, sw], 0, 0, false, true⟩ := hH4 ▸ get_new0 _ _
  have hl4 : H4.length = H3.length + 1 := by rw [hH4, List.length_append]; rfl
  clear hH4
  have x24 := x3.tr x4
  have hb4 := x24.get hb (by simp)
  replace w1 := w1.mono (agx_sub x4)
  replace w2 := w2.mono (agx_sub x4)
  replace r1 := r1.mono (agx_sub x24)
  replace r2 := r2.mono (agx_sub x24)
  replace r4 := r4.mono (agx_sub x24)
  refine seq_reg ?_
  simp only [go_sem, binC, gc_of hb4, inBlk_some, osv]
  obtain ⟨lq, sq, H5, k5, x5, q1, q2⟩ := gi H4 d _ _ _ ls l row r1 r2 r3 r4
  obtain ⟨_, lqa, rfl, _⟩ := id q1
  have osq : one sq = true := by obtain ⟨_, a, rfl, _⟩ := q2; rfl
  have hl5 := x5.1
  refine op_callK (by simp only [go_sem, binC]; exact k5) ?_
  simp only [go_sem, binC, osq]
  refine ⟨by omega, ?_⟩
  refine wpc_gen fun H6 hH6 => ?_
  have x6 : AgX [] H5 H6 := hH6 ▸ AgX.app [] _ _
  have hbq : H6[H5.length]? = some ⟨[.slice lqa (turnO d (fun k => k) turnL turnS ls l row).1.length (turnO d (fun k => k) turnL turnS ls l row).1.length, sq], 0, 0, false, true⟩ := hH6 ▸ get_new0 _ _
  have hl6 : H6.length = H5.length + 1 := by rw [hH6, List.length_append]; rfl
  clear hH6
  have x46 := x5.tr x6
  have hb6 := x46.get hb4 (by simp)
  have hbw6 := x46.get hbw (by simp)
  replace q1 := q1.mono (agx_sub x6)
  replace q2 := q2.mono (agx_sub x6)
  replace w1 := w1.mono (agx_sub x46)
  replace w2 := w2.mono (agx_sub x46)
  replace r1 := r1.mono (agx_sub x46)
  replace r2 := r2.mono (agx_sub x46)
  replace r4 := r4.mono (agx_sub x46)
  have hEq : QC F 22 [.agg #[.slice lqa (turnO d (fun k => k) turnL turnS ls l row).1.length (turnO d (fun k => k) turnL turnS ls l row).1.length, sq], .agg #[.slice lwa (turnO d (fun k => k) turnL turnS ls l row).1.length (turnO d (fun k => k) turnL turnS ls l row).1.length, sw]] H6 (.bool true) := gl H6 d _ _ _ _ _ _ q1 q2 w1 w2 hOs
  have hx26 : AgX [] H2 H6 := x24.tr x46
  clear k k3 k5
  refine seq_assoc (seq_reg ?_)
  cases hB : turnB d (fun k => k) ls l row with
  | false =>
    simp only [go_sem, binC, hB, beq_self_eq_true, gc_of hbq, gc_of hbw6, inBlk_some, osq, osw]
    refine op_callQ (by simp only [go_sem, binC]; exact hEq) ?_
    simp only [go_sem, binC, hB]
    refine seq_cond (t := true) rfl ?_
    simp only [go_sem, binC]
    refine seq_assoc (seq_reg ?_)
    simp only [go_sem, binC, hB, beq_self_eq_true, gc_of hbq, gc_of hbw6, inBlk_some, osq, osw]
    refine op_callQ (by simp only [go_sem, binC]; exact hEq) ?_
    simp only [go_sem, binC]
    exact seq_ret ⟨Or.inr rfl, .bool true, by simp only [go_sem, binC], rfl, rfl⟩
  | true =>
  simp only [go_sem, binC, hB, beq_self_eq_true, gc_of hbq, gc_of hbw6, inBlk_some, osq, osw]
  refine op_callQ (by simp only [go_sem, binC]; exact hEq) ?_
  simp only [go_sem, binC, hB]
  refine seq_cond (t := false) rfl ?_
  simp only [go_sem, binC]
  have hPR : (progB d (ls, l) && rowB row ls.length) = true := hB
  rw [Bool.and_eq_true] at hPR
  obtain ⟨hP, hR⟩ := hPR
  have hO : turnO d (fun k => k) turnL turnS ls l row = (turnL row ls, l.map (mapT (turnS row) d)) := if_pos hB
  clear hEq w1 w2 hbw6 hbw
  rw [hO] at q1 q2 hbq hOs
  simp only at q1 q2 hbq
  have hls4 : ls.length ≤ 4 := by
    have := hP
    simp only [progB, Bool.and_eq_true, decide_eq_true_eq] at this; have := this.1.1.1; omega
  obtain ⟨hr1, hr2, hr3⟩ := rowB_iff.1 hR
  have hlH6 : H.length ≤ H6.length := by have := hx26.1; omega
  refine seq_skip (seq_reg ?_)
  simp only [go_sem, binC]
  refine wpc_gen fun H7 hH7 => ?_
  have x7 : AgX [] H6 H7 := hH7 ▸ AgX.app [] _ _
  have hO7 : OwnL Co.int 1 3 H6.length [] H7 H6.length true [] := hH7 ▸ OwnG.nil (Nat.le_refl _)
  have hl7 : H7.length = H6.length + 1 := by rw [hH7, List.length_append]; rfl
  clear hH7
  have hb7 := x7.get hb6 (by simp)
  refine seq_reg ?_
  simp only [go_sem, binC, gc_of hb7, inBlk_some]
  refine ⟨by omega, ?_⟩
  simp only [go_sem, binC, Int.toNat_natCast, rep_ints]
  refine wpc_gen fun H8 hH8 => ?_
  have x8 : AgX [] H7 H8 := hH8 ▸ AgX.app [] _ _
  have hbt : H8[H7.length]? = some ⟨ints (List.replicate ls.length 0), 1, 3, true, true⟩ := hH8 ▸ get_new0 _ _
  clear hH8
  have hO8 : OwnL Co.int 1 3 H6.length [H7.length] H8 H6.length true [] := hO7.sub x8 (by simp) fun b' h1 h2 h3 _ => ⟨by simp, by simp; omega⟩
  refine seq_assoc (seq_reg ?_)
  simp only [go_sem, binC]
  refine seq_block (wpc_loop ?_)
  suffices hh : ∀ (k i : Nat) (e : Env) (Hc : Heap) (b : Nat) (so : Bool) (cur : List Int), i + k = ls.length → AgX [] H6 Hc → b ≠ H7.length → OwnL Co.int 1 3 H6.length [H7.length] Hc b so (nmL more.length i) → Hc[H7.length]? = some ⟨ints cur, 1, 3, true, true⟩ → cur.length = ls.length → (∀ x ∈ cur, 0 ≤ x ∧ x ≤ 9) → (∀ j (h : j < row.length), j < i → cur[row[j].toNat]? = some (((more.length : Int) + (j : Int) * 3) % 10)) → e 1 = .slice am more.length more.length → e 5 = ptr H1.length 0 → e 6 = .slice na0 row.length row.length → e 9 = ptr H5.length 0 → e 11 = sli b 0 i → e 12 = sli H7.length 0 ls.length → e 13 = .int .i64 i → W F H.length _ e Hc _ from
    hh ls.length 0 _ H8 H6.length true (List.replicate ls.length 0) (by omega) (x7.tr x8) (by omega) hO8 hbt (by simp) (by simp) (fun j _ h => by omega) (by simp only [go_sem, binC]) (by simp only [go_sem, binC]) (by simp only [go_sem, binC]) (by simp only [go_sem, binC]) (by simp only [go_sem, binC]) (by (simp only [go_sem, binC]) <;> rfl) (by (simp only [go_sem, binC]) <;> rfl)
  intro k
  induction k with
  | succ k ih =>
    intro i e Hc b so cur hi hxc hbne hOc hbtc hcl hcr hcur e1 e5 e6 e9 e11 e12 e13
    have hil : i < ls.length := by omega
    have hir : i < row.length := by omega
    have hw1 : IntKind.i64.wrap ((i : Int) + 1) = ((i + 1 : Nat) : Int) := by rw [wrap_id (by omega) (by omega)]; omega
    have hw3 : IntKind.i64.wrap ((i : Int) * 3) = (i : Int) * 3 := wrap_id (by omega) (by omega)
    have hwa : IntKind.i64.wrap ((more.length : Int) + (i : Int) * 3) = (more.length : Int) + (i : Int) * 3 := wrap_id (by omega) (by omega)
    have hrm := binI_remJ (x := (more.length : Int) + (i : Int) * 3) (by omega)
    have hbc := hxc.get hb6 (by simp)
    have hHc := hxc.1
    have hbtl := (List.getElem?_eq_some_iff.1 hbtc).1
    refine lp_step ?_
    refine seq_assoc (seq_reg ?_)
    simp only [go_sem, binC, e5, e13, gc_of hbc, inBlk_some]
    refine seq_cond (t := true) (by simp only [go_sem, binC]; rw [decide_eq_true (by omega)]) ?_
    simp only [go_sem, binC]
    refine seq_skip (seq_block (seq_reg ?_))
    simp only [go_sem, binC, e1, e11, e13, hw3, hwa, hrm]
    refine op_app_own (A := Co.int) (lo := H6.length) (a := ((more.length : Int) + (i : Int) * 3) % 10) hOc (by simp only [go_sem, binC, e11, nmL_len]) (by (simp only [go_sem, binC]) <;> rfl) (by omega) rfl ⟨rfl, by omega, by omega⟩ (by rw [nmL_len]; omega) (by omega) (by simp; omega) fun H9 hx9 hO9 => ?_
    simp only [go_sem, binC]
    rw [nmL_succ] at hO9
    have hbl := hOc.1
    have hxc9 : AgX [] H6 H9 := hxc.trans hx9 (fun _ h _ => h) (fun b' h1 h2 => by simp only [List.mem_singleton] at h1; omega)
    have hbt9 := hx9.get hbtc (by simpa using fun h => hbne h.symm)
    have hbt9l := (List.getElem?_eq_some_iff.1 hbt9).1
    have hr9 := r4.mono (agx_sub hxc9)
    obtain ⟨rb, ro, hrv, hrg⟩ := gcI hr9 hir
    simp only [Value.slice.injEq, and_true] at hrv
    subst hrv
    have hn9 : SlR Co.int (vw 0 H9) (sli (Hc.length + 1) 0 (nmL more.length (i + 1)).length) (nmL more.length (i + 1)) := (hO9.slR rfl (by simp; omega)).mono (vwl0 _ _ _)
    obtain ⟨nb, no, hnv, hng⟩ := gcI hn9 (i := i) (by rw [nmL_len]; omega)
    simp only [sli, Value.slice.injEq, Option.some.injEq, Addr.mk.injEq, and_true] at hnv
    obtain ⟨rfl, rfl⟩ := hnv
    rw [Nat.zero_add] at hng
    have hnmi : (nmL more.length (i + 1))[i]'(by rw [nmL_len]; omega) = ((more.length : Int) + (i : Int) * 3) % 10 := by simp [nmL]
    rw [hnmi] at hng
    have hri := hr2 _ (List.getElem_mem hir)
    have hrn : row[i].toNat < cur.length := by omega
    rw [nmL_len]
    refine wpc_regD ?_
    simp only [go_sem, binC, e6, e12, e13]
    refine ⟨⟨by omega, by omega⟩, ?_⟩
    simp only [go_sem, binC, Int.toNat_natCast, Nat.mul_one, hrg, sli]
    refine ⟨⟨by omega, by omega⟩, ?_⟩
    simp only [go_sem, binC, Int.toNat_natCast, Nat.mul_one, hng, sli, e12]
    refine ⟨⟨by omega, by omega⟩, ?_⟩
    simp only [go_sem, binC, hbt9, ints_len, ints_set, ptr]
    refine ⟨⟨by omega, by omega⟩, ?_⟩
    simp only [go_sem, binC, out_n, thenX_n]
    generalize hnm : ((more.length : Int) + (i : Int) * 3) % 10 = nv at hng
    have hxs : AgX [H7.length] H9 (H9.set H7.length ⟨ints (cur.set row[i].toNat nv), 1, 3, true, true⟩) := AgX.set _ _ _
    have hO10 := hO9.sub (xs' := [H7.length]) hxs (by simp; omega) fun b' h1 h2 h3 h4 => ⟨by simpa using h4, h4⟩
    refine wpc_reg ?_
    simp only [go_sem, binC, e13, hw1]
    simp only [go_sem, binC, thenX_n]
    refine ih (i + 1) _ _ (Hc.length + 1) _ (cur.set row[i].toNat nv) (by omega) (hxc9.setN (by omega) _) (by omega) hO10 (List.getElem?_set_self hbt9l) (by rw [List.length_set]; exact hcl) (fun x hx => ?_) (fun j hj hji2 => ?_) (by simp only [go_sem, binC, e1]) (by simp only [go_sem, binC, e5]) (by simp only [go_sem, binC, e6]) (by simp only [go_sem, binC, e9]) (by simp only [go_sem, binC, sli]) (by simp only [go_sem, binC, e12, sli]) (by simp only [go_sem, binC])
    · rcases List.mem_or_eq_of_mem_set hx with h | rfl
      · exact hcr x h
      · omega
    · rw [List.getElem?_set]
      by_cases hji : j = i
      · subst hji
        rw [if_pos rfl, if_pos hrn, hnm]
      · have hne2 : row[i].toNat ≠ row[j].toNat := fun h => by
          have q1 := hr2 _ (List.getElem_mem hj)
          exact hji ((List.getElem_inj hr3).1 (show row[j] = row[i] by omega))
        rw [if_neg hne2]
        exact hcur j hj (by omega)
  | zero =>
    intro i e Hc b so cur hi hxc hbne hOc hbtc hcl hcr hcur e1 e5 e6 e9 e11 e12 e13
    obtain rfl : i = ls.length := by omega
    have hbc := hxc.get hb6 (by simp)
    have hbqc := hxc.get hbq (by simp)
    refine lp_step ?_
    refine seq_assoc (seq_reg ?_)
    simp only [go_sem, binC, e5, e13, gc_of hbc, inBlk_some]
    refine seq_cond (t := false) (by simp only [go_sem, binC]; rw [decide_eq_false (by omega)]) ?_
    simp only [go_sem, binC]
    refine seq_exit ?_
    simp only [go_sem, binC, thenX_e, out_e, thenX_n]
    have hHc := hxc.1
    have rowN : SlR Co.int (vw 0 Hc) (sli b 0 (nmL more.length ls.length).length) (nmL more.length ls.length) := (hOc.slR rfl (by simpa using hbne)).mono (vwl0 _ _ _)
    rw [nmL_len] at rowN
    have rowT : SlR Co.int (vw 0 Hc) (sli H7.length 0 cur.length) cur := ints_sl0 hbtc (fun x hx => by have := hcr x hx; unfold RgI; omega) (by omega)
    rw [hcl] at rowT
    have hN := numsB_nm hP more.length
    have hbd := RunOk.bd (nums := nmL more.length ls.length) hP r3
    have hPq := turnV_ok hP hR
    have hNq : numsB d (turnL row ls, l.map (mapT (turnS row) d)) cur = true := by
      unfold numsB
      rw [hPq, turnL_len, hcl]
      simp only [decide_true, Bool.true_and, Bool.and_true, List.all_eq_true]
      exact fun x hx => inB_iff.2 (hcr x hx)
    have hTR : TRn ls.length row (nmL more.length ls.length) cur := by
      refine ⟨nmL_len _ _, hcl, fun x hx1 hx2 => ?_⟩
      obtain ⟨hxl, hxe, hxb⟩ := nameO_get hR ⟨hx1, hx2⟩
      rw [hxe, List.getD_eq_getElem?_getD, hcur x.toNat hxl (by omega), Option.getD_some, List.getD_eq_getElem?_getD]
      unfold nmL
      rw [List.getElem?_map, List.getElem?_range (by omega)]
      rfl
    obtain ⟨hT1, hT2⟩ := runOf_vars hP hR hN hNq hTR
    have hbdq := RunOk.bd (nums := cur) hPq hOs
    generalize nmL more.length ls.length = nums at rowN hN hbd hTR hT1 hT2
    obtain ⟨nx, wx, tx, H9, k9, x9, s1, s2, s3⟩ := gr Hc d _ _ _ ls l nums (r1.mono (agx_sub hxc)) (r2.mono (agx_sub hxc)) r3 rowN
    rw [hN] at k9
    obtain ⟨_, nxa, rfl, _⟩ := id s1
    obtain ⟨_, wxa, rfl, _⟩ := id s2
    obtain ⟨_, txa, rfl, _⟩ := id s3
    have hl9 := x9.1
    refine seq_reg ?_
    simp only [go_sem, binC, e5, e11, gc_of hbc, inBlk_some, osv]
    refine op_callK (by simp only [go_sem, binC, e11]; exact k9) ?_
    simp only [go_sem, binC]
    refine ⟨by omega, ?_⟩
    refine wpc_gen fun H10 hh => ?_
    have x10 : AgX [] H9 H10 := hh ▸ AgX.app [] _ _
    have hbx := (hh ▸ get_new0 _ _ : H10[H9.length]? = some ⟨[.slice nxa (runOf d (ls, l) nums).1.length (runOf d (ls, l) nums).1.length, .slice wxa (runOf d (ls, l) nums).2.1.length (runOf d (ls, l) nums).2.1.length, .slice txa (runOf d (ls, l) nums).2.2.length (runOf d (ls, l) nums).2.2.length], 0, 0, false, true⟩)
    clear hh
    have xc10 := x9.tr x10
    have hx610 := hxc.tr xc10
    have hbq10 := xc10.get hbqc (by simp)
    have hl10 := x10.1
    obtain ⟨ny, wy, ty, H11, k11, x11, u1, u2, u3⟩ := gr H10 d _ _ _ _ _ cur (q1.mono (agx_sub hx610)) (q2.mono (agx_sub hx610)) hOs (rowT.mono (agx_sub xc10))
    rw [hNq] at k11
    obtain ⟨_, nya, rfl, _⟩ := id u1
    obtain ⟨_, wya, rfl, _⟩ := id u2
    obtain ⟨_, tya, rfl, _⟩ := id u3
    have hl11 := x11.1
    refine seq_reg ?_
    simp only [go_sem, binC, e9, e12, gc_of hbq10, inBlk_some, osq]
    refine op_callK (by simp only [go_sem, binC, e12]; exact k11) ?_
    simp only [go_sem, binC]
    refine ⟨by omega, ?_⟩
    refine wpc_gen fun H12 hh => ?_
    have x12 : AgX [] H11 H12 := hh ▸ AgX.app [] _ _
    generalize hmr : runOf d (turnL row ls, l.map (mapT (turnS row) d)) cur = mr at *
    have hby := (hh ▸ get_new0 _ _ : H12[H11.length]? = some ⟨[.slice nya mr.1.length mr.1.length, .slice wya mr.2.1.length mr.2.1.length, .slice tya mr.2.2.length mr.2.2.length], 0, 0, false, true⟩)
    clear hh
    have x1012 := x11.tr x12
    have hbx12 := x1012.get hbx (by simp)
    have x612 := hx610.tr x1012
    have hx9_12 := x10.tr x1012
    replace s1 := s1.mono (agx_sub hx9_12)
    replace s2 := s2.mono (agx_sub hx9_12)
    replace s3 := s3.mono (agx_sub hx9_12)
    replace u1 := u1.mono (agx_sub x12)
    replace u2 := u2.mono (agx_sub x12)
    replace u3 := u3.mono (agx_sub x12)
    have rr := r4.mono (agx_sub x612)
    clear k9 k11 hN hNq hmr
    generalize runOf d (ls, l) nums = rx at *
    obtain ⟨hT0, hT1, hTg⟩ := hT1
    refine seq_assoc (seq_reg ?_)
    simp only [go_sem, binC]
    refine seq_block (wpc_loop ?_)
    suffices hh : ∀ (m j : Nat) (e : Env), j + m = row.length → e 6 = .slice na0 row.length row.length → e 14 = ptr H9.length 0 → e 15 = .bool true → e 16 = ptr H11.length 0 → e 17 = .bool true → e 18 = .int .i64 j → W F H.length _ e H12 _ from
      hh row.length 0 _ (by omega) (by simp only [go_sem, binC, e6]) (by simp only [go_sem, binC]) (by simp only [go_sem, binC]) (by simp only [go_sem, binC]) (by simp only [go_sem, binC]) (by (simp only [go_sem, binC]) <;> rfl)
    intro m
    induction m with
    | succ m ihm =>
      intro j e hj f6 f14 f15 f16 f17 f18
      have hw2 : IntKind.i64.wrap ((j : Int) + 1) = ((j + 1 : Nat) : Int) := by rw [wrap_id (by omega) (by omega)]; omega
      have hjr : j < row.length := by omega
      have hjx : j < rx.1.length := by omega
      obtain ⟨rb, ro, hrv, hrg⟩ := gcI rr hjr
      simp only [Value.slice.injEq, and_true] at hrv
      subst hrv
      have hrj := hr2 _ (List.getElem_mem hjr)
      have hjy : row[j].toNat < mr.1.length := by omega
      obtain ⟨yb, yo, hyv, hyg⟩ := gcI u1 hjy
      simp only [Value.slice.injEq, and_true] at hyv
      subst hyv
      obtain ⟨xb, xo, hxv, hxg⟩ := gcI s1 hjx
      simp only [Value.slice.injEq, and_true] at hxv
      subst hxv
      have hsame : mr.1[row[j].toNat] = rx.1[j] := by
        have h1 := hTg (j : Int) (by omega) (by omega)
        have h2 : nameO row (j : Int) = row[j] := (nameO_get hR (x := (j : Int)) (by omega)).2.1.trans (by congr 1)
        rw [h2, Int.toNat_natCast, getD_int hjy, getD_int hjx] at h1
        exact h1
      refine lp_step ?_
      refine seq_assoc (seq_reg ?_)
      simp only [go_sem, binC, f6, f18]
      refine seq_cond (t := true) (by simp only [go_sem, binC]; rw [decide_eq_true (by omega)]) ?_
      simp only [go_sem, binC]
      refine seq_skip (seq_block (seq_regD ?_))
      simp only [go_sem, binC, f6, f14, f16, f18, gc_of hby, gc_of hbx12, inBlk_some]
      refine ⟨⟨by omega, by omega⟩, ?_⟩
      simp only [go_sem, binC, Int.toNat_natCast, Nat.mul_one, hrg]
      refine ⟨⟨by omega, by omega⟩, ?_⟩
      simp only [go_sem, binC, Int.toNat_natCast, Nat.mul_one, hyg, f14, f18, gc_of hbx12, inBlk_some]
      refine ⟨⟨by omega, by omega⟩, ?_⟩
      simp only [go_sem, binC, Int.toNat_natCast, Nat.mul_one, hxg, bne_f hsame]
      refine wpc_cond (t := false) rfl ?_
      simp only [go_sem, binC]
      refine wpc_skip ?_
      simp only [go_sem, binC, out_n, thenX_n]
      refine wpc_reg ?_
      simp only [go_sem, binC, f18, hw2]
      simp only [go_sem, binC, thenX_n]
      exact ihm (j + 1) _ (by omega) (by simp only [go_sem, binC, f6]) (by simp only [go_sem, binC, f14]) (by simp only [go_sem, binC, f15]) (by simp only [go_sem, binC, f16]) (by simp only [go_sem, binC, f17]) (by simp only [go_sem, binC])
    | zero =>
      intro j e hj f6 f14 f15 f16 f17 f18
      refine lp_step ?_
      refine seq_assoc (seq_reg ?_)
      simp only [go_sem, binC, f6, f18]
      refine seq_cond (t := false) (by simp only [go_sem, binC]; rw [decide_eq_false (by omega)]) ?_
      simp only [go_sem, binC]
      refine seq_exit ?_
      simp only [go_sem, binC, thenX_e, out_e, thenX_n]
      refine seq_assoc (seq_reg ?_)
      simp only [go_sem, binC]
      refine seq_block (wpc_loop ?_)
      suffices hh : ∀ (m j : Nat) (e : Env) (Hd : Heap), j + m = 3 → AgX [] H12 Hd → e 14 = ptr H9.length 0 → e 15 = .bool true → e 16 = ptr H11.length 0 → e 17 = .bool true → e 19 = .int .i64 j → W F H.length _ e Hd _ from
        hh 3 0 _ H12 rfl (AgX.refl _ _) (by simp only [go_sem, binC, f14]) (by simp only [go_sem, binC, f15]) (by simp only [go_sem, binC, f16]) (by simp only [go_sem, binC, f17]) (by (simp only [go_sem, binC]) <;> rfl)
      clear hj f6 f14 f15 f16 f17 f18
      intro m
      induction m with
      | zero =>
        intro j e Hd hj hxd f14 f15 f16 f17 f19
        obtain rfl : j = 3 := hj
        have hd3 : decide (((3 : Nat) : Int) < 3) = false := rfl
        refine lp_step ?_
        refine seq_assoc (seq_reg ?_)
        simp only [go_sem, binC, f19, hd3]
        refine seq_cond (t := false) (by simp only [go_sem, binC]) ?_
        simp only [go_sem, binC]
        refine seq_exit ?_
        simp only [go_sem, binC, thenX_e, out_e, thenX_n]
        refine seq_reg ?_
        simp only [go_sem, binC, f15, f17]
        exact wpc_ret ⟨Or.inr rfl, .bool true, by simp only [go_sem, binC], rfl, rfl⟩
      | succ m ihm =>
        intro j e Hd hj hxd f14 f15 f16 f17 f19
        have hw2 : IntKind.i64.wrap ((j : Int) + 1) = ((j + 1 : Nat) : Int) := by rw [wrap_id (by omega) (by omega)]; omega
        have hdj : decide ((j : Int) < 3) = true := decide_eq_true (by omega)
        have hbxd := hxd.get hbx12 (by simp)
        refine lp_step ?_
        refine seq_assoc (seq_reg ?_)
        simp only [go_sem, binC, f19, hdj]
        refine seq_cond (t := true) (by simp only [go_sem, binC]) ?_
        simp only [go_sem, binC]
        refine seq_skip (seq_block (seq_regD ?_))
        simp only [go_sem, binC, f14, f19, gc_of hbxd, inBlk_some]
        obtain ⟨za, H13, k13, x13, z13⟩ := gtl Hd (.slice nxa rx.1.length rx.1.length) (.slice wxa rx.2.1.length rx.2.1.length) (.slice txa rx.2.2.length rx.2.2.length) rx j rfl rfl (s3.mono (agx_sub hxd)) hbd (p2_rg s3)
        refine op_callK (by simp only [go_sem, binC]; exact k13) ?_
        have hbyd := (hxd.tr x13).get hby (by simp)
        simp only [go_sem, binC, f16, f19, gc_of hbyd, inBlk_some]
        obtain ⟨zb, H14, k14, x14, z14⟩ := gtl H13 (.slice nya mr.1.length mr.1.length) (.slice wya mr.2.1.length mr.2.1.length) (.slice tya mr.2.2.length mr.2.2.length) mr j rfl rfl (u3.mono (agx_sub (hxd.tr x13))) hbdq (p2_rg u3)
        refine op_callK (by simp only [go_sem, binC]; exact k14) ?_
        simp only [go_sem, binC]
        have hin := gli H14 _ _ _ _ (z13.mono (agx_sub x14)) z14
        rw [decide_eq_true (by rw [hT2])] at hin
        refine op_callQ (by simp only [go_sem, binC]; exact hin) ?_
        simp only [go_sem, binC]
        refine wpc_cond (t := false) rfl ?_
        simp only [go_sem, binC]
        refine wpc_skip ?_
        simp only [go_sem, binC, out_n, thenX_n]
        refine wpc_reg ?_
        simp only [go_sem, binC, f19, hw2]
        simp only [go_sem, binC, thenX_n]
        exact ihm (j + 1) _ H14 (by omega) (hxd.tr (x13.tr x14)) (by simp only [go_sem, binC, f14]) (by simp only [go_sem, binC, f15]) (by simp only [go_sem, binC, f16]) (by simp only [go_sem, binC, f17]) (by simp only [go_sem, binC])
end Go.Proofs.YtemnemmnfnpnoaaI
end
