/- Texts of this proof, merged: H9, H10, H11, H12, H13, H14, H14B, K6, H22, GL30, BL30. -/
import Derived.Test.YtiekbdijpfnagaaPv10
import Derived.Test.YtiekbdijpfnagaaPv11
import Derived.Test.YtiekbdijpfnagaaRows
section
/- Variables named otherwise (the reference's). -/
set_option linter.unusedVariables false
set_option linter.unusedSimpArgs false
namespace Go.Proofs.YtiekbdijpfnagaaI
open Go Go.RowKit
def c_sTurnVars : IFn := ⟨2, 48, [.cell true 2 4, .t 5],
 .seq (.reg none [
    ⟨(some 2), none, .box (.t 0)⟩,
    ⟨(some 4), none, .new [(.slice none 0 0), (.slice none 0 0)]⟩,
    ⟨(some 5), none, .mov (.c (.bool false))⟩])
 (.seq (.seq (.reg none [
     ⟨(some 8), none, .load true 2 (.t 2)⟩,
     ⟨(some 9), none, .call .q (.f 57) [(.t 8)]⟩,
     ⟨(some 10), none, .un .not (.t 9)⟩,
     ⟨(some 11), none, .mov (.t 10)⟩,
     ⟨(some 12), (some (11, false)), .mov (.t 1)⟩,
     ⟨(some 13), (some (11, false)), .fad 0 (.t 2)⟩,
     ⟨(some 14), (some (11, false)), .load false 1 (.t 13)⟩,
     ⟨(some 15), (some (11, false)), .len (.t 14)⟩,
     ⟨(some 16), (some (11, false)), .call .q (.f 87) [(.t 12), (.t 15)]⟩,
     ⟨(some 17), (some (11, false)), .un .not (.t 16)⟩,
     ⟨(some 18), none, .pick (.t 11) (.c (.bool true)) (.t 17)⟩])
  (.cond (.t 18) (.seq (.reg none [
      ⟨(some 19), none, .build [(.slice none 0 0), (.slice none 0 0)] []⟩,
      ⟨none, none, .store 2 (.t 4) (.t 19)⟩,
      ⟨(some 5), none, .mov (.c (.bool false))⟩])
   (.ret)) (.skip)))
 (.seq (.reg (some 10) [
    ⟨(some 20), none, .fad 0 (.t 2)⟩,
    ⟨(some 21), none, .load false 1 (.t 20)⟩,
    ⟨(some 22), none, .len (.t 21)⟩,
    ⟨(some 23), none, .mks 2 38 16 [(.int .i64 0), (.int .i64 0)] (.t 22) (.t 22)⟩,
    ⟨(some 24), none, .fad 1 (.t 2)⟩,
    ⟨(some 25), none, .load false 1 (.t 24)⟩,
    ⟨(some 26), none, .mov (.t 1)⟩,
    ⟨(some 27), none, .call .k (.f 88) [(.t 25), (.t 26)]⟩,
    ⟨(some 28), none, .build [(.slice none 0 0), (.slice none 0 0)] [(0, 1, (.t 23)), (1, 1, (.t 27))]⟩,
    ⟨(some 6), none, .new [(.slice none 0 0), (.slice none 0 0)]⟩,
    ⟨none, none, .store 2 (.t 6) (.t 28)⟩])
 (.seq (.seq (.reg none [
     ⟨(some 7), none, .mov (.c (.int .i64 0))⟩])
  (.block 0 (.loop (.seq (.seq (.reg none [
        ⟨(some 29), none, .mov (.t 7)⟩,
        ⟨(some 30), none, .mov (.t 1)⟩,
        ⟨(some 31), none, .len (.t 30)⟩,
        ⟨(some 32), none, .bin .lss (.t 29) (.t 31)⟩])
     (.cond (.t 32) (.skip) (.exit 0)))
    (.seq (.block 1 (.reg (some 11) [
        ⟨(some 35), none, .fad 0 (.t 6)⟩,
        ⟨(some 36), none, .load false 1 (.t 35)⟩,
        ⟨(some 37), none, .mov (.t 1)⟩,
        ⟨(some 38), none, .mov (.t 7)⟩,
        ⟨(some 39), none, .iad 1 (.t 37) (.t 38)⟩,
        ⟨(some 40), none, .load false 1 (.t 39)⟩,
        ⟨(some 41), none, .fad 0 (.t 2)⟩,
        ⟨(some 42), none, .load false 1 (.t 41)⟩,
        ⟨(some 43), none, .mov (.t 7)⟩,
        ⟨(some 44), none, .iad 2 (.t 42) (.t 43)⟩,
        ⟨(some 45), none, .load true 2 (.t 44)⟩,
        ⟨(some 46), none, .iad 2 (.t 36) (.t 40)⟩,
        ⟨none, none, .store 2 (.t 46) (.t 45)⟩]))
    (.reg none [
      ⟨(some 33), none, .mov (.t 7)⟩,
      ⟨(some 34), none, .bin .add (.t 33) (.c (.int .i64 1))⟩,
      ⟨(some 7), none, .mov (.t 34)⟩]))))))
 (.seq (.reg none [
    ⟨(some 47), none, .load true 2 (.t 6)⟩,
    ⟨none, none, .store 2 (.t 4) (.t 47)⟩,
    ⟨(some 5), none, .mov (.c (.bool true))⟩])
 (.ret)))))⟩
theorem blk_slP {es et b : Nat} {ap so : Bool} {H : Heap} {l : List (Int × Int)} (h : H[b]? = some ⟨l.flatMap fp, es, et, ap, so⟩) (hr : ∀ p ∈ l, RgI p.1 ∧ RgI p.2) (hl : l.length ≤ 1000) : SlR Co.p2 (vw 0 H) (sli b 0 l.length) l := by
  by_cases h0 : l = []
  · subst h0; exact ⟨by simp, _, rfl, .inl rfl⟩
  · have hfl := flat_len (fl := fp) (w := 2) (fun _ => rfl) l
    refine ⟨by omega, _, rfl, .inr ⟨b, 0, rfl, fun i hi => ⟨fp l[i], ?_, ⟨[.int .i64 l[i].1], [.int .i64 l[i].2], rfl, ⟨rfl, (hr _ (List.getElem_mem hi)).1⟩, ⟨rfl, (hr _ (List.getElem_mem hi)).2⟩⟩⟩⟩⟩
    unfold rng vw
    rw [if_pos (Nat.zero_le _), h]
    simp only [Option.map_some, Nat.zero_add, show Co.p2.w = 2 from rfl]
    rw [if_pos (by omega)]
    congr 1
    have : l.flatMap fp = (l.take i).flatMap fp ++ (fp l[i] ++ (l.drop (i + 1)).flatMap fp) := by
      conv => lhs; rw [← List.take_append_drop i l, List.drop_eq_getElem_cons hi]
      rw [List.flatMap_append, List.flatMap_cons]
    rw [this]
    have hlt : ((l.take i).flatMap fp).length = i * 2 := by rw [flat_len (fl := fp) (w := 2) (fun _ => rfl), List.length_take]; omega
    rw [List.drop_append, List.drop_of_length_le (by omega), hlt, Nat.sub_self, List.nil_append, List.drop_zero]
    rfl
theorem rep_fp (n : Nat) : (List.replicate n [Value.int .i64 0, .int .i64 0]).flatten = (List.replicate n ((0, 0) : Int × Int)).flatMap fp := by
  induction n with
  | zero => rfl
  | succ n ih => rw [List.replicate_succ, List.replicate_succ, List.flatten_cons, List.flatMap_cons, ih]; rfl
theorem sTurnVars_ok {F : Nat → Option IFn} {f : Nat} (hf : F f = some c_sTurnVars) (gp : ProgOk F 57) (gr : RowOk F 87) (gv : F 88 = some c_sVars) : TurnPOk F f (fun k => k) turnL turnS := by
  intro H n lv sv w ls l row r1 r2 hsm r3
  suffices h : ∃ v H', KC F f [.agg #[lv, sv], w] H v H' ∧ (∃ lv' sv', v = .tuple #[.agg #[lv', sv'], .bool (turnB n (fun k => k) ls l row)] ∧ AgX [] H H' ∧ SlR Co.p2 (vw 0 H') lv' (turnO n (fun k => k) turnL turnS ls l row).1 ∧ SlR (Co.step n) (vw 0 H') sv' (turnO n (fun k => k) turnL turnS ls l row).2) by
    obtain ⟨_, H', h1, lv', sv', rfl, h2⟩ := h
    exact ⟨lv', sv', H', h1, h2⟩
  have osv : one sv = true := by obtain ⟨_, a, rfl, _⟩ := r2; rfl
  obtain ⟨_, la, rfl, _⟩ := id r1
  obtain ⟨_, wa, rfl, _⟩ := id r3
  have hls0 : ls.length ≤ 1048576 := hsm.1.1
  refine KC.mk hf rfl ?_
  refine seq_reg ?_
  simp only [go_sem, binC, osv]
  refine wpc_gen fun H1 hH1 => ?_
  have hx1 : AgX [] H H1 := hH1 ▸ AgX.app [] _ _
  have hb2 : H1[H.length]? = some ⟨[.slice la ls.length ls.length, sv], 0, 0, false, true⟩ := hH1 ▸ get_new0 _ _
  have hb4 : H1[H.length + 1]? = some ⟨[nilS, nilS], 0, 0, false, true⟩ := hH1 ▸ get_new _ _ 1
  have hln1 : H1.length = H.length + 2 := by rw [hH1]; simp
  clear hH1
  have r1' := r1.mono (agx_sub hx1)
  have r2' := r2.mono (agx_sub hx1)
  have r3' := r3.mono (agx_sub hx1)
  have hb4l := (List.getElem?_eq_some_iff.1 hb4).1
  refine seq_assoc (seq_reg ?_)
  simp only [go_sem, binC, gc_of hb2, inBlk_some, osv]
  refine op_callB (by simp only [go_sem, binC]; exact gp H1 n _ (ls, l) (prog_rd r1' r2') hsm) (fun hP => ?_) (fun hP => ?_)
  rotate_left
  · simp only [go_sem, binC]
    refine seq_cond (t := true) rfl ?_
    simp only [go_sem, binC]
    refine seq_assoc (seq_reg ?_)
    simp only [go_sem, binC, hb4]
    have hB : turnB n (fun k => k) ls l row = false := by simp [turnB, hP]
    have hr : turnO n (fun k => k) turnL turnS ls l row = ([], []) := if_neg (by rw [hB]; simp)
    refine seq_ret ⟨Or.inr rfl, .tuple #[.agg #[nilS, nilS], .bool false], ?_, nilS, nilS, by rw [hB], hx1.setN (by omega) _, ?_, ?_⟩
    · simp [resV, resL, res1, putE_get, notT, ptr, gc_set hb4l, inBlk_some, valOf]
    all_goals (rw [hr]; exact ⟨by simp, none, rfl, .inl rfl⟩)
  have hls : ls.length ≤ 4 := by
    have := hP
    simp only [progB, Bool.and_eq_true, decide_eq_true_eq] at this; have := this.1.1.1; omega
  simp only [go_sem, binC, gc_of hb2, inBlk_some]
  refine op_callB (by simp only [go_sem, binC]; exact gr H1 _ row ls.length (by omega) r3') (fun hR => ?_) (fun hR => ?_)
  rotate_left
  · simp only [go_sem, binC]
    refine seq_cond (t := true) rfl ?_
    simp only [go_sem, binC]
    refine seq_assoc (seq_reg ?_)
    simp only [go_sem, binC, hb4]
    have hB : turnB n (fun k => k) ls l row = false := by simp [turnB, hR]
    have hr : turnO n (fun k => k) turnL turnS ls l row = ([], []) := if_neg (by rw [hB]; simp)
    refine seq_ret ⟨Or.inr rfl, .tuple #[.agg #[nilS, nilS], .bool false], ?_, nilS, nilS, by rw [hB], hx1.setN (by omega) _, ?_, ?_⟩
    · simp [resV, resL, res1, putE_get, notT, ptr, gc_set hb4l, inBlk_some, valOf]
    all_goals (rw [hr]; exact ⟨by simp, none, rfl, .inl rfl⟩)
  have hB : turnB n (fun k => k) ls l row = true := by simp [turnB, hP, hR]
  have hO : turnO n (fun k => k) turnL turnS ls l row = (turnL row ls, l.map (mapT (turnS row) n)) := if_pos hB
  obtain ⟨hr1, hr2, hr3⟩ := rowB_iff.1 hR
  simp only [go_sem, binC]
  refine seq_cond (t := false) rfl ?_
  simp only [go_sem, binC]
  refine seq_skip (seq_regD ?_)
  simp only [go_sem, binC, gc_of hb2, inBlk_some, osv]
  refine ⟨by omega, ?_⟩
  simp only [go_sem, binC, Int.toNat_natCast, rep_fp]
  generalize hHa : H1 ++ [(⟨(List.replicate ls.length ((0, 0) : Int × Int)).flatMap fp, 2, 38, true, true⟩ : Blk)] = Ha
  have hxa : AgX [] H1 Ha := hHa ▸ AgX.app [] _ _
  have hba : Ha[H1.length]? = some ⟨(List.replicate ls.length ((0, 0) : Int × Int)).flatMap fp, 2, 38, true, true⟩ := hHa ▸ get_new0 _ _
  clear hHa
  have hb2a := hxa.get hb2 (by simp)
  simp only [go_sem, binC, gc_of hb2a, inBlk_some, osv]
  obtain ⟨bv, sov, H2, k2, hx2, o2⟩ := sVars_all gv hR (by omega) n Ha sv _ l (r2'.mono (agx_sub hxa)) hsm.2 (r3'.mono (agx_sub hxa)) (progB_okS hP)
  refine op_callK (by simp only [go_sem, binC]; exact k2) ?_
  simp only [go_sem, binC, get_new0]
  refine ⟨by have := hx1.1; have := hxa.1; have := hx2.1; omega, ?_⟩
  refine wpc_genH fun H3 hH3 => ?_
  have hx3 : AgX [] H2 H3 := hH3 ▸ AgX.app [] _ _
  have hb6 : H3[H2.length]? = some ⟨[sli H1.length 0 ls.length, sli bv 0 l.length], 0, 0, false, true⟩ := hH3 ▸ get_new0 _ _
  clear hH3 k2
  have hxa3 := hx2.tr hx3
  have hx13 := hxa.tr hxa3
  have hl2 := hx2.1
  have hl3 := hx3.1
  have hla := hxa.1
  have hba3 := hxa3.get hba (by simp)
  have hHa : Ha.length ≠ 0 := fun h => by have := (List.getElem?_eq_some_iff.1 hba).1; omega
  have hbal := (List.getElem?_eq_some_iff.1 hba).1
  have s2 : SlR (Co.step n) (vwl Ha.length [] H2) (sli bv 0 l.length) (l.map (mapT (turnS row) n)) := by
    have := o2.slR (step_w n) (by simp)
    rwa [List.length_map] at this
  have hb43 := hx13.get hb4 (by simp)
  have hb23 := hx13.get hb2 (by simp)
  refine seq_assoc (seq_reg ?_)
  simp only [go_sem, binC]
  refine seq_block (wpc_loop ?_)
  suffices h : ∀ (k i : Nat) (e : Env) (Hc : Heap) (cur : List (Int × Int)), i + k = ls.length → AgX [H1.length] H3 Hc → cur.length = ls.length → Hc[H1.length]? = some ⟨cur.flatMap fp, 2, 38, true, true⟩ → (∀ p ∈ cur, RgI p.1 ∧ RgI p.2) → (∀ j (h : j < i) (h' : j < ls.length) (h2 : j < row.length), cur[row[j].toNat]? = some ls[j]) → e 1 = .slice wa row.length row.length → e 2 = ptr H.length 0 → e 4 = ptr (H.length + 1) 0 → e 6 = ptr H2.length 0 → e 7 = .int .i64 i → W F H.length _ e Hc _ from
    h ls.length 0 _ H3 (List.replicate ls.length (0, 0)) (by omega) (AgX.refl _ _) (by simp) hba3 (fun p hp => by obtain ⟨_, rfl⟩ := List.mem_replicate.1 hp; unfold RgI; exact ⟨by omega, by omega⟩) (fun j h => by omega) (by simp only [go_sem, binC]) (by simp only [go_sem, binC]) (by simp only [go_sem, binC]) (by simp only [go_sem, binC]) (by (simp only [go_sem, binC]) <;> rfl)
  intro k
  induction k with
  | zero =>
    intro i e Hc cur hi hxc hcl hbc hrg hcur e1 e2 e4 e6 e7
    have hb6c := hxc.get hb6 (by simp; omega)
    have hb4c := hxc.get hb43 (by simp; omega)
    have hb4cl := (List.getElem?_eq_some_iff.1 hb4c).1
    have hx1c : AgX [] H1 Hc := hx13.trans hxc (fun _ h _ => h) (fun b h1 h2 => by simp only [List.mem_singleton] at h1; omega)
    have hcT : cur = turnL row ls := turnL_of hR hcl fun j h h' => hcur j (by omega) h h'
    refine lp_step ?_
    refine seq_assoc (seq_reg ?_)
    simp only [go_sem, binC, e1, e7]
    refine seq_cond (t := false) (by simp only [go_sem, binC]; rw [decide_eq_false (by omega)]) ?_
    simp only [go_sem, binC]
    refine seq_exit ?_
    simp only [go_sem, binC, thenX_e, out_e, thenX_n]
    refine seq_reg ?_
    simp only [go_sem, binC, e6, e4, gc_of hb6c, inBlk_some, hb4c]
    have hxf : AgX [H.length + 1] Hc (Hc.set (H.length + 1) ⟨[sli H1.length 0 ls.length, sli bv 0 l.length], 0, 0, false, true⟩) := AgX.set _ _ _
    refine wpc_ret ⟨Or.inr rfl, .tuple #[.agg #[sli H1.length 0 ls.length, sli bv 0 l.length], .bool true], ?_, _, _, by rw [hB], (hx1.tr hx1c).setN (by omega) _, ?_, ?_⟩
    · simp [resV, resL, res1, putE_get, notT, ptr, gc_set hb4cl, inBlk_some, valOf, e4, sli]
    · rw [hO]
      show SlR Co.p2 _ _ (turnL row ls)
      rw [← hcT]
      have hq := blk_slP (hxf.get hbc (by simp; omega)) hrg (by omega)
      rw [hcl] at hq
      exact hq
    · rw [hO]
      refine s2.mono ?_
      exact ((vwl_sub ((hx3.trans hxc (fun _ h _ => by cases h) (fun _ h _ => h)).trans hxf (fun _ h _ => List.mem_cons_of_mem _ h) (fun b h _ => by simp only [List.mem_singleton] at h; rw [h]; exact List.mem_cons_self) : AgX [H.length + 1, H1.length] H2 _) (Nat.le_refl _) (xs' := []) (fun b' _ h1 h2 => ⟨by simp; omega, by simp⟩))).trans (vwl0 _ _ _)
  | succ k ih =>
    intro i e Hc cur hi hxc hcl hbc hrg hcur e1 e2 e4 e6 e7
    have hil : i < ls.length := by omega
    have hir : i < row.length := by omega
    have hw1 : IntKind.i64.wrap ((i : Int) + 1) = ((i + 1 : Nat) : Int) := by rw [wrap_id (by omega) (by omega)]; omega
    have hx1c : AgX [] H1 Hc := hx13.trans hxc (fun _ h _ => h) (fun b h1 h2 => by simp only [List.mem_singleton] at h1; omega)
    have hb6c := hxc.get hb6 (by simp; omega)
    have hb2c := hxc.get hb23 (by simp; omega)
    have hbcl := (List.getElem?_eq_some_iff.1 hbc).1
    obtain ⟨pb, po, hpv, hpg⟩ := gcP (r1'.mono (agx_sub hx1c)) hil
    simp only [Value.slice.injEq, and_true] at hpv
    subst hpv
    obtain ⟨rb, ro, hrv, hrg2⟩ := gcI0 (r3'.mono (agx_sub hx1c)) hir
    simp only [Value.slice.injEq, and_true] at hrv
    subst hrv
    have hri := hr2 _ (List.getElem_mem hir)
    have hfl := flat_len (fl := fp) (w := 2) (fun _ => rfl) cur
    have hrn : row[i].toNat < cur.length := by omega
    refine lp_step ?_
    refine seq_assoc (seq_reg ?_)
    simp only [go_sem, binC, e1, e7]
    refine seq_cond (t := true) (by simp only [go_sem, binC]; rw [decide_eq_true (by omega)]) ?_
    simp only [go_sem, binC]
    refine seq_skip (seq_block (wpc_regD ?_))
    simp only [go_sem, binC, e1, e2, e6, e7, gc_of hb6c, gc_of hb2c, inBlk_some]
    refine ⟨⟨by omega, by omega⟩, ?_⟩
    simp only [go_sem, binC, Int.toNat_natCast, Nat.mul_one, hrg2]
    refine ⟨⟨by omega, by omega⟩, ?_⟩
    simp only [go_sem, binC, Int.toNat_natCast, hpg]
    refine ⟨⟨by omega, by omega⟩, ?_⟩
    simp only [go_sem, binC, hbc]
    refine ⟨⟨by omega, by omega⟩, ?_⟩
    simp only [go_sem, binC, out_n, thenX_n]
    rw [show ((cur.flatMap fp).set (row[i].toNat * 2) (.int .i64 ls[i].1)).set (row[i].toNat * 2 + 1) (.int .i64 ls[i].2) = (cur.set row[i].toNat ls[i]).flatMap fp from flat_set _ _ ls[i] hrn]
    have hxs : AgX [H1.length] Hc (Hc.set H1.length ⟨(cur.set row[i].toNat ls[i]).flatMap fp, 2, 38, true, true⟩) := AgX.set _ _ _
    have hgs : (Hc.set H1.length ⟨(cur.set row[i].toNat ls[i]).flatMap fp, 2, 38, true, true⟩)[H1.length]? = some ⟨(cur.set row[i].toNat ls[i]).flatMap fp, 2, 38, true, true⟩ := List.getElem?_set_self hbcl
    refine wpc_reg ?_
    simp only [go_sem, binC, e7, hw1]
    simp only [go_sem, binC, thenX_n]
    refine ih (i + 1) _ _ (cur.set row[i].toNat ls[i]) (by omega) (hxc.tr hxs) (by rw [List.length_set]; exact hcl) hgs (fun p hp => ?_) (fun j hj hj' hj2 => ?_) (by simp only [go_sem, binC, e1]) (by simp only [go_sem, binC, e2]) (by simp only [go_sem, binC, e4]) (by simp only [go_sem, binC, e6]) (by simp only [go_sem, binC])
    · rcases List.mem_or_eq_of_mem_set hp with h | rfl
      · exact hrg p h
      · exact p2_rg r1 _ (List.getElem_mem hil)
    · rw [List.getElem?_set]
      by_cases hji : j = i
      · subst hji
        rw [if_pos rfl, if_pos hrn]
      · have hne2 : row[i].toNat ≠ row[j].toNat := fun h => by
          have q1 := hr2 _ (List.getElem_mem hj2)
          exact hji ((List.getElem_inj hr3).1 (show row[j] = row[i] by omega))
        rw [if_neg hne2]
        exact hcur j (by omega) hj' hj2
end Go.Proofs.YtiekbdijpfnagaaI
end
section
/- What the laws' functions say of steps and programs. -/
set_option linter.unusedVariables false
set_option linter.unusedSimpArgs false
namespace Go.Proofs.YtiekbdijpfnagaaI
open Go Go.RowKit
def lcsA : List IOper := [
    ⟨(some 17), none, .mov (.t 0)⟩,
    ⟨(some 18), none, .mov (.t 5)⟩,
    ⟨(some 19), none, .iad 8 (.t 17) (.t 18)⟩,
    ⟨(some 20), none, .fad 0 (.t 19)⟩,
    ⟨(some 21), none, .load false 1 (.t 20)⟩,
    ⟨(some 22), none, .mov (.t 1)⟩,
    ⟨(some 23), none, .mov (.t 5)⟩,
    ⟨(some 24), none, .iad 8 (.t 22) (.t 23)⟩,
    ⟨(some 25), none, .fad 0 (.t 24)⟩,
    ⟨(some 26), none, .load false 1 (.t 25)⟩,
    ⟨(some 27), none, .bin .neq (.t 21) (.t 26)⟩,
    ⟨(some 28), none, .mov (.t 27)⟩]
def lcsB : List IOper := [
    ⟨(some 29), (some (28, false)), .mov (.t 0)⟩,
    ⟨(some 30), (some (28, false)), .mov (.t 5)⟩,
    ⟨(some 31), (some (28, false)), .iad 8 (.t 29) (.t 30)⟩,
    ⟨(some 32), (some (28, false)), .fad 1 (.t 31)⟩,
    ⟨(some 33), (some (28, false)), .load false 1 (.t 32)⟩,
    ⟨(some 34), (some (28, false)), .mov (.t 1)⟩,
    ⟨(some 35), (some (28, false)), .mov (.t 5)⟩,
    ⟨(some 36), (some (28, false)), .iad 8 (.t 34) (.t 35)⟩,
    ⟨(some 37), (some (28, false)), .fad 1 (.t 36)⟩,
    ⟨(some 38), (some (28, false)), .load false 1 (.t 37)⟩,
    ⟨(some 39), (some (28, false)), .bin .neq (.t 33) (.t 38)⟩,
    ⟨(some 40), none, .pick (.t 28) (.c (.bool true)) (.t 39)⟩,
    ⟨(some 41), none, .mov (.t 40)⟩]
def lcsC : List IOper := [
    ⟨(some 42), (some (41, false)), .mov (.t 0)⟩,
    ⟨(some 43), (some (41, false)), .mov (.t 5)⟩,
    ⟨(some 44), (some (41, false)), .iad 8 (.t 42) (.t 43)⟩,
    ⟨(some 45), (some (41, false)), .fad 2 (.t 44)⟩,
    ⟨(some 46), (some (41, false)), .load true 3 (.t 45)⟩,
    ⟨(some 47), (some (41, false)), .mov (.t 1)⟩,
    ⟨(some 48), (some (41, false)), .mov (.t 5)⟩,
    ⟨(some 49), (some (41, false)), .iad 8 (.t 47) (.t 48)⟩,
    ⟨(some 50), (some (41, false)), .fad 2 (.t 49)⟩,
    ⟨(some 51), (some (41, false)), .load true 3 (.t 50)⟩,
    ⟨(some 52), (some (41, false)), .eqs true 3 (.t 46) (.t 51)⟩,
    ⟨(some 53), none, .pick (.t 41) (.c (.bool true)) (.t 52)⟩,
    ⟨(some 54), none, .mov (.t 53)⟩]
def lcsD : List IOper := [
    ⟨(some 55), (some (54, false)), .mov (.t 0)⟩,
    ⟨(some 56), (some (54, false)), .mov (.t 5)⟩,
    ⟨(some 57), (some (54, false)), .iad 8 (.t 55) (.t 56)⟩,
    ⟨(some 58), (some (54, false)), .fad 5 (.t 57)⟩,
    ⟨(some 59), (some (54, false)), .load false 1 (.t 58)⟩,
    ⟨(some 60), (some (54, false)), .mov (.t 1)⟩,
    ⟨(some 61), (some (54, false)), .mov (.t 5)⟩,
    ⟨(some 62), (some (54, false)), .iad 8 (.t 60) (.t 61)⟩,
    ⟨(some 63), (some (54, false)), .fad 5 (.t 62)⟩,
    ⟨(some 64), (some (54, false)), .load false 1 (.t 63)⟩,
    ⟨(some 65), (some (54, false)), .bin .neq (.t 59) (.t 64)⟩,
    ⟨(some 66), none, .pick (.t 54) (.c (.bool true)) (.t 65)⟩,
    ⟨(some 67), none, .mov (.t 66)⟩]
def lcsE : List IOper := [
    ⟨(some 68), (some (67, false)), .mov (.t 0)⟩,
    ⟨(some 69), (some (67, false)), .mov (.t 5)⟩,
    ⟨(some 70), (some (67, false)), .iad 8 (.t 68) (.t 69)⟩,
    ⟨(some 71), (some (67, false)), .fad 6 (.t 70)⟩,
    ⟨(some 72), (some (67, false)), .load false 1 (.t 71)⟩,
    ⟨(some 73), (some (67, false)), .mov (.t 1)⟩,
    ⟨(some 74), (some (67, false)), .mov (.t 5)⟩,
    ⟨(some 75), (some (67, false)), .iad 8 (.t 73) (.t 74)⟩,
    ⟨(some 76), (some (67, false)), .fad 6 (.t 75)⟩,
    ⟨(some 77), (some (67, false)), .load false 1 (.t 76)⟩,
    ⟨(some 78), (some (67, false)), .call .q (.f 93) [(.t 72), (.t 77)]⟩,
    ⟨(some 79), (some (67, false)), .un .not (.t 78)⟩,
    ⟨(some 80), none, .pick (.t 67) (.c (.bool true)) (.t 79)⟩,
    ⟨(some 81), none, .mov (.t 80)⟩]
def lcsF : List IOper := [
    ⟨(some 82), (some (81, false)), .mov (.t 0)⟩,
    ⟨(some 83), (some (81, false)), .mov (.t 5)⟩,
    ⟨(some 84), (some (81, false)), .iad 8 (.t 82) (.t 83)⟩,
    ⟨(some 85), (some (81, false)), .fad 7 (.t 84)⟩,
    ⟨(some 86), (some (81, false)), .load false 1 (.t 85)⟩,
    ⟨(some 87), (some (81, false)), .mov (.t 1)⟩,
    ⟨(some 88), (some (81, false)), .mov (.t 5)⟩,
    ⟨(some 89), (some (81, false)), .iad 8 (.t 87) (.t 88)⟩,
    ⟨(some 90), (some (81, false)), .fad 7 (.t 89)⟩,
    ⟨(some 91), (some (81, false)), .load false 1 (.t 90)⟩,
    ⟨(some 92), (some (81, false)), .call .q (.f 93) [(.t 86), (.t 91)]⟩,
    ⟨(some 93), (some (81, false)), .un .not (.t 92)⟩,
    ⟨(some 94), none, .pick (.t 81) (.c (.bool true)) (.t 93)⟩]
def c_lcSteps : IFn := ⟨2, 95, [.t 4],
 .seq (.reg none [
    ⟨(some 4), none, .mov (.c (.bool false))⟩])
 (.seq (.seq (.reg none [
     ⟨(some 6), none, .mov (.t 0)⟩,
     ⟨(some 7), none, .len (.t 6)⟩,
     ⟨(some 8), none, .mov (.t 1)⟩,
     ⟨(some 9), none, .len (.t 8)⟩,
     ⟨(some 10), none, .bin .neq (.t 7) (.t 9)⟩])
  (.cond (.t 10) (.seq (.reg none [
      ⟨(some 4), none, .mov (.c (.bool false))⟩])
   (.ret)) (.skip)))
 (.seq (.seq (.reg none [
     ⟨(some 5), none, .mov (.c (.int .i64 0))⟩])
  (.block 0 (.loop (.seq (.seq (.reg none [
        ⟨(some 11), none, .mov (.t 5)⟩,
        ⟨(some 12), none, .mov (.t 0)⟩,
        ⟨(some 13), none, .len (.t 12)⟩,
        ⟨(some 14), none, .bin .lss (.t 11) (.t 13)⟩])
     (.cond (.t 14) (.skip) (.exit 0)))
    (.seq (.block 1 (.seq (.reg (some 75) (lcsA ++ (lcsB ++ (lcsC ++ (lcsD ++ (lcsE ++ lcsF))))))
      (.cond (.t 94) (.seq (.reg none [
          ⟨(some 4), none, .mov (.c (.bool false))⟩])
       (.ret)) (.skip))))
    (.reg none [
      ⟨(some 15), none, .mov (.t 5)⟩,
      ⟨(some 16), none, .bin .add (.t 15) (.c (.int .i64 1))⟩,
      ⟨(some 5), none, .mov (.t 16)⟩]))))))
 (.seq (.reg none [
    ⟨(some 4), none, .mov (.c (.bool true))⟩])
 (.ret))))⟩
def c_lcProg : IFn := ⟨2, 36, [.t 4],
 .seq (.reg none [
    ⟨(some 2), none, .box (.t 0)⟩,
    ⟨(some 3), none, .box (.t 1)⟩,
    ⟨(some 4), none, .mov (.c (.bool false))⟩])
 (.seq (.seq (.reg none [
     ⟨(some 6), none, .fad 0 (.t 2)⟩,
     ⟨(some 7), none, .load false 1 (.t 6)⟩,
     ⟨(some 8), none, .len (.t 7)⟩,
     ⟨(some 9), none, .fad 0 (.t 3)⟩,
     ⟨(some 10), none, .load false 1 (.t 9)⟩,
     ⟨(some 11), none, .len (.t 10)⟩,
     ⟨(some 12), none, .bin .neq (.t 8) (.t 11)⟩])
  (.cond (.t 12) (.seq (.reg none [
      ⟨(some 4), none, .mov (.c (.bool false))⟩])
   (.ret)) (.skip)))
 (.seq (.seq (.reg none [
     ⟨(some 5), none, .mov (.c (.int .i64 0))⟩])
  (.block 0 (.loop (.seq (.seq (.reg none [
        ⟨(some 13), none, .mov (.t 5)⟩,
        ⟨(some 14), none, .fad 0 (.t 2)⟩,
        ⟨(some 15), none, .load false 1 (.t 14)⟩,
        ⟨(some 16), none, .len (.t 15)⟩,
        ⟨(some 17), none, .bin .lss (.t 13) (.t 16)⟩])
     (.cond (.t 17) (.skip) (.exit 0)))
    (.seq (.block 1 (.seq (.reg (some 10) [
         ⟨(some 20), none, .fad 0 (.t 2)⟩,
         ⟨(some 21), none, .load false 1 (.t 20)⟩,
         ⟨(some 22), none, .mov (.t 5)⟩,
         ⟨(some 23), none, .iad 2 (.t 21) (.t 22)⟩,
         ⟨(some 24), none, .load true 2 (.t 23)⟩,
         ⟨(some 25), none, .fad 0 (.t 3)⟩,
         ⟨(some 26), none, .load false 1 (.t 25)⟩,
         ⟨(some 27), none, .mov (.t 5)⟩,
         ⟨(some 28), none, .iad 2 (.t 26) (.t 27)⟩,
         ⟨(some 29), none, .load true 2 (.t 28)⟩,
         ⟨(some 30), none, .eqs true 2 (.t 24) (.t 29)⟩])
      (.cond (.t 30) (.seq (.reg none [
          ⟨(some 4), none, .mov (.c (.bool false))⟩])
       (.ret)) (.skip))))
    (.reg none [
      ⟨(some 18), none, .mov (.t 5)⟩,
      ⟨(some 19), none, .bin .add (.t 18) (.c (.int .i64 1))⟩,
      ⟨(some 5), none, .mov (.t 19)⟩]))))))
 (.seq (.reg none [
    ⟨(some 31), none, .fad 1 (.t 2)⟩,
    ⟨(some 32), none, .load false 1 (.t 31)⟩,
    ⟨(some 33), none, .fad 1 (.t 3)⟩,
    ⟨(some 34), none, .load false 1 (.t 33)⟩,
    ⟨(some 35), none, .call .q (.f 93) [(.t 32), (.t 34)]⟩,
    ⟨(some 4), none, .mov (.t 35)⟩])
 (.ret))))⟩
/-- Steps that are the same are told the same. -/
def SameSOk (F : Nat → Option IFn) (f n : Nat) : Prop := ∀ (H : Heap) (v w : Value) (l : List (TStep n)), SlR (Co.step n) (vw 0 H) v l → SlR (Co.step n) (vw 0 H) w l → (Co.sl (Co.step n)).sm l → QC F f [v, w] H (.bool true)
theorem eqsV3 (a b c : Int) : eqsV true 3 (.agg #[.int .i64 a, .int .i64 b, .int .i64 c]) (.agg #[.int .i64 a, .int .i64 b, .int .i64 c]) = some (.bool false) := by
  have h : eqCells [.int .i64 a, .int .i64 b, .int .i64 c] [.int .i64 a, .int .i64 b, .int .i64 c] = some true := by simp [eqCells]
  simp only [eqsV, List.length_cons, List.length_nil, h]
  rfl
theorem wpp_app2 {F : Nat → Option IFn} {lo p : Nat} (q : Nat) {K : Env → Heap → Prop} {l1 l2 : List IOper} {e : Env} {H : Heap} (hq : p = l1.length + q) (h : wpp F lo l1.length l1 e H fun e1 H1 => wpp F lo q l2 e1 H1 K) : wpp F lo p (l1 ++ l2) e H K := by
  rw [hq]
  exact wpp_app l1 e H h
theorem lcsA_ok {F : Nat → Option IFn} {lo : Nat} {e : Env} {H : Heap} {K : Env → Heap → Prop} {vb vo wb wo i len : Nat} {x : Int} (e0 : e 0 = .slice (some ⟨vb, vo, none⟩) len len) (e1 : e 1 = .slice (some ⟨wb, wo, none⟩) len len) (e5 : e 5 = .int .i64 i) (hi : i < len)
    (g : getCells H vb (vo + i * 8) 1 = some [.int .i64 x]) (g' : getCells H wb (wo + i * 8) 1 = some [.int .i64 x]) (k : ∀ e2 : Env, e2 0 = e 0 → e2 1 = e 1 → e2 5 = e 5 → e2 28 = .bool false → K e2 H) : wpp F lo lcsA.length lcsA e H K := by
  have hij : (0 ≤ (i : Int) ∧ (i : Int) < (len : Int)) = True := eq_true ⟨by omega, by omega⟩
  show wpp F lo 12 _ e H K
  unfold lcsA
  simp only [go_sem, binC, e0, e1, e5, hij, Int.toNat_natCast, g, g', bne_f (a := x) (b := x) rfl]
  exact k _ (by simp only [go_sem, binC]) (by simp only [go_sem, binC]) (by simp only [go_sem, binC]) (by simp only [go_sem, binC])
theorem lcsB_ok {F : Nat → Option IFn} {lo : Nat} {e : Env} {H : Heap} {K : Env → Heap → Prop} {vb vo wb wo i len : Nat} {x : Int} (e0 : e 0 = .slice (some ⟨vb, vo, none⟩) len len) (e1 : e 1 = .slice (some ⟨wb, wo, none⟩) len len) (e5 : e 5 = .int .i64 i) (eg : e 28 = .bool false) (hi : i < len)
    (g : getCells H vb (vo + i * 8 + 1) 1 = some [.int .i64 x]) (g' : getCells H wb (wo + i * 8 + 1) 1 = some [.int .i64 x]) (k : ∀ e2 : Env, e2 0 = e 0 → e2 1 = e 1 → e2 5 = e 5 → e2 41 = .bool false → K e2 H) : wpp F lo lcsB.length lcsB e H K := by
  have hij : (0 ≤ (i : Int) ∧ (i : Int) < (len : Int)) = True := eq_true ⟨by omega, by omega⟩
  show wpp F lo 13 _ e H K
  unfold lcsB
  simp only [go_sem, binC, e0, e1, e5, hij, Int.toNat_natCast, g, g', bne_f (a := x) (b := x) rfl, eg]
  exact k _ (by simp only [go_sem, binC]) (by simp only [go_sem, binC]) (by simp only [go_sem, binC]) (by simp only [go_sem, binC])
theorem lcsC_ok {F : Nat → Option IFn} {lo : Nat} {e : Env} {H : Heap} {K : Env → Heap → Prop} {vb vo wb wo i len : Nat} {x y z : Int} (e0 : e 0 = .slice (some ⟨vb, vo, none⟩) len len) (e1 : e 1 = .slice (some ⟨wb, wo, none⟩) len len) (e5 : e 5 = .int .i64 i) (eg : e 41 = .bool false) (hi : i < len)
    (g : getCells H vb (vo + i * 8 + 2) 3 = some [.int .i64 x, .int .i64 y, .int .i64 z]) (g' : getCells H wb (wo + i * 8 + 2) 3 = some [.int .i64 x, .int .i64 y, .int .i64 z]) (k : ∀ e2 : Env, e2 0 = e 0 → e2 1 = e 1 → e2 5 = e 5 → e2 54 = .bool false → K e2 H) : wpp F lo lcsC.length lcsC e H K := by
  have hij : (0 ≤ (i : Int) ∧ (i : Int) < (len : Int)) = True := eq_true ⟨by omega, by omega⟩
  show wpp F lo 13 _ e H K
  unfold lcsC
  simp only [go_sem, binC, e0, e1, e5, hij, Int.toNat_natCast, g, g', eqsV3, optP_some, eg]
  exact k _ (by simp only [go_sem, binC]) (by simp only [go_sem, binC]) (by simp only [go_sem, binC]) (by simp only [go_sem, binC])
theorem lcsD_ok {F : Nat → Option IFn} {lo : Nat} {e : Env} {H : Heap} {K : Env → Heap → Prop} {vb vo wb wo i len : Nat} {x : Int} (e0 : e 0 = .slice (some ⟨vb, vo, none⟩) len len) (e1 : e 1 = .slice (some ⟨wb, wo, none⟩) len len) (e5 : e 5 = .int .i64 i) (eg : e 54 = .bool false) (hi : i < len)
    (g : getCells H vb (vo + i * 8 + 5) 1 = some [.int .i64 x]) (g' : getCells H wb (wo + i * 8 + 5) 1 = some [.int .i64 x]) (k : ∀ e2 : Env, e2 0 = e 0 → e2 1 = e 1 → e2 5 = e 5 → e2 67 = .bool false → K e2 H) : wpp F lo lcsD.length lcsD e H K := by
  have hij : (0 ≤ (i : Int) ∧ (i : Int) < (len : Int)) = True := eq_true ⟨by omega, by omega⟩
  show wpp F lo 13 _ e H K
  unfold lcsD
  simp only [go_sem, binC, e0, e1, e5, hij, Int.toNat_natCast, g, g', bne_f (a := x) (b := x) rfl, eg]
  exact k _ (by simp only [go_sem, binC]) (by simp only [go_sem, binC]) (by simp only [go_sem, binC]) (by simp only [go_sem, binC])
theorem lcsE_ok {F : Nat → Option IFn} {lo : Nat} {e : Env} {H : Heap} {K : Env → Heap → Prop} {vb vo wb wo i len : Nat} {x y : Value} (e0 : e 0 = .slice (some ⟨vb, vo, none⟩) len len) (e1 : e 1 = .slice (some ⟨wb, wo, none⟩) len len) (e5 : e 5 = .int .i64 i) (eg : e 67 = .bool false) (hi : i < len)
    (g : getCells H vb (vo + i * 8 + 6) 1 = some [x]) (g' : getCells H wb (wo + i * 8 + 6) 1 = some [y]) (ox : one x = true) (oy : one y = true) (q : ∀ lo : Nat, QC F 93 [x, y] H (.bool true)) (k : ∀ e2 : Env, e2 0 = e 0 → e2 1 = e 1 → e2 5 = e 5 → e2 81 = .bool false → K e2 H) : wpp F lo lcsE.length lcsE e H K := by
  have hij : (0 ≤ (i : Int) ∧ (i : Int) < (len : Int)) = True := eq_true ⟨by omega, by omega⟩
  show wpp F lo 14 _ e H K
  unfold lcsE
  simp only [go_sem, binC, e0, e1, e5, eg, hij, Int.toNat_natCast, g, g', ox, oy]
  refine op_callQ (by simp only [go_sem, binC]; exact q 0) ?_
  simp only [go_sem, binC, eg]
  exact k _ (by simp only [go_sem, binC]) (by simp only [go_sem, binC]) (by simp only [go_sem, binC]) (by simp only [go_sem, binC])
theorem lcsF_ok {F : Nat → Option IFn} {lo : Nat} {e : Env} {H : Heap} {K : Env → Heap → Prop} {vb vo wb wo i len : Nat} {x y : Value} (e0 : e 0 = .slice (some ⟨vb, vo, none⟩) len len) (e1 : e 1 = .slice (some ⟨wb, wo, none⟩) len len) (e5 : e 5 = .int .i64 i) (eg : e 81 = .bool false) (hi : i < len)
    (g : getCells H vb (vo + i * 8 + 7) 1 = some [x]) (g' : getCells H wb (wo + i * 8 + 7) 1 = some [y]) (ox : one x = true) (oy : one y = true) (q : ∀ lo : Nat, QC F 93 [x, y] H (.bool true)) (k : ∀ e2 : Env, e2 0 = e 0 → e2 1 = e 1 → e2 5 = e 5 → e2 94 = .bool false → K e2 H) : wpp F lo 10 lcsF e H K := by
  have hij : (0 ≤ (i : Int) ∧ (i : Int) < (len : Int)) = True := eq_true ⟨by omega, by omega⟩
  unfold lcsF
  simp only [go_sem, binC, e0, e1, e5, eg, hij, Int.toNat_natCast, g, g', ox, oy]
  refine op_callQ (by simp only [go_sem, binC]; exact q 0) ?_
  simp only [go_sem, binC, eg]
  exact k _ (by simp only [go_sem, binC]) (by simp only [go_sem, binC]) (by simp only [go_sem, binC]) (by simp only [go_sem, binC])
theorem lcSteps_ok {F : Nat → Option IFn} {f n : Nat} (hf : F f = some c_lcSteps) (ih : ∀ m, n = m + 1 → SameSOk F 93 m) : SameSOk F f n := by
  intro H v w l hv hw hsm
  have hv0 := hv
  have hw0 := hw
  obtain ⟨h0, av, rfl, hv1⟩ := hv
  obtain ⟨_, aw, rfl, hw1⟩ := hw
  have hsm1 := hsm.1
  refine QC.mk hf rfl ?_
  refine seq_reg ?_
  simp only [go_sem, binC]
  refine seq_assoc (seq_reg ?_)
  simp only [go_sem, binC, bne_f (a := (l.length : Int)) (b := (l.length : Int)) rfl]
  refine seq_cond (t := false) rfl ?_
  simp only [go_sem, binC]
  refine seq_skip (seq_assoc (seq_reg ?_))
  simp only [go_sem, binC]
  refine seq_block (wpc_loop ?_)
  suffices h : ∀ (k i : Nat) (e : Env), i + k = l.length → e 0 = .slice av l.length l.length → e 1 = .slice aw l.length l.length → e 5 = .int .i64 i → W F H.length _ e H _ from
    h l.length 0 _ (by omega) (by simp only [go_sem, binC]) (by simp only [go_sem, binC]) (by (simp only [go_sem, binC]) <;> rfl)
  intro k
  induction k with
  | zero =>
    intro i e hi e0 e1 e5
    refine lp_step ?_
    refine seq_assoc (seq_reg ?_)
    simp only [go_sem, binC, e0, e5]
    refine seq_cond (t := false) (by simp only [go_sem, binC]; rw [decide_eq_false (by omega)]) ?_
    simp only [go_sem, binC]
    refine seq_exit ?_
    simp only [go_sem, binC, thenX_e, out_e, thenX_n]
    refine seq_reg ?_
    simp only [go_sem, binC]
    exact wpc_ret ⟨Or.inr rfl, _, (by (simp only [go_sem, binC]) <;> rfl), rfl, rfl⟩
  | succ k ihk =>
    intro i e hi e0 e1 e5
    have hil : i < l.length := by omega
    cases n with
    | zero => exact (l[i]).elim
    | succ n =>
    obtain ⟨vb, vo, sk, sx, sa, sbb, sc, sg, tv, ev, tl, el, hav, hs, rg, otv, oev, hgc, htl, hel⟩ := step_atV hv0 hil
    obtain ⟨wb, wo, sk', sx', sa', sbb', sc', sg', tv', ev', tl', el', haw, hs', rg', otv', oev', hgc', htl', hel'⟩ := step_atV hw0 hil
    rw [hs] at hs'
    replace hs' : ((sk, sx, (sa, sbb, sc), sg, tl, el) : Int × Int × (Int × Int × Int) × Int × List (TStep n) × List (TStep n)) = (sk', sx', (sa', sbb', sc'), sg', tl', el') := hs'
    simp only [Prod.mk.injEq] at hs'
    obtain ⟨rfl, rfl, ⟨rfl, rfl, rfl⟩, rfl, rfl, rfl⟩ := hs'
    simp only [Value.slice.injEq, and_true] at hav haw
    subst hav haw
    have hsmi := hsm.2 _ (List.getElem_mem hil)
    rw [hs] at hsmi
    obtain ⟨_, _, _, _, mtl, mel⟩ := hsmi
    have hw1 : IntKind.i64.wrap ((i : Int) + 1) = ((i + 1 : Nat) : Int) := by rw [wrap_id (by omega) (by omega)]; omega
    have hg := hgc H (Sub.refl _)
    have hg' := hgc' H (Sub.refl _)
    have gc0 : getCells H vb (vo + i * 8) 1 = some [.int .i64 sk] := gc_part (off := 0) (k := 1) hg (by omega)
    have gc1 : getCells H vb (vo + i * 8 + 1) 1 = some [.int .i64 sx] := gc_part (off := 1) (k := 1) hg (by omega)
    have gc2 : getCells H vb (vo + i * 8 + 2) 3 = some [.int .i64 sa, .int .i64 sbb, .int .i64 sc] := gc_part (off := 2) (k := 3) hg (by omega)
    have gc5 : getCells H vb (vo + i * 8 + 5) 1 = some [.int .i64 sg] := gc_part (off := 5) (k := 1) hg (by omega)
    have gc6 : getCells H vb (vo + i * 8 + 6) 1 = some [tv] := gc_part (off := 6) (k := 1) hg (by omega)
    have gc7 : getCells H vb (vo + i * 8 + 7) 1 = some [ev] := gc_part (off := 7) (k := 1) hg (by omega)
    have gd0 : getCells H wb (wo + i * 8) 1 = some [.int .i64 sk] := gc_part (off := 0) (k := 1) hg' (by omega)
    have gd1 : getCells H wb (wo + i * 8 + 1) 1 = some [.int .i64 sx] := gc_part (off := 1) (k := 1) hg' (by omega)
    have gd2 : getCells H wb (wo + i * 8 + 2) 3 = some [.int .i64 sa, .int .i64 sbb, .int .i64 sc] := gc_part (off := 2) (k := 3) hg' (by omega)
    have gd5 : getCells H wb (wo + i * 8 + 5) 1 = some [.int .i64 sg] := gc_part (off := 5) (k := 1) hg' (by omega)
    have gd6 : getCells H wb (wo + i * 8 + 6) 1 = some [tv'] := gc_part (off := 6) (k := 1) hg' (by omega)
    have gd7 : getCells H wb (wo + i * 8 + 7) 1 = some [ev'] := gc_part (off := 7) (k := 1) hg' (by omega)
    refine lp_step ?_
    refine seq_assoc (seq_reg ?_)
    simp only [go_sem, binC, e0, e5]
    refine seq_cond (t := true) (by simp only [go_sem, binC]; rw [decide_eq_true (by omega)]) ?_
    simp only [go_sem, binC]
    refine seq_skip (seq_block (seq_regD ?_))
    have hij : (0 ≤ (i : Int) ∧ (i : Int) < (l.length : Int)) = True := eq_true ⟨by omega, by omega⟩
    refine wpp_app2 63 rfl (lcsA_ok e0 e1 e5 hil gc0 gd0 fun ea a0 a1 a5 ag => ?_)
    refine wpp_app2 50 rfl (lcsB_ok (a0.trans e0) (a1.trans e1) (a5.trans e5) ag hil gc1 gd1 fun eb b0 b1 b5 bg => ?_)
    refine wpp_app2 37 rfl (lcsC_ok (b0.trans (a0.trans e0)) (b1.trans (a1.trans e1)) (b5.trans (a5.trans e5)) bg hil gc2 gd2 fun ec c0 c1 c5 cg => ?_)
    refine wpp_app2 24 rfl (lcsD_ok (c0.trans (b0.trans (a0.trans e0))) (c1.trans (b1.trans (a1.trans e1))) (c5.trans (b5.trans (a5.trans e5))) cg hil gc5 gd5 fun e2 d0 d1 d5 f67 => ?_)
    have f0 := d0.trans (c0.trans (b0.trans (a0.trans e0)))
    have f1 := d1.trans (c1.trans (b1.trans (a1.trans e1)))
    have f5 := d5.trans (c5.trans (b5.trans (a5.trans e5)))
    clear d0 d1 d5 c0 c1 c5 b0 b1 b5 a0 a1 a5 ag bg cg
    refine wpp_app2 10 rfl (lcsE_ok f0 f1 f5 f67 hil gc6 gd6 otv otv' (fun lo => ih n rfl H tv tv' tl htl htl' mtl) fun e3 k0 k1 k5 f81 => ?_)
    refine lcsF_ok (k0.trans f0) (k1.trans f1) (k5.trans f5) f81 hil gc7 gd7 oev oev' (fun lo => ih n rfl H ev ev' el hel hel' mel) fun e4 j0 j1 j5 f94 => ?_
    replace j0 := j0.trans (k0.trans f0)
    replace j1 := j1.trans (k1.trans f1)
    replace j5 := j5.trans (k5.trans f5)
    clear k0 k1 k5 f81 f67
    refine wpc_cond (t := false) (by simp only [go_sem, binC, f94]) ?_
    simp only [go_sem, binC, out_n, thenX_n]
    refine wpc_skip ?_
    simp only [go_sem, binC, out_n, thenX_n]
    refine wpc_reg ?_
    simp only [go_sem, binC, j5, hw1]
    simp only [go_sem, binC, thenX_n]
    exact ihk (i + 1) _ (by omega) (by simp only [go_sem, binC, j0]) (by simp only [go_sem, binC, j1]) (by simp only [go_sem, binC])
theorem lcSteps_all {F : Nat → Option IFn} (hf : F 93 = some c_lcSteps) : ∀ n, SameSOk F 93 n
  | 0 => lcSteps_ok hf fun m h => by cases h
  | n + 1 => lcSteps_ok hf fun m h => by cases h; exact lcSteps_all hf n
/-- Programs that are the same are told the same. -/
def SamePOk (F : Nat → Option IFn) (f : Nat) : Prop := ∀ (H : Heap) (n : Nat) (lv sv lw sw : Value) (ls : List (Int × Int)) (l : List (TStep n)), SlR Co.p2 (vw 0 H) lv ls → SlR (Co.step n) (vw 0 H) sv l → SlR Co.p2 (vw 0 H) lw ls → SlR (Co.step n) (vw 0 H) sw l → (Co.prog n).sm (ls, l) → QC F f [.agg #[lv, sv], .agg #[lw, sw]] H (.bool true)
theorem lcProg_ok {F : Nat → Option IFn} {f : Nat} (hf : F f = some c_lcProg) (gs : ∀ n, SameSOk F 93 n) : SamePOk F f := by
  intro H n lv sv lw sw ls l r1 r2 r3 r4 hsm
  have osv : one sv = true := by obtain ⟨_, a, rfl, _⟩ := r2; rfl
  have osw : one sw = true := by obtain ⟨_, a, rfl, _⟩ := r4; rfl
  obtain ⟨_, la, rfl, _⟩ := id r1
  obtain ⟨_, lb, rfl, _⟩ := id r3
  have hls0 : ls.length ≤ 1048576 := hsm.1.1
  refine QC.mk hf rfl ?_
  refine seq_reg ?_
  simp only [go_sem, binC, osv, osw]
  refine wpc_gen fun H1 hH1 => ?_
  have hx1 : AgX [] H H1 := hH1 ▸ AgX.app [] _ _
  have hb2 : H1[H.length]? = some ⟨[.slice la ls.length ls.length, sv], 0, 0, false, true⟩ := hH1 ▸ get_new0 _ _
  have hb3 : H1[H.length + 1]? = some ⟨[.slice lb ls.length ls.length, sw], 0, 0, false, true⟩ := hH1 ▸ get_new _ _ 1
  clear hH1
  have r1' := r1.mono (agx_sub hx1)
  have r2' := r2.mono (agx_sub hx1)
  have r3' := r3.mono (agx_sub hx1)
  have r4' := r4.mono (agx_sub hx1)
  have hl1 := hx1.1
  refine seq_assoc (seq_reg ?_)
  simp only [go_sem, binC, gc_of hb2, gc_of hb3, inBlk_some, bne_f (a := (ls.length : Int)) (b := (ls.length : Int)) rfl]
  refine seq_cond (t := false) rfl ?_
  simp only [go_sem, binC]
  refine seq_skip (seq_assoc (seq_reg ?_))
  simp only [go_sem, binC]
  refine seq_block (wpc_loop ?_)
  suffices h : ∀ (k i : Nat) (e : Env), i + k = ls.length → e 2 = ptr H.length 0 → e 3 = ptr (H.length + 1) 0 → e 5 = .int .i64 i → W F H.length _ e H1 _ from
    h ls.length 0 _ (by omega) (by simp only [go_sem, binC]) (by simp only [go_sem, binC]) (by (simp only [go_sem, binC]) <;> rfl)
  intro k
  induction k with
  | zero =>
    intro i e hi e2 e3 e5
    refine lp_step ?_
    refine seq_assoc (seq_reg ?_)
    simp only [go_sem, binC, e2, e5, gc_of hb2, inBlk_some]
    refine seq_cond (t := false) (by simp only [go_sem, binC]; rw [decide_eq_false (by omega)]) ?_
    simp only [go_sem, binC]
    refine seq_exit ?_
    simp only [go_sem, binC, thenX_e, out_e, thenX_n]
    refine seq_reg ?_
    simp only [go_sem, binC, e2, e3, gc_of hb2, gc_of hb3, inBlk_some, osv, osw]
    refine op_callQ (by simp only [go_sem, binC]; exact gs n H1 sv sw l r2' r4' hsm.2) ?_
    simp only [go_sem, binC]
    exact wpc_ret ⟨Or.inr rfl, _, (by (simp only [go_sem, binC]) <;> rfl), rfl, rfl⟩
  | succ k ih =>
    intro i e hi e2 e3 e5
    have hil : i < ls.length := by omega
    obtain ⟨b, o, hv1, hg⟩ := gcP r1' hil
    obtain ⟨b', o', hv2, hg'⟩ := gcP r3' hil
    simp only [Value.slice.injEq, and_true] at hv1 hv2
    subst hv1 hv2
    have hw1 : IntKind.i64.wrap ((i : Int) + 1) = ((i + 1 : Nat) : Int) := by rw [wrap_id (by omega) (by omega)]; omega
    refine lp_step ?_
    refine seq_assoc (seq_reg ?_)
    simp only [go_sem, binC, e2, e5, gc_of hb2, inBlk_some]
    refine seq_cond (t := true) (by simp only [go_sem, binC]; rw [decide_eq_true (by omega)]) ?_
    simp only [go_sem, binC]
    refine seq_skip (seq_block (seq_regD ?_))
    simp only [go_sem, binC, e2, e3, e5, gc_of hb2, gc_of hb3, inBlk_some]
    refine ⟨⟨by omega, by omega⟩, ?_⟩
    simp only [go_sem, binC, Int.toNat_natCast, hg]
    refine ⟨⟨by omega, by omega⟩, ?_⟩
    simp only [go_sem, binC, Int.toNat_natCast, hg', eqsV2, decide_true]
    refine wpc_cond (t := false) rfl ?_
    simp only [go_sem, binC]
    refine wpc_skip ?_
    simp only [go_sem, binC, out_n, thenX_n]
    refine wpc_reg ?_
    simp only [go_sem, binC, e5, hw1]
    simp only [go_sem, binC, thenX_n]
    exact ih (i + 1) _ (by omega) (by simp only [go_sem, binC, e2]) (by simp only [go_sem, binC, e3]) (by simp only [go_sem, binC])
/-- A row of names turned back. -/
def backR (row : List Int) : List Int := (List.range row.length).map fun (i : Nat) => (row.idxOf (i : Int) : Int)
theorem backR_len (row : List Int) : (backR row).length = row.length := by simp [backR]
end Go.Proofs.YtiekbdijpfnagaaI
end
section
/- Rows are drawn, with a program. -/
set_option linter.unusedVariables false
set_option linter.unusedSimpArgs false
namespace Go.Proofs.YtiekbdijpfnagaaI
open Go Go.RowKit
def drRowTail : ICode := (.seq (.seq (.reg none [
     ⟨(some 45), none, .mov (.t 0)⟩,
     ⟨(some 46), none, .call .n (.f 41) [(.t 45), (.c (.int .i64 16))]⟩,
     ⟨(some 47), none, .bin .eql (.t 46) (.c (.int .i64 0))⟩])
  (.cond (.t 47) (.reg none [
     ⟨(some 48), none, .mov (.t 5)⟩,
     ⟨(some 49), none, .mov (.t 0)⟩,
     ⟨(some 50), none, .call .n (.f 41) [(.t 49), (.c (.int .i64 3))]⟩,
     ⟨(some 51), none, .lit 1 3 1 [(.int .i64 0)] [(0, 1, (.t 50))]⟩,
     ⟨(some 52), none, .app 1 3 8 false (.t 48) (.t 51)⟩,
     ⟨(some 5), none, .mov (.t 52)⟩]) (.skip)))
 (.seq (.reg none [
    ⟨(some 53), none, .mov (.t 5)⟩,
    ⟨(some 4), none, .mov (.t 53)⟩])
 (.ret)))
def c_drRow : IFn := ⟨2, 54, [.t 4],
 .seq (.reg none [
    ⟨(some 4), none, .mov (.c (.slice none 0 0))⟩])
 (.seq (.reg none [
    ⟨(some 10), none, .lit 1 3 0 [] []⟩,
    ⟨(some 5), none, .mov (.t 10)⟩])
 (.seq (.seq (.reg none [
     ⟨(some 6), none, .mov (.c (.int .i64 0))⟩])
  (.block 0 (.loop (.seq (.seq (.reg none [
        ⟨(some 11), none, .mov (.t 6)⟩,
        ⟨(some 12), none, .bin .lss (.t 11) (.c (.int .i64 60))⟩,
        ⟨(some 13), none, .mov (.t 12)⟩,
        ⟨(some 14), (some (13, true)), .mov (.t 5)⟩,
        ⟨(some 15), (some (13, true)), .len (.t 14)⟩,
        ⟨(some 16), (some (13, true)), .mov (.t 1)⟩,
        ⟨(some 17), (some (13, true)), .bin .lss (.t 15) (.t 16)⟩,
        ⟨(some 18), none, .pick (.t 13) (.t 17) (.c (.bool false))⟩])
     (.cond (.t 18) (.skip) (.exit 0)))
    (.seq (.block 1 (.seq (.reg none [
         ⟨(some 21), none, .mov (.t 0)⟩,
         ⟨(some 22), none, .mov (.t 1)⟩,
         ⟨(some 23), none, .call .n (.f 41) [(.t 21), (.t 22)]⟩,
         ⟨(some 7), none, .mov (.t 23)⟩])
      (.seq (.reg none [
         ⟨(some 8), none, .mov (.c (.bool false))⟩])
      (.seq (.seq (.reg none [
          ⟨(some 9), none, .mov (.c (.int .i64 0))⟩])
       (.block 2 (.loop (.seq (.seq (.reg none [
             ⟨(some 24), none, .mov (.t 9)⟩,
             ⟨(some 25), none, .mov (.t 5)⟩,
             ⟨(some 26), none, .len (.t 25)⟩,
             ⟨(some 27), none, .bin .lss (.t 24) (.t 26)⟩])
          (.cond (.t 27) (.skip) (.exit 2)))
         (.seq (.block 3 (.reg none [
             ⟨(some 30), none, .mov (.t 8)⟩,
             ⟨(some 31), none, .mov (.t 30)⟩,
             ⟨(some 32), (some (31, false)), .mov (.t 5)⟩,
             ⟨(some 33), (some (31, false)), .mov (.t 9)⟩,
             ⟨(some 34), (some (31, false)), .iad 1 (.t 32) (.t 33)⟩,
             ⟨(some 35), (some (31, false)), .load false 1 (.t 34)⟩,
             ⟨(some 36), (some (31, false)), .mov (.t 7)⟩,
             ⟨(some 37), (some (31, false)), .bin .eql (.t 35) (.t 36)⟩,
             ⟨(some 38), none, .pick (.t 31) (.c (.bool true)) (.t 37)⟩,
             ⟨(some 8), none, .mov (.t 38)⟩]))
         (.reg none [
           ⟨(some 28), none, .mov (.t 9)⟩,
           ⟨(some 29), none, .bin .add (.t 28) (.c (.int .i64 1))⟩,
           ⟨(some 9), none, .mov (.t 29)⟩]))))))
      (.seq (.reg none [
         ⟨(some 39), none, .mov (.t 8)⟩,
         ⟨(some 40), none, .un .not (.t 39)⟩])
      (.cond (.t 40) (.reg none [
         ⟨(some 41), none, .mov (.t 5)⟩,
         ⟨(some 42), none, .mov (.t 7)⟩,
         ⟨(some 43), none, .lit 1 3 1 [(.int .i64 0)] [(0, 1, (.t 42))]⟩,
         ⟨(some 44), none, .app 1 3 8 false (.t 41) (.t 43)⟩,
         ⟨(some 5), none, .mov (.t 44)⟩]) (.skip)))))))
    (.reg none [
      ⟨(some 19), none, .mov (.t 6)⟩,
      ⟨(some 20), none, .bin .add (.t 19) (.c (.int .i64 1))⟩,
      ⟨(some 6), none, .mov (.t 20)⟩]))))))
 drRowTail))⟩
def RowQ (H H' : Heap) (v : Value) : Prop := ∃ row : List Int, SlR Co.int (vwl H.length [] H') v row ∧ row.length ≤ 100
theorem drRowTail_ok {F : Nat → Option IFn} {lo : Nat} (hpk : F 41 = some c_pick) {H0 : Heap} {rb : Nat} {bv : Value} {code : List Int} (hc : RdC H0 rb bv code) {H Hc : Heap} {p q : Int} {e : Env} {b : Nat} {so : Bool} {l : List Int} (hs : St H0 rb bv q Hc) (hl : rb < H.length) (hx : AgX [rb] H Hc) (hO : OwnL Co.int 1 3 H.length [] Hc b so l) (hll : l.length ≤ 60) (hp : 0 ≤ p) (hpq : p ≤ q) (hq : q ≤ p + 60) (hp2 : p + 100 ≤ 1000000) (hlo : lo ≤ rb)
    (e0 : e 0 = ptr rb 0) (e5 : e 5 = sli b 0 l.length) : wpc F lo drRowTail e Hc (fin [.t 4] fun v H' => ∃ p', AgX [rb] H H' ∧ St H0 rb bv p' H' ∧ (p ≤ p' ∧ p' ≤ p + 100) ∧ RowQ H H' v) := by
  unfold drRowTail
  have hbl := hO.1
  refine seq_assoc (seq_reg ?_)
  simp only [go_sem, binC, e0]
  refine op_draw (n := 16) hpk hc hs (by omega) (by omega) hlo (by simp only [go_sem, binC, e0]) (by simp only [go_sem, binC]) fun H2 hl2 hx2 hs2 => ?_
  have ht2 := hx.tr hx2
  have hO2 : OwnL Co.int 1 3 H.length [] H2 b so l := hO.sub hx2 (by simp; omega) fun b' _ h1 h2 _ => ⟨by simp; omega, by simp⟩
  simp only [go_sem, binC]
  by_cases h0 : pickV code q 16 = 0
  · simp only [go_sem, binC, beq_t h0]
    refine seq_cond (t := true) rfl ?_
    simp only [go_sem, binC]
    refine seq_reg ?_
    simp only [go_sem, binC, e0, e5]
    refine op_draw (n := 3) hpk hc hs2 (by omega) (by omega) hlo (by simp only [go_sem, binC, e0]) (by simp only [go_sem, binC]) fun H3 hl3 hx3 hs3 => ?_
    have ht3 := ht2.tr hx3
    have hO3 : OwnL Co.int 1 3 H.length [] H3 b so l := hO2.sub hx3 (by simp; omega) fun b' _ h1 h2 _ => ⟨by simp; omega, by simp⟩
    have hbd := pickV_bd code (q + 1) (n := 3) (by omega)
    simp only [go_sem, binC, e5]
    refine op_app_own (A := Co.int) (lo := H.length) (a := pickV code (q + 1) 3) hO3 (by simp only [go_sem, binC, e5]) (by (simp only [go_sem, binC]) <;> rfl) (by omega) rfl ⟨rfl, by omega, by omega⟩ (by omega) (by omega) (by simp) fun H4 hx4 hO4 => ?_
    simp only [go_sem, binC]
    refine seq_reg ?_
    simp only [go_sem, binC]
    have hlen : (l ++ [pickV code (q + 1) 3]).length = l.length + 1 := by simp
    have hr := hO4.slR rfl (by simp)
    rw [hlen] at hr
    have ht4 : AgX [rb] H H4 := ht3.trans hx4 (fun _ h _ => h) (fun b' h1 h2 => by simp only [List.mem_singleton] at h1; omega)
    exact wpc_ret ⟨Or.inr rfl, _, (by (simp only [go_sem, binC]) <;> rfl), q + 1 + 1, ht4, hs3.mono hc hx4 (fun b' h1 => by simp only [List.mem_singleton] at h1; omega), by omega, _, hr, by omega⟩
  · simp only [go_sem, binC, beq_f h0]
    refine seq_cond (t := false) rfl ?_
    simp only [go_sem, binC]
    refine seq_skip (seq_reg ?_)
    simp only [go_sem, binC, e5]
    exact wpc_ret ⟨Or.inr rfl, _, (by (simp only [go_sem, binC]) <;> rfl), q + 1, ht2, hs2, by omega, _, hO2.slR rfl (by simp), by omega⟩
theorem drRow_ok {F : Nat → Option IFn} {f : Nat} (hf : F f = some c_drRow) (hpk : F 41 = some c_pick) {H0 : Heap} {rb : Nat} {bv : Value} {code : List Int} (hc : RdC H0 rb bv code) {n : Int} (hn : n ≤ 9223372036854775807) : DrawS F H0 rb bv f [.int .i64 n] 100 (fun H H' v => RowQ H H' v) := by
  refine DrawS.mk hf rfl fun H p lo hs hp hp2 hlo => ?_
  have hl := hs.lt
  refine seq_reg ?_
  simp only [go_sem, binC]
  refine seq_reg ?_
  simp only [go_sem, binC]
  refine wpc_gen fun H1 hH1 => ?_
  have hs1 : St H0 rb bv p H1 := hH1 ▸ hs.appN hc _
  have ht1 : AgX [rb] H H1 := hH1 ▸ AgX.app [rb] _ _
  have hO1 : OwnL Co.int 1 3 H.length [] H1 H.length true [] := hH1 ▸ OwnG.nil (Nat.le_refl _)
  clear hH1
  refine seq_assoc (seq_reg ?_)
  simp only [go_sem, binC]
  refine seq_block (wpc_loop ?_)
  suffices h : ∀ (k i : Nat) (e : Env) (Hc : Heap) (b : Nat) (so : Bool) (l : List Int), i + k = 60 → l.length ≤ i → St H0 rb bv (p + i) Hc → AgX [rb] H Hc → OwnL Co.int 1 3 H.length [] Hc b so l → e 0 = ptr rb 0 → e 1 = .int .i64 n → e 5 = sli b 0 l.length → e 6 = .int .i64 i → W F lo _ e Hc _ from
    h 60 0 _ H1 H.length true [] rfl (Nat.le_refl _) (by simpa using hs1) ht1 hO1 (by simp only [go_sem, binC]) (by simp only [go_sem, binC]) (by (simp only [go_sem, binC]) <;> rfl) (by (simp only [go_sem, binC]) <;> rfl)
  intro k
  induction k with
  | zero =>
    intro i e Hc b so l hik hli hsc hxc hO e0 e1 e5 e6
    refine lp_step ?_
    refine seq_assoc (seq_reg ?_)
    simp only [go_sem, binC, e0, e1, e5, e6]
    have hd : decide ((i : Int) < 60) = false := decide_eq_false (by omega)
    simp only [go_sem, binC, hd]
    refine seq_cond (t := false) (by simp only [go_sem, binC]) ?_
    simp only [go_sem, binC]
    refine seq_exit ?_
    simp only [go_sem, binC, thenX_e, out_e, thenX_n]
    exact drRowTail_ok hpk hc hsc hl hxc hO (by omega) hp (by omega) (by omega) hp2 hlo (by simp only [go_sem, binC, e0]) (by simp only [go_sem, binC, e5])
  | succ k ih =>
    intro i e Hc b so l hik hli hsc hxc hO e0 e1 e5 e6
    have hw1 : IntKind.i64.wrap ((i : Int) + 1) = ((i + 1 : Nat) : Int) := by rw [wrap_id (by omega) (by omega)]; omega
    refine lp_step ?_
    refine seq_assoc (seq_reg ?_)
    have hd : decide ((i : Int) < 60) = true := decide_eq_true (by omega)
    simp only [go_sem, binC, e0, e1, e5, e6, hd]
    by_cases hlt : (l.length : Int) < n
    rotate_left
    · simp only [go_sem, binC, decide_eq_false hlt]
      refine seq_cond (t := false) (by simp only [go_sem, binC]) ?_
      simp only [go_sem, binC]
      refine seq_exit ?_
      simp only [go_sem, binC, thenX_e, out_e, thenX_n]
      exact drRowTail_ok hpk hc hsc hl hxc hO (by omega) hp (by omega) (by omega) hp2 hlo (by simp only [go_sem, binC, e0]) (by simp only [go_sem, binC, e5])
    simp only [go_sem, binC, decide_eq_true hlt]
    refine seq_cond (t := true) (by simp only [go_sem, binC]) ?_
    simp only [go_sem, binC]
    refine seq_skip (seq_block (seq_reg ?_))
    simp only [go_sem, binC, e0, e1]
    refine op_draw (n := n) hpk hc hsc (by omega) (by omega) hlo (by simp only [go_sem, binC, e0]) (by simp only [go_sem, binC, e1]) fun H2 hl2 hx2 hs2 => ?_
    have hbl := hO.1
    have ht2 := hxc.tr hx2
    have hO2 : OwnL Co.int 1 3 H.length [] H2 b so l := hO.sub hx2 (by simp; omega) fun b' _ h1 h2 _ => ⟨by simp; omega, by simp⟩
    have hbd := pickV_i64 code (p + i) hn
    generalize pickV code (p + i) n = kv at hbd
    simp only [go_sem, binC]
    refine seq_reg ?_
    simp only [go_sem, binC]
    refine seq_assoc (seq_reg ?_)
    simp only [go_sem, binC]
    refine seq_block (wpc_loop ?_)
    suffices hin : ∀ (k2 m : Nat) (e2 : Env) (t : Bool), m + k2 = l.length → e2 0 = ptr rb 0 → e2 1 = .int .i64 n → e2 5 = sli b 0 l.length → e2 6 = .int .i64 i → e2 7 = .int .i64 kv → e2 8 = .bool t → e2 9 = .int .i64 m → W F lo _ e2 H2 _ from
      hin l.length 0 _ false (by omega) (by simp only [go_sem, binC, e0]) (by simp only [go_sem, binC, e1]) (by simp only [go_sem, binC, e5]) (by simp only [go_sem, binC, e6]) (by simp only [go_sem, binC]) (by simp only [go_sem, binC]) (by (simp only [go_sem, binC]) <;> rfl)
    intro k2
    induction k2 with
    | zero =>
      intro m e2 t hm f0 f1 f5 f6 f7 f8 f9
      refine lp_step ?_
      refine seq_assoc (seq_reg ?_)
      simp only [go_sem, binC, f5, f9]
      refine seq_cond (t := false) (by simp only [go_sem, binC]; rw [decide_eq_false (by omega)]) ?_
      simp only [go_sem, binC]
      refine seq_exit ?_
      simp only [go_sem, binC, thenX_e, out_e, thenX_n]
      refine seq_reg ?_
      simp only [go_sem, binC, f8]
      cases t with
      | true =>
        simp only [go_sem, binC]
        refine wpc_cond (t := false) (by simp only [go_sem, binC]) ?_
        simp only [go_sem, binC]
        refine wpc_skip ?_
        simp only [go_sem, binC, out_n, thenX_n]
        refine wpc_reg ?_
        simp only [go_sem, binC, f6, hw1]
        simp only [go_sem, binC, thenX_n]
        exact ih (i + 1) _ H2 b so l (by omega) (by omega) (by rw [show p + ((i + 1 : Nat) : Int) = p + i + 1 by omega]; exact hs2) ht2 hO2 (by simp only [go_sem, binC, f0]) (by simp only [go_sem, binC, f1]) (by simp only [go_sem, binC, f5]) (by simp only [go_sem, binC])
      | false =>
        simp only [go_sem, binC]
        refine wpc_cond (t := true) (by simp only [go_sem, binC]) ?_
        simp only [go_sem, binC]
        refine wpc_reg ?_
        simp only [go_sem, binC, f5, f7]
        refine op_app_own (A := Co.int) (lo := H.length) (a := kv) hO2 (by simp only [go_sem, binC, f5]) (by (simp only [go_sem, binC]) <;> rfl) (by omega) rfl ⟨rfl, by omega, by omega⟩ (by omega) (by omega) (by simp) fun H4 hx4 hO4 => ?_
        simp only [go_sem, binC, out_n, thenX_n]
        refine wpc_reg ?_
        simp only [go_sem, binC, f6, hw1]
        simp only [go_sem, binC, thenX_n]
        have hlen : (l ++ [kv]).length = l.length + 1 := by simp
        have ht4 : AgX [rb] H H4 := ht2.trans hx4 (fun _ h _ => h) (fun b' h1 h2 => by simp only [List.mem_singleton] at h1; omega)
        refine ih (i + 1) _ H4 (H2.length + 1) _ (l ++ [kv]) (by omega) (by omega) ?_ ht4 hO4 (by simp only [go_sem, binC, f0]) (by simp only [go_sem, binC, f1]) (by (simp only [go_sem, binC, hlen]) <;> rfl) (by simp only [go_sem, binC])
        rw [show p + ((i + 1 : Nat) : Int) = p + i + 1 by omega]
        exact hs2.mono hc hx4 (fun b' h1 => by simp only [List.mem_singleton] at h1; omega)
    | succ k2 ih2 =>
      intro m e2 t hm f0 f1 f5 f6 f7 f8 f9
      have hml : m < l.length := by omega
      obtain ⟨b9, o9, hv9, hg9⟩ := gcI ((hO2.slR rfl (by simp)).mono (vwl0 _ _ _)) hml
      simp only [sli, Value.slice.injEq, Option.some.injEq, Addr.mk.injEq, and_true] at hv9
      obtain ⟨rfl, rfl⟩ := hv9
      have hw2 : IntKind.i64.wrap ((m : Int) + 1) = ((m + 1 : Nat) : Int) := by rw [wrap_id (by omega) (by omega)]; omega
      refine lp_step ?_
      refine seq_assoc (seq_reg ?_)
      simp only [go_sem, binC, f5, f9]
      refine seq_cond (t := true) (by simp only [go_sem, binC]; rw [decide_eq_true (by omega)]) ?_
      simp only [go_sem, binC]
      refine seq_skip (seq_block (wpc_reg ?_))
      cases t with
      | true =>
        simp only [go_sem, binC, f8]
        simp only [go_sem, binC, out_n, thenX_n]
        refine wpc_reg ?_
        simp only [go_sem, binC, f9, hw2]
        simp only [go_sem, binC, thenX_n]
        exact ih2 (m + 1) _ true (by omega) (by simp only [go_sem, binC, f0]) (by simp only [go_sem, binC, f1]) (by simp only [go_sem, binC, f5]) (by simp only [go_sem, binC, f6]) (by simp only [go_sem, binC, f7]) (by simp only [go_sem, binC]) (by simp only [go_sem, binC])
      | false =>
        simp only [go_sem, binC, f5, f7, f8, f9, sli]
        refine ⟨⟨by omega, by omega⟩, ?_⟩
        rw [Nat.zero_add] at hg9
        simp only [go_sem, binC, f7, Int.toNat_natCast, Nat.mul_one, hg9]
        simp only [go_sem, binC, out_n, thenX_n]
        refine wpc_reg ?_
        simp only [go_sem, binC, f9, hw2]
        simp only [go_sem, binC, thenX_n]
        exact ih2 (m + 1) _ _ (by omega) (by simp only [go_sem, binC, f0]) (by simp only [go_sem, binC, f1]) (by simp only [go_sem, binC, f5, sli]) (by simp only [go_sem, binC, f6]) (by simp only [go_sem, binC, f7]) (by simp only [go_sem, binC]; rfl) (by simp only [go_sem, binC])
end Go.Proofs.YtiekbdijpfnagaaI
end
section
/- A program and a row, drawn. -/
set_option linter.unusedVariables false
set_option linter.unusedSimpArgs false
namespace Go.Proofs.YtiekbdijpfnagaaI
open Go Go.RowKit
def c_drTV : IFn := ⟨1, 16, [.cell true 2 2, .t 3],
 .seq (.reg none [
    ⟨(some 2), none, .new [(.slice none 0 0), (.slice none 0 0)]⟩,
    ⟨(some 3), none, .mov (.c (.slice none 0 0))⟩])
 (.seq (.reg none [
    ⟨(some 6), none, .mov (.t 0)⟩,
    ⟨(some 7), none, .call .n (.f 40) [(.t 6)]⟩,
    ⟨(some 4), none, .mov (.t 7)⟩])
 (.seq (.reg none [
    ⟨(some 8), none, .mov (.t 4)⟩,
    ⟨(some 9), none, .call .n (.f 43) [(.t 8)]⟩,
    ⟨(some 5), none, .new [(.slice none 0 0), (.slice none 0 0)]⟩,
    ⟨none, none, .store 2 (.t 5) (.t 9)⟩])
 (.seq (.reg (some 6) [
    ⟨(some 10), none, .load true 2 (.t 5)⟩,
    ⟨(some 11), none, .mov (.t 4)⟩,
    ⟨(some 12), none, .fad 0 (.t 5)⟩,
    ⟨(some 13), none, .load false 1 (.t 12)⟩,
    ⟨(some 14), none, .len (.t 13)⟩,
    ⟨(some 15), none, .call .n (.f 86) [(.t 11), (.t 14)]⟩,
    ⟨none, none, .store 2 (.t 2) (.t 10)⟩,
    ⟨(some 3), none, .mov (.t 15)⟩])
 (.ret))))⟩
def DrawNumsOk (F : Nat → Option IFn) (f : Nat) : Prop := ∀ (H : Heap) (v : Value) (code : List Int), SlR Co.byte (vw 0 H) v code → ∃ (d : Nat) (lv sv nv : Value) (ls : List (Int × Int)) (l : List (TStep d)) (nums : List Int) (H' : Heap), KC F f [v] H (.tuple #[.agg #[lv, sv], nv]) H' ∧
  (AgX [] H H' ∧ SlR Co.p2 (vw 0 H') lv ls ∧ SlR (Co.step d) (vw 0 H') sv l ∧ (Co.prog d).sm (ls, l) ∧ SlR Co.int (vw 0 H') nv nums)
def DrawNumsV (F : Nat → Option IFn) (f : Nat) : Prop := ∀ (H : Heap) (v : Value) (code : List Int), SlR Co.byte (vw 0 H) v code → ∃ (d : Nat) (lv sv nv : Value) (ls : List (Int × Int)) (l : List (TStep d)) (nums : List Int) (H' : Heap), KC F f [v] H (.tuple #[.agg #[lv, sv], nv]) H' ∧
  (AgX [] H H' ∧ SlR Co.p2 (vwl H.length [] H') lv ls ∧ SlR (Co.step d) (vwl H.length [] H') sv l ∧ (Co.prog d).sm (ls, l) ∧ SlR Co.int (vwl H.length [] H') nv nums)
theorem DrawNumsV.ok {F : Nat → Option IFn} {f : Nat} (h : DrawNumsV F f) : DrawNumsOk F f := by
  intro H v code hv
  obtain ⟨d, lv, sv, nv, ls, l, nums, H', h1, h2, r1, r2, r3, r4⟩ := h H v code hv
  exact ⟨d, lv, sv, nv, ls, l, nums, H', h1, h2, r1.mono (vwl0 _ _ _), r2.mono (vwl0 _ _ _), r3, r4.mono (vwl0 _ _ _)⟩
theorem drTV_ok {F : Nat → Option IFn} {f : Nat} (hf : F f = some c_drTV) (hop : F 40 = some c_l6Open) (hpk : F 41 = some c_pick) (hrw : F 86 = some c_drRow) (gan : ∀ {H0 : Heap} {rb : Nat} {bv : Value} {code : List Int}, RdC H0 rb bv code → DrawS F H0 rb bv 43 [] 90000 ProgR) : DrawNumsOk F f := by
  refine DrawNumsV.ok fun H v code hv => ?_
  suffices h : ∃ w H', KC F f [v] H w H' ∧ (∃ (d : Nat) (lv sv nv : Value) (ls : List (Int × Int)) (l : List (TStep d)) (nums : List Int), w = .tuple #[.agg #[lv, sv], nv] ∧ (AgX [] H H' ∧ SlR Co.p2 (vwl H.length [] H') lv ls ∧ SlR (Co.step d) (vwl H.length [] H') sv l ∧ (Co.prog d).sm (ls, l) ∧ SlR Co.int (vwl H.length [] H') nv nums)) by
    obtain ⟨w, H', h1, d, lv, sv, nv, ls, l, nums, rfl, h2⟩ := h
    exact ⟨d, lv, sv, nv, ls, l, nums, H', h1, h2⟩
  refine KC.mk hf rfl ?_
  refine seq_reg ?_
  simp only [go_sem, binC]
  refine wpc_gen fun H1 hH1 => ?_
  have ht1 : AgX [] H H1 := hH1 ▸ AgX.app [] _ _
  have hb1 : H1[H.length]? = some ⟨[nilS, nilS], 0, 0, false, true⟩ := hH1 ▸ get_new0 _ _
  have hn1 : H1.length = H.length + 1 := by rw [hH1, List.length_append]; rfl
  clear hH1
  refine seq_reg ?_
  simp only [go_sem, binC]
  obtain ⟨bv, code', k2, hc, hs2⟩ := l6Open_ok hop (hv.mono (agx_sub ht1)) H.length ht1.1
  refine op_callN (by simp only [go_sem, binC]; exact k2) ?_
  simp only [go_sem, binC]
  refine wpc_gen fun H2 hH2 => ?_
  rw [← hH2] at hs2
  have ht2 : AgX [] H H2 := hH2 ▸ ht1.appN _
  have hb2 : H2[H.length]? = some ⟨[nilS, nilS], 0, 0, false, true⟩ := by rw [hH2, List.getElem?_append_left (List.getElem?_eq_some_iff.1 hb1).1]; exact hb1
  have hn2 : H2.length = H1.length + 1 := by rw [hH2, List.length_append]; rfl
  clear hH2
  refine seq_reg ?_
  simp only [go_sem, binC]
  obtain ⟨v3, H3, p3, k3, x3, s3, c3, d, lv, sv, ls, l, rfl, r1, r2, r3, r4, r5⟩ := gan hc H2 0 H.length hs2 (by omega) (by omega) (by omega)
  refine op_callN (by simp only [go_sem, binC]; exact k3) ?_
  have olv : one lv = true := by obtain ⟨_, a, rfl, _⟩ := r1; rfl
  have osv : one sv = true := by obtain ⟨_, a, rfl, _⟩ := r2; rfl
  have hl3 := x3.1
  simp only [go_sem, binC, olv, osv]
  refine ⟨by omega, ?_⟩
  refine wpc_gen fun H4 hH4 => ?_
  have hs4 : St H1 H1.length bv p3 H4 := hH4 ▸ s3.appN hc _
  have ht4 : AgX [H1.length] H2 H4 := hH4 ▸ x3.appN _
  have hb4 : H4[H.length]? = some ⟨[nilS, nilS], 0, 0, false, true⟩ := ht4.get hb2 (by simp; omega)
  have hbx4 : H4[H3.length]? = some ⟨[lv, sv], 0, 0, false, true⟩ := hH4 ▸ get_new0 _ _
  have hn4 : H4.length = H3.length + 1 := by rw [hH4, List.length_append]; rfl
  have hvw4 : Sub (vwl H2.length [] H3) (vwl H2.length [H3.length] H4) := by subst hH4; exact vwl_sub (AgX.app [] _ _) (Nat.le_refl _) fun b' h1 h2 _ => ⟨by simp, by simp; omega⟩
  clear hH4
  obtain ⟨hl0, la, rfl, _⟩ := id r1
  obtain ⟨v5, H5, p5, k5, x5, s5, c5, row, hns, hnl⟩ := drRow_ok hrw hpk hc (n := (ls.length : Int)) (by omega) H4 p3 H.length hs4 (by omega) (by omega) (by omega)
  have hb5 := x5.get hb4 (by simp; omega)
  have hbx5 := x5.get hbx4 (by simp; omega)
  have hn5 := x5.1
  have hb5l := (List.getElem?_eq_some_iff.1 hb5).1
  have g4 : getCells H4 H3.length 0 2 = some [.slice la ls.length ls.length, sv] := by rw [gc_of hbx4]; rfl
  have g5 : getCells H5 H3.length 0 2 = some [.slice la ls.length ls.length, sv] := by rw [gc_of hbx5]; rfl
  have g4' : getCells H4 H3.length 0 1 = some [.slice la ls.length ls.length] := by rw [gc_of hbx4]; rfl
  have g5' : getCells H5 H3.length 0 1 = some [.slice la ls.length ls.length] := by rw [gc_of hbx5]; rfl
  refine wpc_genE fun e0 he => ?_
  have e2 : e0 2 = ptr H.length 0 := by rw [he]; simp only [go_sem, binC]
  have e4 : e0 4 = ptr H1.length 0 := by rw [he]; simp only [go_sem, binC]
  have e5 : e0 5 = ptr H3.length 0 := by rw [he]; simp only [go_sem, binC]
  clear he
  refine seq_regV (q := 5) (k := 0) (ea := putE (putE (putE (putE (putE e0 (some 10) (.agg #[.slice la ls.length ls.length, sv])) (some 11) (ptr H1.length 0)) (some 12) (ptr H3.length 0)) (some 13) (.slice la ls.length ls.length)) (some 14) (.int .i64 ls.length)) rfl rfl rfl ?_
  refine op_callN (by simp only [go_sem, binC, e4]; exact k5) ?_
  refine ⟨frees_cons _ (iop_load (by simp only [go_sem, binC, e5]) g4) (iop_load (by simp only [go_sem, binC, e5]) g5) (frees_cons _ (by simp only [go_sem, binC, e4, iop]) (by simp only [go_sem, binC, e4, iop]) (frees_cons _ (by simp only [go_sem, binC, e5, iop, ptr]) (by simp only [go_sem, binC, e5, iop, ptr]) (frees_cons _ (by simp only [go_sem, binC, iop, ptr, g4', Option.bind_some]) (by simp only [go_sem, binC, iop, ptr, g5', Option.bind_some]) (frees_cons _ (by simp only [go_sem, binC, iop]) (by simp only [go_sem, binC, iop]) rfl)))), _, rfl, ?_⟩
  simp only [go_sem, binC, e2, hb5, osv]
  have hvf : Sub (vwl H2.length [] H3) (vwl H.length [] (H5.set H.length ⟨[.slice la ls.length ls.length, sv], 0, 0, false, true⟩)) := (hvw4.trans (vwl_sub x5 (Nat.le_refl _) (xs' := []) fun b' h1 h2 _ => ⟨by simp; omega, by simp⟩) : Sub (vwl H2.length [] H3) (vwl H2.length [] H5)).trans (vwl_sub (AgX.set H5 H.length _) (show H.length ≤ H2.length by omega) (xs' := []) fun b' h1 h2 _ => ⟨by simp; omega, by simp⟩)
  have hvn : Sub (vwl H4.length [] H5) (vwl H.length [] (H5.set H.length ⟨[.slice la ls.length ls.length, sv], 0, 0, false, true⟩)) := vwl_sub (AgX.set H5 H.length _) (show H.length ≤ H4.length by omega) (xs' := []) fun b' h1 h2 h3 => ⟨by simp; omega, h3⟩
  refine wpc_ret ⟨Or.inr rfl, .tuple #[.agg #[.slice la ls.length ls.length, sv], v5], ?_, ?_⟩
  · obtain ⟨_, a5, rfl, _⟩ := hns
    simp [resV, resL, res1, putE_get, notT, e2, ptr, gc_set hb5l, inBlk_some, valOf]
  · refine ⟨d, _, sv, v5, ls, l, row, rfl, ?_, r1.mono hvf, r2.mono hvf, r3, hns.mono hvn⟩
    exact (ht2.trans (ht4.tr x5) (fun _ h _ => h) (fun b h1 h2 => by simp at h1; omega)).setN (Nat.le_refl _) _
end Go.Proofs.YtiekbdijpfnagaaI
end
section
/- Programs whose variables are named otherwise, and named back: plain facts. -/
set_option linter.unusedVariables false
set_option linter.unusedSimpArgs false
namespace Go.Proofs.YtiekbdijpfnagaaI
open Go Go.RowKit
theorem mem_allM {n : Nat} {l : List (TStep n)} {a : TStep n} (ha : a ∈ l) {t : Shal} (ht : t ∈ allT n a) : t ∈ allL n l := List.mem_flatten.2 ⟨_, List.mem_map_of_mem ha, ht⟩
theorem mapT_succ (T : Shal → Shal) (n : Nat) (k x : Int) (v : Int × Int × Int) (g : Int) (th el : List (TStep n)) : mapT T (n + 1) (k, x, v, g, th, el) = ((T (k, x, v, g)).1, (T (k, x, v, g)).2.1, (T (k, x, v, g)).2.2.1, (T (k, x, v, g)).2.2.2, th.map (mapT T n), el.map (mapT T n)) := rfl
theorem mapT_mapT {T T' : Shal → Shal} {P : Shal → Prop} (h : ∀ t, P t → T' (T t) = t) : ∀ (n : Nat) (s : TStep n), (∀ t ∈ allT n s, P t) → mapT T' n (mapT T n s) = s
  | 0, s, _ => s.elim
  | n + 1, (k, x, v, g, th, el), hs => by
    have h0 := h (k, x, v, g) (hs _ (by rw [allT_succ]; exact List.mem_cons_self))
    have go : ∀ l : List (TStep n), (∀ t ∈ allL n l, P t) → (l.map (mapT T n)).map (mapT T' n) = l := fun l hl => by
      rw [List.map_map]
      conv => rhs; rw [← List.map_id l]
      exact List.map_congr_left fun a ha => mapT_mapT h n a fun t ht => hl t (mem_allM ha ht)
    have e : mapT T' (n + 1) (mapT T (n + 1) (k, x, v, g, th, el)) = ((T' (T (k, x, v, g))).1, (T' (T (k, x, v, g))).2.1, (T' (T (k, x, v, g))).2.2.1, (T' (T (k, x, v, g))).2.2.2, (th.map (mapT T n)).map (mapT T' n), (el.map (mapT T n)).map (mapT T' n)) := rfl
    rw [e, h0, go th fun t ht => hs t (by rw [allT_succ]; exact List.mem_cons_of_mem _ (List.mem_append_left _ ht)), go el fun t ht => hs t (by rw [allT_succ]; exact List.mem_cons_of_mem _ (List.mem_append_right _ ht))]
theorem mapL_mapL {T T' : Shal → Shal} {P : Shal → Prop} (h : ∀ t, P t → T' (T t) = t) {n : Nat} {l : List (TStep n)} (hl : ∀ t ∈ allL n l, P t) : (l.map (mapT T n)).map (mapT T' n) = l := by
  rw [List.map_map]
  conv => rhs; rw [← List.map_id l]
  exact List.map_congr_left fun a ha => mapT_mapT h n a fun t ht => hl t (mem_allM ha ht)
theorem cntT_map (T : Shal → Shal) : ∀ (n : Nat) (s : TStep n), cntT n (mapT T n s) = cntT n s
  | 0, s => s.elim
  | n + 1, (k, x, v, g, th, el) => by
    have go : ∀ l : List (TStep n), ((l.map (mapT T n)).map (cntT n)) = l.map (cntT n) := fun l => by
      rw [List.map_map]
      exact List.map_congr_left fun a _ => cntT_map T n a
    rw [mapT_succ]
    show 1 + ((((th.map (mapT T n)).map (cntT n))).sum + (((el.map (mapT T n)).map (cntT n))).sum) = _
    rw [go, go]
    rfl
theorem cntL_map (T : Shal → Shal) {n : Nat} (l : List (TStep n)) : cntL n (l.map (mapT T n)) = cntL n l := by
  unfold cntL
  rw [List.map_map]
  congr 1
  exact List.map_congr_left fun a _ => cntT_map T n a
/-- What leaves steps in form. -/
structure GoodT (k : Nat) (T : Shal → Shal) : Prop where
  kd : ∀ s, (T s).1 = s.1
  vr : ∀ s, varB k s.2.1 = true → varB k (T s).2.1 = true
  vl : ∀ s, valB k s.2.2.1 = true → valB k (T s).2.2.1 = true
  v0 : ∀ s, s.2.2.1 = (0, 0, 0) → (T s).2.2.1 = (0, 0, 0)
  h0 : ∀ s, s.1 ≠ 3 → (T s).2.2.2 = s.2.2.2
  h3 : ∀ s, s.1 = 3 → inB s.2.2.2 0 2 = true → inB (T s).2.2.2 0 2 = true
theorem stepB_map {k : Nat} {T : Shal → Shal} (hT : GoodT k T) : ∀ (n : Nat) (d : Int) (s : TStep n), stepB k n d s = true → stepB k n d (mapT T n s) = true
  | 0, _, s, _ => s.elim
  | n + 1, d, (kd, vr, v, ho, th, el), h => by
    have go : ∀ l : List (TStep n), l.all (stepB k n (d - 1)) = true → (l.map (mapT T n)).all (stepB k n (d - 1)) = true := fun l hl => by
      rw [List.all_eq_true] at hl ⊢
      intro a ha
      obtain ⟨a', ha', rfl⟩ := List.mem_map.1 ha
      exact stepB_map hT n (d - 1) a' (hl a' ha')
    have q0 := hT.kd (kd, vr, v, ho)
    have q1 := hT.vr (kd, vr, v, ho)
    have q2 := hT.vl (kd, vr, v, ho)
    have q3 := hT.v0 (kd, vr, v, ho)
    have q4 := hT.h0 (kd, vr, v, ho)
    have q5 := hT.h3 (kd, vr, v, ho)
    rw [mapT_succ]
    generalize T (kd, vr, v, ho) = t at *
    obtain ⟨kd', vr', v', ho'⟩ := t
    simp only at q0 q1 q2 q3 q4 q5 ⊢
    subst q0
    simp only [stepB, Bool.and_eq_true, decide_eq_true_eq] at h ⊢
    obtain ⟨⟨h1, hv⟩, h⟩ := h
    refine ⟨⟨h1, q1 hv⟩, ?_⟩
    by_cases k1 : kd' = 1
    · rw [if_pos k1] at h ⊢
      simp only [Bool.and_eq_true, decide_eq_true_eq, List.length_map] at h ⊢
      exact ⟨⟨q2 h.1.1, by rw [q4 (by omega)]; exact h.1.2⟩, h.2⟩
    rw [if_neg k1] at h ⊢
    by_cases k3 : kd' = 3
    · rw [if_pos k3] at h ⊢
      simp only [Bool.and_eq_true, decide_eq_true_eq, List.length_map] at h ⊢
      exact ⟨⟨q3 h.1.1, q5 k3 h.1.2⟩, h.2⟩
    rw [if_neg k3] at h ⊢
    by_cases k2 : kd' = 2
    · rw [if_pos k2] at h ⊢
      simp only [Bool.and_eq_true, decide_eq_true_eq] at h ⊢
      exact ⟨⟨⟨q3 h.1.1.1, by rw [q4 (by omega)]; exact h.1.1.2⟩, go th h.1.2⟩, go el h.2⟩
    · rw [if_neg k2] at h; cases h
theorem progB_map {n : Nat} {ls ls' : List (Int × Int)} {l : List (TStep n)} {T : Shal → Shal} (hT : GoodT ls.length T) (h : progB n (ls, l) = true) (hl : ls'.length = ls.length) (hls : ls'.all labB = true) : progB n (ls', l.map (mapT T n)) = true := by
  simp only [progB, Bool.and_eq_true, decide_eq_true_eq] at h ⊢
  obtain ⟨⟨⟨h1, h2⟩, h3⟩, h4⟩ := h
  refine ⟨⟨⟨by rw [hl]; exact h1, hls⟩, ?_⟩, by rw [cntL_map]; exact h4⟩
  rw [hl, List.all_eq_true]
  intro a ha
  obtain ⟨a', ha', rfl⟩ := List.mem_map.1 ha
  exact stepB_map hT n 3 a' (List.all_eq_true.1 h3 a' ha')
theorem step_sm_map {T : Shal → Shal} : ∀ (n : Nat) (s : TStep n), (Co.step n).sm s → (Co.step n).sm (mapT T n s)
  | 0, s, _ => s.elim
  | n + 1, (k, x, v, g, th, el), h => by
    have go : ∀ l : List (TStep n), (Co.sl (Co.step n)).sm l → (Co.sl (Co.step n)).sm (l.map (mapT T n)) := fun l hl => ⟨by rw [List.length_map]; exact hl.1, fun a ha => by
      obtain ⟨a', ha', rfl⟩ := List.mem_map.1 ha
      exact step_sm_map n a' (hl.2 a' ha')⟩
    obtain ⟨h1, h2, h3, h4, h5, h6⟩ := h
    exact ⟨trivial, trivial, ⟨trivial, trivial, trivial⟩, trivial, go th h5, go el h6⟩
theorem steps_sm_map {T : Shal → Shal} {n : Nat} {l : List (TStep n)} (hl : (Co.sl (Co.step n)).sm l) : (Co.sl (Co.step n)).sm (l.map (mapT T n)) := ⟨by rw [List.length_map]; exact hl.1, fun a ha => by
  obtain ⟨a', ha', rfl⟩ := List.mem_map.1 ha
  exact step_sm_map n a' (hl.2 a' ha')⟩
theorem labs_sm {ls : List (Int × Int)} (h : ls.length ≤ 1048576) : (Co.sl Co.p2).sm ls := ⟨h, fun a _ => ⟨trivial, trivial⟩⟩
/-! ### Names -/
theorem nameO_get {row : List Int} {k : Nat} (hr : rowB row k = true) {x : Int} (hx : 0 ≤ x ∧ x < k) : ∃ h : x.toNat < row.length, nameO row x = row[x.toNat] ∧ 0 ≤ nameO row x ∧ nameO row x < k := by
  obtain ⟨h1, h2, h3⟩ := rowB_iff.1 hr
  have h : x.toNat < row.length := by omega
  have e : nameO row x = row[x.toNat] := by
    unfold nameO
    rw [List.getD_eq_getElem?_getD, List.getElem?_eq_getElem h]
    rfl
  have := h2 _ (List.getElem_mem h)
  exact ⟨h, e, by omega, by omega⟩
theorem nameO_back {row : List Int} {k : Nat} (hr : rowB row k = true) {x : Int} (hx : 0 ≤ x ∧ x < k) : nameO (backR row) (nameO row x) = x := by
  obtain ⟨h1, h2, h3⟩ := rowB_iff.1 hr
  obtain ⟨h, e, e1, e2⟩ := nameO_get hr hx
  rw [e] at e1 e2 ⊢
  unfold nameO backR
  rw [List.getD_eq_getElem?_getD, List.getElem?_map, List.getElem?_range (by omega)]
  have h4 : ((row[x.toNat].toNat : Nat) : Int) = row[x.toNat] := by omega
  simp only [Option.map_some, Option.getD_some, h4]
  rw [h3.idxOf_getElem]
  omega
theorem rowB_back {row : List Int} {k : Nat} (hr : rowB row k = true) : rowB (backR row) k = true := by
  obtain ⟨h1, h2, h3⟩ := rowB_iff.1 hr
  refine rowB_iff.2 ⟨by rw [backR_len]; exact h1, fun x hx => ?_, ?_⟩
  · simp only [backR, List.mem_map, List.mem_range] at hx
    obtain ⟨i, hi, rfl⟩ := hx
    have hm : (i : Int) ∈ row := row_inj _ _ h1 h2 h3 i (by omega)
    have hix : row.idxOf (i : Int) < row.length := List.idxOf_lt_length_iff.2 hm
    omega
  · unfold backR
    rw [List.Nodup, List.pairwise_iff_getElem]
    intro i j hi hj hlt hij
    simp only [List.length_map, List.length_range] at hi hj
    simp only [List.getElem_map, List.getElem_range] at hij
    have hm : ∀ m : Nat, m < row.length → ∃ h : row.idxOf (m : Int) < row.length, row[row.idxOf (m : Int)] = (m : Int) := fun m hm => by
      have := List.idxOf_lt_length_iff.2 (row_inj _ _ h1 h2 h3 m (by omega))
      exact ⟨this, List.getElem_idxOf this⟩
    obtain ⟨a1, a2⟩ := hm i hi
    obtain ⟨b1, b2⟩ := hm j hj
    have hij' : row.idxOf (i : Int) = row.idxOf (j : Int) := by omega
    have : (i : Int) = j := by rw [← a2, ← b2]; simp only [hij']
    omega
theorem turnL_back {row : List Int} {ls : List (Int × Int)} (hr : rowB row ls.length = true) : turnL (backR row) (turnL row ls) = ls := by
  obtain ⟨h1, h2, h3⟩ := rowB_iff.1 hr
  refine (turnL_of (by rw [turnL_len]; exact rowB_back hr) (by rw [turnL_len]) fun i hi hi' => ?_).symm
  rw [turnL_len] at hi
  have hm : (i : Int) ∈ row := row_inj _ _ h1 h2 h3 i hi
  have hix : row.idxOf (i : Int) < row.length := List.idxOf_lt_length_iff.2 hm
  simp only [backR, turnL, List.getElem_map, List.getElem_range, Int.toNat_natCast, List.getD_eq_getElem?_getD]
  rw [List.getElem?_eq_getElem (by omega)]
  rfl
theorem varB_iff {k : Nat} {x : Int} : varB k x = true ↔ 0 ≤ x ∧ x < k := by
  unfold varB
  rw [inB_iff]
  omega
theorem turnS_good {row : List Int} {k : Nat} (hr : rowB row k = true) : GoodT k (turnS row) := by
  have nv : ∀ x, varB k x = true → varB k (nameO row x) = true := fun x hx => varB_iff.2 (nameO_get hr (varB_iff.1 hx)).2.2
  refine ⟨fun s => rfl, fun s h => nv _ h, fun ⟨kd, x, ⟨a, b, c⟩, g⟩ h => ?_, fun ⟨kd, x, ⟨a, b, c⟩, g⟩ h => ?_, fun s _ => rfl, fun s _ h => h⟩
  · unfold valB at h
    simp only at h
    show valB k (a, _, _) = true
    unfold valB
    simp only
    by_cases a1 : a = 1
    · subst a1; simpa using h
    rw [if_neg a1] at h ⊢
    by_cases a2 : a = 2
    · subst a2
      simp only [if_true, Bool.and_eq_true, decide_eq_true_eq, true_or] at h ⊢
      exact ⟨nv _ h.1, by simpa using h.2⟩
    rw [if_neg a2] at h ⊢
    by_cases a3 : a = 3 ∨ a = 4
    · rw [if_pos a3] at h ⊢
      rw [if_pos (.inr a3), if_pos a3]
      rw [Bool.and_eq_true] at h ⊢
      exact ⟨nv _ h.1, nv _ h.2⟩
    · rw [if_neg a3] at h; cases h
  · simp only [Prod.mk.injEq] at h
    obtain ⟨rfl, rfl, rfl⟩ := h
    rfl
theorem turnS_back {row : List Int} {k : Nat} (hr : rowB row k = true) : ∀ s, okS k s → turnS (backR row) (turnS row s) = s := by
  rintro ⟨kd, x, ⟨a, b, c⟩, g⟩ ⟨h1, h2, -, -, -⟩
  have nb : ∀ x, varB k x = true → nameO (backR row) (nameO row x) = x := fun x hx => nameO_back hr (varB_iff.1 hx)
  simp only at h1 h2
  simp only [turnS, Prod.mk.injEq, true_and, and_true]
  refine ⟨nb _ h1, ?_⟩
  rcases h2 with h2 | h2
  · unfold valB at h2
    simp only at h2
    by_cases a1 : a = 1
    · subst a1; simp
    rw [if_neg a1] at h2
    by_cases a2 : a = 2
    · subst a2
      simp only [if_true, Bool.and_eq_true, decide_eq_true_eq] at h2
      simp [nb _ h2.1]
    rw [if_neg a2] at h2
    by_cases a3 : a = 3 ∨ a = 4
    · rw [if_pos a3, Bool.and_eq_true] at h2
      rw [if_pos (.inr a3), if_pos (.inr a3), if_pos a3, if_pos a3]
      exact ⟨nb _ h2.1, nb _ h2.2⟩
    · rw [if_neg a3] at h2; cases h2
  · simp only [Prod.mk.injEq] at h2
    obtain ⟨rfl, rfl, rfl⟩ := h2
    simp
/-- A program with its variables turned is in form. -/
theorem turnV_ok {n : Nat} {ls : List (Int × Int)} {l : List (TStep n)} {row : List Int} (h : progB n (ls, l) = true) (hr : rowB row ls.length = true) : progB n (turnL row ls, l.map (mapT (turnS row) n)) = true := by
  refine progB_map (turnS_good hr) h (turnL_len _ _) ?_
  rw [List.all_eq_true]
  intro p hp
  simp only [progB, Bool.and_eq_true] at h
  exact List.all_eq_true.1 h.1.1.2 p (turnL_mem hr p hp)
theorem turnV_back {n : Nat} {ls : List (Int × Int)} {l : List (TStep n)} {row : List Int} (h : progB n (ls, l) = true) (hr : rowB row ls.length = true) : turnO n (fun k => k) turnL turnS (turnL row ls) (l.map (mapT (turnS row) n)) (backR row) = (ls, l) ∧ turnB n (fun k => k) (turnL row ls) (l.map (mapT (turnS row) n)) (backR row) = true := by
  have hb : turnB n (fun k => k) (turnL row ls) (l.map (mapT (turnS row) n)) (backR row) = true := by
    unfold turnB
    rw [turnV_ok h hr, turnL_len, rowB_back hr]
    rfl
  refine ⟨?_, hb⟩
  unfold turnO
  rw [if_pos hb, turnL_back hr, mapL_mapL (turnS_back hr) (progB_okS h)]
end Go.Proofs.YtiekbdijpfnagaaI
end
section
/- The law FnTurnVars on the ideal machine. -/
set_option linter.unusedVariables false
set_option linter.unusedSimpArgs false
namespace Go.Proofs.YtiekbdijpfnagaaI
open Go Go.RowKit
theorem turnO_sm {n : Nat} {m : Nat → Nat} {lab : List Int → List (Int × Int) → List (Int × Int)} {T : List Int → Shal → Shal} {ls : List (Int × Int)} {l : List (TStep n)} {row : List Int} (h : (Co.prog n).sm (ls, l)) (hl : (lab row ls).length = ls.length) : (Co.prog n).sm (turnO n m lab T ls l row) := by
  unfold turnO
  split
  · exact ⟨labs_sm (by rw [hl]; exact h.1.1), steps_sm_map h.2⟩
  · exact ⟨⟨by simp, by simp⟩, ⟨by simp, by simp⟩⟩
end Go.Proofs.YtiekbdijpfnagaaI
end
section
/- All steps of steps changed; how many steps a program has (the program's). -/
set_option linter.unusedVariables false
set_option linter.unusedSimpArgs false
namespace Go.Proofs.YtiekbdijpfnagaaI
open Go Go.RowKit
theorem allT_map (T : Shal → Shal) : ∀ (n : Nat) (s : TStep n), allT n (mapT T n s) = (allT n s).map T
  | 0, s => s.elim
  | n + 1, (k, x, v, g, th, el) => by
    have go : ∀ l : List (TStep n), allL n (l.map (mapT T n)) = (allL n l).map T := fun l => by
      unfold allL
      rw [List.map_map, List.map_flatten, List.map_map]
      congr 1
      exact List.map_congr_left fun a _ => allT_map T n a
    rw [mapT_succ, allT_succ, allT_succ, go, go, List.map_cons, List.map_append]
theorem allL_map (T : Shal → Shal) {n : Nat} (l : List (TStep n)) : allL n (l.map (mapT T n)) = (allL n l).map T := by
  unfold allL
  rw [List.map_map, List.map_flatten, List.map_map]
  congr 1
  exact List.map_congr_left fun a _ => allT_map T n a
end Go.Proofs.YtiekbdijpfnagaaI
end
section
/- Plans of programs whose variables are named otherwise. -/
set_option linter.unusedVariables false
set_option linter.unusedSimpArgs false
namespace Go.Proofs.YtiekbdijpfnagaaI
open Go Go.RowKit
theorem turnL_at {row : List Int} {ls : List (Int × Int)} (hr : rowB row ls.length = true) {x : Int} (hx : 0 ≤ x ∧ x < ls.length) : (turnL row ls).getD (nameO row x).toNat (0, 0) = ls.getD x.toNat (0, 0) := by
  obtain ⟨h1, h2, h3⟩ := rowB_iff.1 hr
  obtain ⟨hxl, he, hb⟩ := nameO_get hr hx
  have q : (nameO row x).toNat < ls.length := by omega
  rw [List.getD_eq_getElem?_getD]
  unfold turnL
  rw [List.getElem?_map, List.getElem?_range q]
  simp only [Option.map_some, Option.getD_some]
  have : ((nameO row x).toNat : Int) = row[x.toNat] := by omega
  rw [this, h3.idxOf_getElem]
/-- The homes, each at its variable's new name. -/
def turnI (row homes : List Int) : List Int := (List.range homes.length).map fun (i : Nat) => homes.getD (row.idxOf (i : Int)) 0
theorem turnI_len (row homes : List Int) : (turnI row homes).length = homes.length := by simp [turnI]
theorem turnI_at {row homes : List Int} (hr : rowB row homes.length = true) {x : Int} (hx : 0 ≤ x ∧ x < homes.length) : (turnI row homes).getD (nameO row x).toNat 0 = homes.getD x.toNat 0 := by
  obtain ⟨h1, h2, h3⟩ := rowB_iff.1 hr
  obtain ⟨hxl, he, hb⟩ := nameO_get hr hx
  have q : (nameO row x).toNat < homes.length := by omega
  rw [List.getD_eq_getElem?_getD]
  unfold turnI
  rw [List.getElem?_map, List.getElem?_range q]
  simp only [Option.map_some, Option.getD_some]
  have : ((nameO row x).toNat : Int) = row[x.toNat] := by omega
  rw [this, h3.idxOf_getElem]
theorem turnI_mem {row homes : List Int} (h : ∀ x ∈ homes, 0 ≤ x ∧ x ≤ 2) : ∀ x ∈ turnI row homes, 0 ≤ x ∧ x ≤ 2 := by
  intro x hx
  simp only [turnI, List.mem_map, List.mem_range] at hx
  obtain ⟨i, hi, rfl⟩ := hx
  rw [List.getD_eq_getElem?_getD]
  by_cases h' : row.idxOf (i : Int) < homes.length
  · rw [List.getElem?_eq_getElem h']
    exact h _ (List.getElem_mem h')
  · rw [List.getElem?_eq_none (by omega)]
    exact ⟨Int.le_refl _, by show (0 : Int) ≤ 2; omega⟩
theorem valL_turnV {row : List Int} {ls : List (Int × Int)} (hr : rowB row ls.length = true) {v : Int × Int × Int} (hv : valB ls.length v = true) : valL (turnL row ls) (v.1, if v.1 = 2 ∨ v.1 = 3 ∨ v.1 = 4 then nameO row v.2.1 else v.2.1, if v.1 = 3 ∨ v.1 = 4 then nameO row v.2.2 else v.2.2) = valL ls v := by
  obtain ⟨c, x, y⟩ := v
  unfold valB at hv
  simp only at hv
  unfold valL
  simp only
  by_cases c1 : c = 1
  · subst c1; simp
  rw [if_neg c1] at hv
  by_cases c2 : c = 2
  · subst c2
    rw [if_pos rfl, Bool.and_eq_true] at hv
    have := varB_iff.1 hv.1
    have e := turnL_at hr this
    simp only [List.getD_eq_getElem?_getD] at e
    simp [e]
  rw [if_neg c2] at hv
  by_cases c3 : c = 3 ∨ c = 4
  · rw [if_pos c3, Bool.and_eq_true] at hv
    have qx := varB_iff.1 hv.1
    have qy := varB_iff.1 hv.2
    rw [if_neg c1, if_neg c1, if_pos c3, if_pos c3, if_pos (show c = 2 ∨ c = 3 ∨ c = 4 from .inr c3), if_pos c3, turnL_at hr qx, turnL_at hr qy]
  · rw [if_neg c3] at hv; cases hv
theorem fineB_turnV {row : List Int} {ls : List (Int × Int)} (hr : rowB row ls.length = true) {s : Shal} (hs : shB ls.length s = true) (h : Int × Int) : fineB (turnL row ls) (turnS row s) h = fineB ls s h := by
  obtain ⟨kd, x, v, g⟩ := s
  simp only [shB, Bool.and_eq_true] at hs
  have qx := varB_iff.1 hs.1
  unfold fineB
  show (if kd = 1 then flowsB (lboth h (valL (turnL row ls) (v.1, if v.1 = 2 ∨ v.1 = 3 ∨ v.1 = 4 then nameO row v.2.1 else v.2.1, if v.1 = 3 ∨ v.1 = 4 then nameO row v.2.2 else v.2.2))) ((turnL row ls).getD (nameO row x).toNat (0, 0)) else if kd = 3 then hasB (bothS h.1 ((turnL row ls).getD (nameO row x).toNat (0, 0)).1 3) g else true) = _
  rw [turnL_at hr qx]
  by_cases k1 : kd = 1
  · rw [if_pos k1] at hs
    rw [if_pos k1, if_pos k1, valL_turnV hr hs.2]
  · rw [if_neg k1, if_neg k1]
theorem why0_turnV {row : List Int} {ls : List (Int × Int)} (hr : rowB row ls.length = true) : ∀ (ss : List Shal) (hs : List (Int × Int)) (i : Nat), (∀ t ∈ ss, shB ls.length t = true) → why0 (turnL row ls) (ss.map (turnS row)) hs i = why0 ls ss hs i
  | [], _, _, _ => by simp [why0]
  | s :: ss, [], _, _ => by simp [why0]
  | s :: ss, h :: hs, i, ht => by
    rw [List.map_cons, why0, why0, fineB_turnV hr (ht s List.mem_cons_self), why0_turnV hr ss hs (i + 1) (fun t h => ht t (List.mem_cons_of_mem _ h))]
theorem mem_allK {n : Nat} {l : List (TStep n)} {s : TStep n} (hs : s ∈ l) {t : Shal} (ht : t ∈ allT n s) : t ∈ allL n l := by
  unfold allL
  simp only [List.mem_flatten, List.mem_map]
  exact ⟨_, ⟨s, hs, rfl⟩, ht⟩
theorem atT_turnV {row : List Int} {ls : List (Int × Int)} (hr : rowB row ls.length = true) : ∀ (n : Nat) (h : Int × Int) (s : TStep n), (∀ t ∈ allT n s, varB ls.length t.2.1 = true) → atT n (turnL row ls) h (mapT (turnS row) n s) = atT n ls h s
  | 0, _, s, _ => s.elim
  | n + 1, h, (k, x, v, g, th, el), hv => by
    have go : ∀ (h : Int × Int) (l : List (TStep n)), (∀ t ∈ allL n l, varB ls.length t.2.1 = true) → atL n (turnL row ls) h (l.map (mapT (turnS row) n)) = atL n ls h l := fun h l hl => by
      unfold atL
      rw [List.map_map]
      congr 1
      exact List.map_congr_left fun a ha => atT_turnV hr n h a fun t ht => hl t (mem_allK ha ht)
    rw [allT_succ] at hv
    have qx := varB_iff.1 (hv _ List.mem_cons_self)
    rw [mapT_succ]
    show atT (n + 1) (turnL row ls) h (k, nameO row x, _, _, th.map (mapT (turnS row) n), el.map (mapT (turnS row) n)) = _
    rw [atT_succ, atT_succ, turnL_at hr qx, go _ _ (fun t ht => hv t (List.mem_cons_of_mem _ (List.mem_append_left _ ht))), go _ _ (fun t ht => hv t (List.mem_cons_of_mem _ (List.mem_append_right _ ht)))]
theorem atL_turnV {row : List Int} {ls : List (Int × Int)} (hr : rowB row ls.length = true) {n : Nat} {h : Int × Int} (l : List (TStep n)) (hl : ∀ t ∈ allL n l, varB ls.length t.2.1 = true) : atL n (turnL row ls) h (l.map (mapT (turnS row) n)) = atL n ls h l := by
  unfold atL
  rw [List.map_map]
  congr 1
  exact List.map_congr_left fun a ha => atT_turnV hr n h a fun t ht => hl t (mem_allK ha ht)
theorem stT_turnV {row : List Int} {ls : List (Int × Int)} (hr : rowB row ls.length = true) : ∀ (n : Nat) (s : TStep n), (∀ t ∈ allT n s, varB ls.length t.2.1 = true) → stT n (turnL row ls) (mapT (turnS row) n s) = stT n ls s
  | 0, s, _ => s.elim
  | n + 1, (k, x, v, g, th, el), hv => by
    have go : ∀ (l : List (TStep n)), (∀ t ∈ allL n l, varB ls.length t.2.1 = true) → stL n (turnL row ls) (l.map (mapT (turnS row) n)) = stL n ls l := fun l hl => by
      unfold stL
      rw [List.map_map]
      congr 1
      exact List.map_congr_left fun a ha => stT_turnV hr n a fun t ht => hl t (mem_allK ha ht)
    rw [allT_succ] at hv
    have qx := varB_iff.1 (hv _ List.mem_cons_self)
    rw [mapT_succ]
    show stT (n + 1) (turnL row ls) (k, nameO row x, _, _, th.map (mapT (turnS row) n), el.map (mapT (turnS row) n)) = _
    rw [stT_succ, stT_succ, turnL_at hr qx, go _ (fun t ht => hv t (List.mem_cons_of_mem _ (List.mem_append_left _ ht))), go _ (fun t ht => hv t (List.mem_cons_of_mem _ (List.mem_append_right _ ht)))]
/-- Steps, each with who trusts what is set in it. -/
def prA (ls : List (Int × Int)) (s : AnyS) : Shal × Int := (shA s, stA ls s)
def prL (n : Nat) (ls : List (Int × Int)) (l : List (TStep n)) : List (Shal × Int) := (allSL n l).map (prA ls)
theorem prL_flat {n : Nat} {ls : List (Int × Int)} {l : List (TStep n)} : prL n ls l = (l.map fun s => (allS n s).map (prA ls)).flatten := by
  unfold prL allSL
  rw [List.map_flatten, List.map_map]
  rfl
theorem prT_map {T : Shal → Shal} {ls ls' : List (Int × Int)} : ∀ (n : Nat) (s : TStep n), (∀ m (s : TStep m), (∀ t ∈ allT m s, varB ls.length t.2.1 = true) → stT m ls' (mapT T m s) = stT m ls s) → (∀ t ∈ allT n s, varB ls.length t.2.1 = true) → (allS n (mapT T n s)).map (prA ls') = ((allS n s).map (prA ls)).map fun x => (T x.1, x.2)
  | 0, s, _, _ => s.elim
  | n + 1, (k, x, v, g, th, el), hT, hv => by
    have h0 := hT (n + 1) (k, x, v, g, th, el) hv
    rw [allT_succ] at hv
    have go : ∀ (l : List (TStep n)), (∀ t ∈ allL n l, varB ls.length t.2.1 = true) → (allSL n (l.map (mapT T n))).map (prA ls') = ((allSL n l).map (prA ls)).map fun x => (T x.1, x.2) := fun l hl => by
      show prL n ls' _ = (prL n ls l).map _
      rw [prL_flat, prL_flat, List.map_flatten, List.map_map, List.map_map]
      congr 1
      exact List.map_congr_left fun a ha => prT_map n a hT fun t ht => hl t (mem_allK ha ht)
    rw [mapT_succ] at h0 ⊢
    rw [allS_succ, allS_succ, List.map_cons, List.map_cons, List.map_cons, List.map_append, List.map_append, List.map_append, go _ (fun t ht => hv t (List.mem_cons_of_mem _ (List.mem_append_left _ ht))), go _ (fun t ht => hv t (List.mem_cons_of_mem _ (List.mem_append_right _ ht)))]
    congr 1
    exact Prod.ext rfl h0
theorem prL_map {T : Shal → Shal} {ls ls' : List (Int × Int)} {n : Nat} (l : List (TStep n)) (hT : ∀ m (s : TStep m), (∀ t ∈ allT m s, varB ls.length t.2.1 = true) → stT m ls' (mapT T m s) = stT m ls s) (hl : ∀ t ∈ allL n l, varB ls.length t.2.1 = true) : prL n ls' (l.map (mapT T n)) = (prL n ls l).map fun x => (T x.1, x.2) := by
  rw [prL_flat, prL_flat, List.map_flatten, List.map_map, List.map_map]
  congr 1
  exact List.map_congr_left fun a ha => prT_map n a hT fun t ht => hl t (mem_allK ha ht)
theorem prL_sh {n : Nat} {ls : List (Int × Int)} {l : List (TStep n)} (h : ∀ t ∈ allL n l, shB ls.length t = true) : ∀ x ∈ prL n ls l, shB ls.length x.1 = true := by
  intro x hx
  unfold prL at hx
  obtain ⟨s, hs, rfl⟩ := List.mem_map.1 hx
  refine h _ ?_
  show shA s ∈ _
  rw [← allSL_sh]
  exact List.mem_map_of_mem hs
theorem doesL_pr {n : Nat} {p : TProg n} {ts homes : List Int} : doesL n p ts homes = List.zipWith (fun x own => doerV p.1 ts homes x.1 x.2 own) (prL n p.1 p.2) (atL n p.1 (7, 7) p.2) := by
  unfold doesL prL
  rw [List.zipWith_map_left]
  rfl
theorem zipWith_same {α β γ : Type} {f g : α → β → γ} : ∀ (l : List α) (l' : List β), (∀ a ∈ l, ∀ b, f a b = g a b) → List.zipWith f l l' = List.zipWith g l l'
  | [], _, _ => by simp
  | _ :: _, [], _ => by simp
  | a :: l, b :: l', h => by
    rw [List.zipWith_cons_cons, List.zipWith_cons_cons, h a List.mem_cons_self, zipWith_same l l' fun a ha => h a (List.mem_cons_of_mem _ ha)]
theorem all_mapJ {α β : Type} {f : α → β} {p : β → Bool} {q : α → Bool} : ∀ l : List α, (∀ a ∈ l, p (f a) = q a) → (l.map f).all p = l.all q
  | [], _ => rfl
  | a :: l, h => by
    rw [List.map_cons, List.all_cons, List.all_cons, h a List.mem_cons_self, all_mapJ l fun a ha => h a (List.mem_cons_of_mem _ ha)]
theorem varsL_turnV {row : List Int} {c a b : Int} : varsL (c, if c = 2 ∨ c = 3 ∨ c = 4 then nameO row a else a, if c = 3 ∨ c = 4 then nameO row b else b) = (varsL (c, a, b)).map (nameO row) := by
  unfold varsL
  simp only
  by_cases c2 : c = 2
  · rw [if_pos c2, if_pos c2, if_pos (Or.inl c2)]; rfl
  rw [if_neg c2, if_neg c2]
  by_cases c3 : c = 3 ∨ c = 4
  · rw [if_pos c3, if_pos c3, if_pos (Or.inr c3), if_pos c3]; rfl
  · rw [if_neg c3, if_neg c3]; rfl
theorem makesL_turnV {row : List Int} (s : Shal) : makesL (turnS row s) = (makesL s).map (nameO row) := by
  obtain ⟨k, x, ⟨c, a, b⟩, g⟩ := s
  unfold makesL
  show (if k = 1 then varsL _ else [nameO row x]) = _
  by_cases k1 : k = 1
  · rw [if_pos k1, if_pos k1]
    exact varsL_turnV
  · rw [if_neg k1, if_neg k1]
    rfl
theorem doesB_turnV {row : List Int} {ls : List (Int × Int)} {ts homes : List Int} (hr : rowB row ls.length = true) (hh : homes.length = ls.length) {s : Shal} (hs : shB ls.length s = true) (st : Int) (own : Int × Int) (h : Int) : doesB (turnL row ls) ts (turnI row homes) (turnS row s) st own h = doesB ls ts homes s st own h := by
  have hr' : rowB row homes.length = true := by rw [hh]; exact hr
  have hm := makesL_in hs
  unfold doesB
  rw [makesL_turnV, all_mapJ (q := mkP ls homes own h) (makesL s) fun v hv => by
    have qv := hm v hv
    unfold mkP
    rw [turnL_at hr qv, turnI_at hr' (by omega)]]
  congr 1
  congr 1
  obtain ⟨k, x, v, g⟩ := s
  simp only [shB, Bool.and_eq_true] at hs
  have qx := varB_iff.1 hs.1
  show (decide (k ≠ 1) || hasB own.1 ((turnI row homes).getD (nameO row x).toNat 0)) = _
  rw [turnI_at hr' (by omega)]
theorem doesL_turnV {n : Nat} {ls : List (Int × Int)} {l : List (TStep n)} {row ts homes : List Int} (h : progB n (ls, l) = true) (hr : rowB row ls.length = true) (hh : homes.length = ls.length) : doesL n (turnL row ls, l.map (mapT (turnS row) n)) ts (turnI row homes) = doesL n (ls, l) ts homes := by
  have hsh := progB_sh h
  have hvr : ∀ t ∈ allL n l, varB ls.length t.2.1 = true := fun t ht => shB_var (hsh t ht)
  refine doesL_pr.trans (Eq.trans ?_ doesL_pr.symm)
  show List.zipWith (fun x own => doerV (turnL row ls) ts (turnI row homes) x.1 x.2 own) (prL n (turnL row ls) (l.map (mapT (turnS row) n))) (atL n (turnL row ls) (7, 7) (l.map (mapT (turnS row) n))) = List.zipWith (fun x own => doerV ls ts homes x.1 x.2 own) (prL n ls l) (atL n ls (7, 7) l)
  rw [atL_turnV hr l hvr, prL_map l (fun m s hs => stT_turnV hr m s hs) hvr, List.zipWith_map_left]
  refine zipWith_same _ _ fun x hx own => ?_
  unfold doerV
  congr 1
  funext h
  exact doesB_turnV hr hh (prL_sh hsh x hx) _ _ _
theorem hmL_mem {ls : List (Int × Int)} {ts : List Int} : ∀ (v : Nat) (l : List Int), l.length = v → (∀ x ∈ l, 0 ≤ x ∧ x ≤ 2) → (∀ i (h : i < l.length), hmB ls ts i l[i] = true) → l ∈ hmL ls ts v
  | 0, l, h, _, _ => by rw [List.eq_nil_of_length_eq_zero h]; simp [hmL]
  | v + 1, l, h, h2, h3 => by
    have hne : l ≠ [] := fun h' => by rw [h'] at h; simp at h
    have hd : l = l.dropLast ++ [l.getLast hne] := (List.dropLast_concat_getLast hne).symm
    simp only [hmL, List.mem_flatMap, List.mem_map]
    refine ⟨l.dropLast, hmL_mem v _ (by rw [List.length_dropLast]; omega) (fun x hx => h2 x (List.dropLast_subset _ hx)) (fun i hi => ?_), l.getLast hne, ?_, hd.symm⟩
    · rw [List.getElem_dropLast]
      exact h3 i (by rw [List.length_dropLast] at hi; omega)
    · have hb := h2 _ (List.getLast_mem hne)
      have hp := h3 (l.length - 1) (by omega)
      rw [← List.getLast_eq_getElem hne, show l.length - 1 = v by omega] at hp
      unfold hostsL
      refine List.mem_filter.2 ⟨?_, hp⟩
      rw [List.take_of_length_le (by simp)]
      simp only [List.mem_cons, List.not_mem_nil, or_false]
      omega
theorem findV_some {n : Nat} {p : TProg n} {ts : List Int} : (findV n p ts).isSome = true ↔ (typeP n p = true ∧ trK ts = true) ∧ ∃ homes, (homes.length = p.1.length ∧ (∀ x ∈ homes, 0 ≤ x ∧ x ≤ 2) ∧ ∀ (i : Nat) (h : i < homes.length), hmB p.1 ts i homes[i] = true) ∧ fitsB n p ts homes = true := by
  unfold findV
  by_cases hc : (typeP n p && trK ts) = true
  · rw [if_pos hc, List.find?_isSome]
    rw [Bool.and_eq_true] at hc
    constructor
    · rintro ⟨homes, h1, h2⟩
      exact ⟨hc, homes, hmL_el _ _ h1, h2⟩
    · rintro ⟨_, homes, ⟨a, b, c⟩, h2⟩
      exact ⟨homes, hmL_mem _ _ a b c, h2⟩
  · rw [if_neg hc]
    rw [Bool.and_eq_true] at hc
    constructor
    · intro h; cases h
    · rintro ⟨h, _⟩
      exact absurd h hc
theorem whyV_turnV {n : Nat} {ls : List (Int × Int)} {l : List (TStep n)} {row : List Int} (h : progB n (ls, l) = true) (hr : rowB row ls.length = true) : whyV n (turnL row ls, l.map (mapT (turnS row) n)) = whyV n (ls, l) := by
  have hsh := progB_sh h
  rw [whyV_yes h, whyV_yes (turnV_ok h hr), allL_map, atL_turnV hr l fun t ht => shB_var (hsh t ht)]
  exact why0_turnV hr _ _ 0 hsh
theorem findV_turnV1 {n : Nat} {ls : List (Int × Int)} {l : List (TStep n)} {row ts : List Int} (h : progB n (ls, l) = true) (hr : rowB row ls.length = true) (hf : (findV n (ls, l) ts).isSome = true) : (findV n (turnL row ls, l.map (mapT (turnS row) n)) ts).isSome = true := by
  obtain ⟨⟨ht, hk⟩, homes, ⟨h1, h2, h3⟩, h4⟩ := findV_some.1 hf
  simp only at h1 h3
  have hr' : rowB row homes.length = true := by rw [h1]; exact hr
  refine findV_some.2 ⟨⟨?_, hk⟩, turnI row homes, ⟨?_, turnI_mem h2, fun i hi => ?_⟩, ?_⟩
  · unfold typeP at ht ⊢
    rw [whyV_turnV h hr, turnV_ok h hr]
    rw [h] at ht
    exact ht
  · show (turnI row homes).length = (turnL row ls).length
    rw [turnI_len, turnL_len, h1]
  · rw [turnI_len] at hi
    obtain ⟨q1, q2, q3⟩ := rowB_iff.1 hr'
    have hm : (i : Int) ∈ row := row_inj _ _ q1 q2 q3 i hi
    have hix : row.idxOf (i : Int) < row.length := List.idxOf_lt_length_iff.2 hm
    have hnm : nameO row (row.idxOf (i : Int) : Nat) = i := by
      unfold nameO
      rw [Int.toNat_natCast, List.getD_eq_getElem?_getD, List.getElem?_eq_getElem hix, Option.getD_some, List.getElem_idxOf hix]
    have ha := turnI_at hr' (x := (row.idxOf (i : Int) : Nat)) (by omega)
    have hb := turnL_at hr (x := (row.idxOf (i : Int) : Nat)) (by omega)
    rw [hnm, Int.toNat_natCast, Int.toNat_natCast, List.getD_eq_getElem?_getD, List.getD_eq_getElem?_getD, List.getElem?_eq_getElem (show i < (turnI row homes).length by rw [turnI_len]; exact hi), List.getElem?_eq_getElem (show row.idxOf (i : Int) < homes.length by omega), Option.getD_some, Option.getD_some] at ha
    have hc := h3 (row.idxOf (i : Int)) (by omega)
    rw [ha]
    unfold hmB at hc ⊢
    rw [hnm, Int.toNat_natCast, Int.toNat_natCast] at hb
    rw [Int.toNat_natCast] at hc ⊢
    simp only
    rw [hb]
    exact hc
  · unfold fitsB at h4 ⊢
    rw [doesL_turnV h hr h1]
    exact h4
/-- A program whose variables are named otherwise can be parted just if it could. -/
theorem findV_turnV {n : Nat} {ls : List (Int × Int)} {l : List (TStep n)} {row ts : List Int} (h : progB n (ls, l) = true) (hr : rowB row ls.length = true) : (findV n (turnL row ls, l.map (mapT (turnS row) n)) ts).isSome = (findV n (ls, l) ts).isSome := by
  rw [Bool.eq_iff_iff]
  refine ⟨fun hf => ?_, findV_turnV1 h hr⟩
  obtain ⟨h1, h2⟩ := turnV_back h hr
  have := findV_turnV1 (row := backR row) (turnV_ok h hr) (by rw [turnL_len]; exact rowB_back hr) hf
  unfold turnO at h1
  rw [if_pos h2] at h1
  rw [h1] at this
  exact this
end Go.Proofs.YtiekbdijpfnagaaI
end
section
/- The law FnTurnVarsType on the ideal machine. -/
set_option linter.unusedVariables false
set_option linter.unusedSimpArgs false
namespace Go.Proofs.YtiekbdijpfnagaaI
open Go Go.RowKit
def c_lawTVT : IFn := ⟨1, 93, [.t 2],
 .seq (.reg none [
    ⟨(some 2), none, .mov (.c (.bool false))⟩])
 (.seq (.seq (.reg none [
     ⟨(some 17), none, .mov (.t 0)⟩,
     ⟨(some 18), none, .len (.t 17)⟩,
     ⟨(some 19), none, .bin .gtr (.t 18) (.c (.int .i64 1048576))⟩])
  (.cond (.t 19) (.seq (.reg none [
      ⟨(some 2), none, .mov (.c (.bool true))⟩])
   (.ret)) (.skip)))
 (.seq (.reg none [
    ⟨(some 21), none, .mov (.t 0)⟩,
    ⟨(some 22), none, .call .k (.f 35) [(.t 21)]⟩,
    ⟨(some 20), none, .mov (.t 22)⟩,
    ⟨(some 23), none, .ext (.t 20) 0⟩,
    ⟨(some 24), none, .ext (.t 20) 1⟩,
    ⟨(some 3), none, .new [(.slice none 0 0), (.slice none 0 0)]⟩,
    ⟨none, none, .store 2 (.t 3) (.t 23)⟩,
    ⟨(some 4), none, .mov (.t 24)⟩])
 (.seq (.reg none [
    ⟨(some 26), none, .load true 2 (.t 3)⟩,
    ⟨(some 27), none, .mov (.t 4)⟩,
    ⟨(some 28), none, .call .k (.f 36) [(.t 26), (.t 27)]⟩,
    ⟨(some 25), none, .mov (.t 28)⟩,
    ⟨(some 29), none, .ext (.t 25) 0⟩,
    ⟨(some 30), none, .ext (.t 25) 1⟩,
    ⟨(some 5), none, .new [(.slice none 0 0), (.slice none 0 0)]⟩,
    ⟨none, none, .store 2 (.t 5) (.t 29)⟩,
    ⟨(some 6), none, .mov (.t 30)⟩])
 (.seq (.reg none [
    ⟨(some 32), none, .load true 2 (.t 3)⟩,
    ⟨(some 33), none, .mov (.t 4)⟩,
    ⟨(some 34), none, .call .k (.f 37) [(.t 32), (.t 33)]⟩,
    ⟨(some 31), none, .mov (.t 34)⟩,
    ⟨(some 35), none, .ext (.t 31) 0⟩,
    ⟨(some 36), none, .ext (.t 31) 1⟩,
    ⟨(some 7), none, .new [(.slice none 0 0), (.slice none 0 0)]⟩,
    ⟨none, none, .store 2 (.t 7) (.t 35)⟩,
    ⟨(some 8), none, .mov (.t 36)⟩])
 (.seq (.seq (.reg none [
     ⟨(some 37), none, .mov (.t 8)⟩,
     ⟨(some 38), none, .mov (.t 6)⟩,
     ⟨(some 39), none, .beq true (.t 37) (.t 38)⟩,
     ⟨(some 40), none, .mov (.t 39)⟩,
     ⟨(some 41), (some (40, false)), .load true 2 (.t 7)⟩,
     ⟨(some 42), (some (40, false)), .load true 2 (.t 5)⟩,
     ⟨(some 43), (some (40, false)), .call .q (.f 38) [(.t 41), (.t 42)]⟩,
     ⟨(some 44), (some (40, false)), .un .not (.t 43)⟩,
     ⟨(some 45), none, .pick (.t 40) (.c (.bool true)) (.t 44)⟩,
     ⟨(some 46), none, .mov (.t 45)⟩,
     ⟨(some 47), (some (46, false)), .mov (.t 8)⟩,
     ⟨(some 48), (some (46, false)), .un .not (.t 47)⟩,
     ⟨(some 49), none, .pick (.t 46) (.c (.bool true)) (.t 48)⟩])
  (.cond (.t 49) (.seq (.reg none [
      ⟨(some 50), none, .mov (.t 8)⟩,
      ⟨(some 51), none, .mov (.t 6)⟩,
      ⟨(some 52), none, .beq false (.t 50) (.t 51)⟩,
      ⟨(some 53), none, .mov (.t 52)⟩,
      ⟨(some 54), (some (53, true)), .load true 2 (.t 7)⟩,
      ⟨(some 55), (some (53, true)), .load true 2 (.t 5)⟩,
      ⟨(some 56), (some (53, true)), .call .q (.f 38) [(.t 54), (.t 55)]⟩,
      ⟨(some 57), none, .pick (.t 53) (.t 56) (.c (.bool false))⟩,
      ⟨(some 2), none, .mov (.t 57)⟩])
   (.ret)) (.skip)))
 (.seq (.reg none [
    ⟨(some 59), none, .load true 2 (.t 3)⟩,
    ⟨(some 60), none, .call .q (.f 39) [(.t 59)]⟩,
    ⟨(some 58), none, .mov (.t 60)⟩,
    ⟨(some 61), none, .ext (.t 58) 0⟩,
    ⟨(some 62), none, .ext (.t 58) 1⟩,
    ⟨(some 9), none, .mov (.t 61)⟩,
    ⟨(some 10), none, .mov (.t 62)⟩])
 (.seq (.reg none [
    ⟨(some 64), none, .load true 2 (.t 7)⟩,
    ⟨(some 65), none, .call .q (.f 39) [(.t 64)]⟩,
    ⟨(some 63), none, .mov (.t 65)⟩,
    ⟨(some 66), none, .ext (.t 63) 0⟩,
    ⟨(some 67), none, .ext (.t 63) 1⟩,
    ⟨(some 11), none, .mov (.t 66)⟩,
    ⟨(some 12), none, .mov (.t 67)⟩])
 (.seq (.reg none [
    ⟨(some 69), none, .load true 2 (.t 3)⟩,
    ⟨(some 70), none, .lit 1 3 3 [(.int .i64 0), (.int .i64 0), (.int .i64 0)] [(0, 1, (.c (.int .i64 7))), (1, 1, (.c (.int .i64 7))), (2, 1, (.c (.int .i64 7)))]⟩,
    ⟨(some 71), none, .call .k (.f 12) [(.t 69), (.t 70)]⟩,
    ⟨(some 68), none, .mov (.t 71)⟩,
    ⟨(some 72), none, .ext (.t 68) 0⟩,
    ⟨(some 73), none, .ext (.t 68) 1⟩,
    ⟨(some 13), none, .new [(.slice none 0 0), (.slice none 0 0), (.slice none 0 0)]⟩,
    ⟨none, none, .store 3 (.t 13) (.t 72)⟩,
    ⟨(some 14), none, .mov (.t 73)⟩])
 (.seq (.reg none [
    ⟨(some 75), none, .load true 2 (.t 7)⟩,
    ⟨(some 76), none, .lit 1 3 3 [(.int .i64 0), (.int .i64 0), (.int .i64 0)] [(0, 1, (.c (.int .i64 7))), (1, 1, (.c (.int .i64 7))), (2, 1, (.c (.int .i64 7)))]⟩,
    ⟨(some 77), none, .call .k (.f 12) [(.t 75), (.t 76)]⟩,
    ⟨(some 74), none, .mov (.t 77)⟩,
    ⟨(some 78), none, .ext (.t 74) 0⟩,
    ⟨(some 79), none, .ext (.t 74) 1⟩,
    ⟨(some 15), none, .new [(.slice none 0 0), (.slice none 0 0), (.slice none 0 0)]⟩,
    ⟨none, none, .store 3 (.t 15) (.t 78)⟩,
    ⟨(some 16), none, .mov (.t 79)⟩])
 (.seq (.reg none [
    ⟨(some 80), none, .mov (.t 10)⟩,
    ⟨(some 81), none, .mov (.t 12)⟩,
    ⟨(some 82), none, .beq false (.t 80) (.t 81)⟩,
    ⟨(some 83), none, .mov (.t 82)⟩,
    ⟨(some 84), (some (83, true)), .mov (.t 9)⟩,
    ⟨(some 85), (some (83, true)), .mov (.t 11)⟩,
    ⟨(some 86), (some (83, true)), .bin .eql (.t 84) (.t 85)⟩,
    ⟨(some 87), none, .pick (.t 83) (.t 86) (.c (.bool false))⟩,
    ⟨(some 88), none, .mov (.t 87)⟩,
    ⟨(some 89), (some (88, true)), .mov (.t 14)⟩,
    ⟨(some 90), (some (88, true)), .mov (.t 16)⟩,
    ⟨(some 91), (some (88, true)), .beq false (.t 89) (.t 90)⟩,
    ⟨(some 92), none, .pick (.t 88) (.t 91) (.c (.bool false))⟩,
    ⟨(some 2), none, .mov (.t 92)⟩])
 (.ret)))))))))))⟩
theorem PlanR.one {lo : Nat} {H : Heap} {tv hv dv : Value} {ts : List Int} {o : Option (List Int)} {d : List Int → List Int} (h : PlanR lo H tv hv dv ts o d) : Go.Proofs.YtiekbdijpfnagaaI.one tv = true ∧ Go.Proofs.YtiekbdijpfnagaaI.one hv = true ∧ Go.Proofs.YtiekbdijpfnagaaI.one dv = true := by
  cases o with
  | none => obtain ⟨rfl, rfl, rfl⟩ := h; exact ⟨rfl, rfl, rfl⟩
  | some homes =>
    have h : PlanOwn lo H tv hv dv ts homes (d homes) := h
    exact ⟨(h.t (fun _ => none)).one, (h.h (fun _ => none)).one, (h.d (fun _ => none)).one⟩
set_option maxHeartbeats 4000000 in
theorem lawTVT_ok {F : Nat → Option IFn} {f : Nat} (hf : F f = some c_lawTVT) (gd : DrawNumsOk F 35) (gs : TurnPOk F 36 (fun k => k) turnL turnS) (gi : TurnPOk F 37 (fun k => k) turnL turnS) (gl : SamePOk F 38) (gw : WhyV F 39) (gf : FindI F 12) : LawB F f := by
  intro H v code hv
  have hv0 := hv
  obtain ⟨h0, a, rfl, _⟩ := hv
  refine QC.mk hf rfl ?_
  refine seq_reg ?_
  simp only [go_sem, binC]
  refine seq_assoc (seq_reg ?_)
  simp only [go_sem, binC]
  by_cases hbig : 1048576 < (code.length : Int)
  · refine seq_cond (t := true) (by simp only [go_sem, binC]; rw [decide_eq_true hbig]) ?_
    simp only [go_sem, binC]
    refine seq_assoc (seq_reg ?_)
    simp only [go_sem, binC]
    exact seq_ret ⟨Or.inr rfl, .bool true, by simp only [go_sem, binC], rfl, rfl⟩
  refine seq_cond (t := false) (by simp only [go_sem, binC]; rw [decide_eq_false hbig]) ?_
  simp only [go_sem, binC]
  refine seq_skip (seq_reg ?_)
  simp only [go_sem, binC]
  obtain ⟨d, lv, sv, nv, ls, l, row, H1, k, hx, r1, r2, r3, r4⟩ := gd H _ code hv0
  have hl1 := hx.1
  obtain ⟨_, la0, rfl, _⟩ := id r1
  have osv : one sv = true := by obtain ⟨_, a, rfl, _⟩ := r2; rfl
  obtain ⟨_, na0, rfl, _⟩ := id r4
  refine op_callK (by simp only [go_sem, binC]; exact k) ?_
  simp only [go_sem, binC, osv]
  refine ⟨by omega, ?_⟩
  refine wpc_gen fun H2 hH2 => ?_
  have hb : H2[H1.length]? = some ⟨[.slice la0 ls.length ls.length, sv], 0, 0, false, true⟩ := hH2 ▸ get_new0 _ _
  have hy : AgX [] H1 H2 := hH2 ▸ AgX.app [] _ _
  have hl2 : H2.length = H1.length + 1 := by rw [hH2, List.length_append]; rfl
  replace r1 := r1.mono (agx_sub hy)
  replace r2 := r2.mono (agx_sub hy)
  replace r4 := r4.mono (agx_sub hy)
  clear hH2
  have hls0 : ls.length ≤ 1048576 := r3.1.1
  have hOs : (Co.prog d).sm (turnO d (fun k => k) turnL turnS ls l row) := turnO_sm r3 (by simp [turnL_len])
  refine seq_reg ?_
  simp only [go_sem, binC, gc_of hb, inBlk_some, osv]
  obtain ⟨lw, sw, H3, k3, x3, w1, w2⟩ := gs H2 d _ _ _ ls l row r1 r2 r3 r4
  obtain ⟨_, lwa, rfl, _⟩ := id w1
  have osw : one sw = true := by obtain ⟨_, a, rfl, _⟩ := w2; rfl
  have hl3 := x3.1
  refine op_callK (by simp only [go_sem, binC]; exact k3) ?_
  simp only [go_sem, binC, osw]
  refine ⟨by omega, ?_⟩
  refine wpc_gen fun H4 hH4 => ?_
  have x4 : AgX [] H3 H4 := hH4 ▸ AgX.app [] _ _
  have hbw : H4[H3.length]? = some ⟨[.slice lwa (turnO d (fun k => k) turnL turnS ls l row).1.length (turnO d (fun k => k) turnL turnS ls l row).1.length, sw], 0, 0, false, true⟩ := hH4 ▸ get_new0 _ _
  have hl4 : H4.length = H3.length + 1 := by rw [hH4, List.length_append]; rfl
  clear hH4
  have x24 := x3.tr x4
  have hb4 := x24.get hb (by simp)
  replace w1 := w1.mono (agx_sub x4)
  replace w2 := w2.mono (agx_sub x4)
  replace r1 := r1.mono (agx_sub x24)
  replace r2 := r2.mono (agx_sub x24)
  replace r4 := r4.mono (agx_sub x24)
  refine seq_reg ?_
  simp only [go_sem, binC, gc_of hb4, inBlk_some, osv]
  obtain ⟨lq, sq, H5, k5, x5, q1, q2⟩ := gi H4 d _ _ _ ls l row r1 r2 r3 r4
  obtain ⟨_, lqa, rfl, _⟩ := id q1
  have osq : one sq = true := by obtain ⟨_, a, rfl, _⟩ := q2; rfl
  have hl5 := x5.1
  refine op_callK (by simp only [go_sem, binC]; exact k5) ?_
  simp only [go_sem, binC, osq]
  refine ⟨by omega, ?_⟩
  refine wpc_gen fun H6 hH6 => ?_
  have x6 : AgX [] H5 H6 := hH6 ▸ AgX.app [] _ _
  have hbq : H6[H5.length]? = some ⟨[.slice lqa (turnO d (fun k => k) turnL turnS ls l row).1.length (turnO d (fun k => k) turnL turnS ls l row).1.length, sq], 0, 0, false, true⟩ := hH6 ▸ get_new0 _ _
  have hl6 : H6.length = H5.length + 1 := by rw [hH6, List.length_append]; rfl
  clear hH6
  have x46 := x5.tr x6
  have hb6 := x46.get hb4 (by simp)
  have hbw6 := x46.get hbw (by simp)
  replace q1 := q1.mono (agx_sub x6)
  replace q2 := q2.mono (agx_sub x6)
  replace w1 := w1.mono (agx_sub x46)
  replace w2 := w2.mono (agx_sub x46)
  replace r1 := r1.mono (agx_sub x46)
  replace r2 := r2.mono (agx_sub x46)
  replace r4 := r4.mono (agx_sub x46)
  have hEq : QC F 38 [.agg #[.slice lqa (turnO d (fun k => k) turnL turnS ls l row).1.length (turnO d (fun k => k) turnL turnS ls l row).1.length, sq], .agg #[.slice lwa (turnO d (fun k => k) turnL turnS ls l row).1.length (turnO d (fun k => k) turnL turnS ls l row).1.length, sw]] H6 (.bool true) := gl H6 d _ _ _ _ _ _ q1 q2 w1 w2 hOs
  have hx26 : AgX [] H2 H6 := x24.tr x46
  clear k k3 k5
  refine seq_assoc (seq_reg ?_)
  cases hB : turnB d (fun k => k) ls l row with
  | false =>
    simp only [go_sem, binC, hB, beq_self_eq_true, gc_of hbq, gc_of hbw6, inBlk_some, osq, osw]
    refine op_callQ (by simp only [go_sem, binC]; exact hEq) ?_
    simp only [go_sem, binC, hB]
    refine seq_cond (t := true) rfl ?_
    simp only [go_sem, binC]
    refine seq_assoc (seq_reg ?_)
    simp only [go_sem, binC, hB, beq_self_eq_true, gc_of hbq, gc_of hbw6, inBlk_some, osq, osw]
    refine op_callQ (by simp only [go_sem, binC]; exact hEq) ?_
    simp only [go_sem, binC]
    exact seq_ret ⟨Or.inr rfl, .bool true, by simp only [go_sem, binC], rfl, rfl⟩
  | true =>
  simp only [go_sem, binC, hB, beq_self_eq_true, gc_of hbq, gc_of hbw6, inBlk_some, osq, osw]
  refine op_callQ (by simp only [go_sem, binC]; exact hEq) ?_
  simp only [go_sem, binC, hB]
  refine seq_cond (t := false) rfl ?_
  simp only [go_sem, binC]
  have hPR : (progB d (ls, l) && rowB row ls.length) = true := hB
  rw [Bool.and_eq_true] at hPR
  obtain ⟨hP, hR⟩ := hPR
  have hO : turnO d (fun k => k) turnL turnS ls l row = (turnL row ls, l.map (mapT (turnS row) d)) := if_pos hB
  clear hEq
  rw [hO] at q1 q2 hbq hOs
  simp only at q1 q2 hbq
  have hw1 := gw H6 d _ sv ls l r1 r2 r3
  have hw2 := gw H6 d _ sq _ _ q1 q2 hOs
  rw [whyV_turnV hP hR] at hw2
  have hfv := findV_turnV (ts := [7, 7, 7]) hP hR
  generalize whyV d (ls, l) = wv at hw1 hw2
  refine seq_skip (seq_reg ?_)
  simp only [go_sem, binC, gc_of hb6, inBlk_some, osv]
  refine op_callQ (by simp only [go_sem, binC]; exact hw1) ?_
  simp only [go_sem, binC]
  refine seq_reg ?_
  simp only [go_sem, binC, gc_of hbq, inBlk_some, osq]
  refine op_callQ (by simp only [go_sem, binC]; exact hw2) ?_
  simp only [go_sem, binC]
  refine seq_reg ?_
  simp only [go_sem, binC, gc_of hb6, inBlk_some, osv]
  generalize hL1 : H6 ++ [(⟨[.int .i64 7, .int .i64 7, .int .i64 7], 1, 3, true, true⟩ : Blk)] = L1
  have xL1 : AgX [] H6 L1 := hL1 ▸ AgX.app [] _ _
  have hbL1 : L1[H6.length]? = some ⟨[.int .i64 7, .int .i64 7, .int .i64 7], 1, 3, true, true⟩ := hL1 ▸ get_new0 _ _
  have lL1 : L1.length = H6.length + 1 := by rw [← hL1, List.length_append]; rfl
  clear hL1
  have ts1 : SlR Co.int (vw 0 L1) (sli H6.length 0 3) [7, 7, 7] := ints_sl0 (l := [7, 7, 7]) hbL1 (fun x hx => by simp only [List.mem_cons, List.not_mem_nil, or_false] at hx; unfold RgI; omega) (by simp)
  obtain ⟨tv1, hv1, dv1, M1, km1, xm1, own1⟩ := gf L1 d _ _ _ _ _ [7, 7, 7] (r1.mono (agx_sub xL1)) (r2.mono (agx_sub xL1)) r3 ts1
  obtain ⟨oa1, ob1, oc1⟩ := own1.one
  have lm1 := xm1.1
  refine op_callK (by simp only [go_sem, binC]; exact km1) ?_
  simp only [go_sem, binC, oa1, ob1, oc1]
  refine ⟨by omega, ?_⟩
  refine wpc_gen fun H7 hHn => ?_
  have xn1 : AgX [] M1 H7 := hHn ▸ AgX.app [] _ _
  have ln1 : H7.length = M1.length + 1 := by rw [hHn, List.length_append]; rfl
  clear hHn
  have xx1 : AgX [] H6 H7 := xL1.tr (xm1.tr xn1)
  have hbq7 := xx1.get hbq (by simp)
  refine seq_reg ?_
  simp only [go_sem, binC, gc_of hbq7, inBlk_some, osq]
  generalize hL2 : H7 ++ [(⟨[.int .i64 7, .int .i64 7, .int .i64 7], 1, 3, true, true⟩ : Blk)] = L2
  have xL2 : AgX [] H7 L2 := hL2 ▸ AgX.app [] _ _
  have hbL2 : L2[H7.length]? = some ⟨[.int .i64 7, .int .i64 7, .int .i64 7], 1, 3, true, true⟩ := hL2 ▸ get_new0 _ _
  have lL2 : L2.length = H7.length + 1 := by rw [← hL2, List.length_append]; rfl
  clear hL2
  have ts2 : SlR Co.int (vw 0 L2) (sli H7.length 0 3) [7, 7, 7] := ints_sl0 (l := [7, 7, 7]) hbL2 (fun x hx => by simp only [List.mem_cons, List.not_mem_nil, or_false] at hx; unfold RgI; omega) (by simp)
  obtain ⟨tv2, hv2, dv2, M2, km2, xm2, own2⟩ := gf L2 d _ _ _ _ _ [7, 7, 7] ((q1.mono (agx_sub xx1)).mono (agx_sub xL2)) ((q2.mono (agx_sub xx1)).mono (agx_sub xL2)) hOs ts2
  obtain ⟨oa2, ob2, oc2⟩ := own2.one
  have lm2 := xm2.1
  refine op_callK (by simp only [go_sem, binC]; exact km2) ?_
  rw [hfv]
  simp only [go_sem, binC, oa2, ob2, oc2]
  refine ⟨by omega, ?_⟩
  refine wpc_gen fun H8 hHn => ?_
  have xn2 : AgX [] M2 H8 := hHn ▸ AgX.app [] _ _
  have ln2 : H8.length = M2.length + 1 := by rw [hHn, List.length_append]; rfl
  clear hHn
  have xx2 : AgX [] H7 H8 := xL2.tr (xm2.tr xn2)
  refine seq_reg ?_
  simp only [go_sem, binC, beq_self_eq_true]
  exact wpc_ret ⟨Or.inr rfl, .bool true, by simp only [go_sem, binC], rfl, rfl⟩
end Go.Proofs.YtiekbdijpfnagaaI
end
section
/- The functions that the law FnTurnVarsType reaches, as ideal functions. -/
set_option linter.unusedVariables false
set_option linter.unusedSimpArgs false
namespace Go.Proofs.YtiekbdijpfnagaaI
open Go Go.RowKit
def fnOf : Nat → Option IFn
  | 9 => some (c_lawTVT)
  | 12 => some (c_iPlanFind)
  | 35 => some (c_drTV)
  | 36 => some (c_sTurnVars)
  | 37 => some (c_iTurnVars)
  | 38 => some (c_lcProg)
  | 39 => some (c_iTypeWhy)
  | 40 => some (c_l6Open)
  | 41 => some (c_pick)
  | 43 => some (c_drAny)
  | 48 => some (c_iTypeOk)
  | 49 => some (c_iTrusts)
  | 50 => some (c_iAt)
  | 51 => some (c_iHomes)
  | 52 => some (c_iAll)
  | 53 => some (c_iDoer)
  | 54 => some (c_conInt)
  | 55 => some (c_plClone)
  | 56 => some (c_sWhy)
  | 57 => some (c_sProg)
  | 58 => some (c_iProg)
  | 59 => some (c_iSize)
  | 61 => some (c_iHome1)
  | 62 => some (c_iDoes)
  | 72 => some (c_drFine)
  | 79 => some (c_iVar)
  | 80 => some (c_iHost)
  | 84 => some (c_sIn)
  | 86 => some (c_drRow)
  | 87 => some (c_sRow)
  | 88 => some (c_sVars)
  | 89 => some (c_iRow)
  | 90 => some (c_pclone)
  | 91 => some (c_change)
  | 92 => some (c_tv1)
  | 93 => some (c_lcSteps)
  | 94 => some (c_iWhy0)
  | 96 => some (c_drProg)
  | 97 => some (c_drBent)
  | 99 => some (c_sSet)
  | 100 => some (c_sHas)
  | 101 => some (c_sAllSteps)
  | 102 => some (c_sTypeAt)
  | 106 => some (c_iSet)
  | 107 => some (c_iHas)
  | 108 => some (c_iLabels)
  | 109 => some (c_iEvery)
  | 110 => some (c_cloneI)
  | 111 => some (c_ixInt)
  | 112 => some (c_sFine)
  | 113 => some (c_sLabelOk)
  | 114 => some (c_sSteps)
  | 115 => some (c_sCount)
  | 116 => some (c_con)
  | 117 => some (c_p1)
  | 118 => some (c_iLabelOk)
  | 119 => some (c_iSteps)
  | 121 => some (c_iWithin)
  | 122 => some (c_iBy)
  | 123 => some (c_iSets)
  | 124 => some (c_iMakes)
  | 130 => some (c_sWithout)
  | 131 => some (c_sWithin)
  | 134 => some (c_iIn)
  | 136 => some (c_cloneSteps)
  | 137 => some (c_iSource)
  | 138 => some (c_iFlows)
  | 139 => some (c_drLabel)
  | 140 => some (c_drSteps)
  | 141 => some (c_sCopy)
  | 142 => some (c_sBoth)
  | 143 => some (c_sAll)
  | 144 => some (c_sAt)
  | 145 => some (c_sAny)
  | 147 => some (c_iBoth)
  | 148 => some (c_sFlows)
  | 149 => some (c_sLBoth)
  | 150 => some (c_sValL)
  | 151 => some (c_sStep)
  | 152 => some (c_idx)
  | 153 => some (c_iVal)
  | 154 => some (c_vars)
  | 157 => some (c_drVal)
  | 158 => some (c_sVar)
  | 159 => some (c_sVal)
  | 160 => some (c_iNum)
  | _ => none
def cmOf (f : Nat) : CM := ⟨fun g => if [9, 38, 39, 48, 49, 53, 54, 56, 57, 58, 59, 61, 62, 79, 80, 84, 87, 89, 93, 94, 99, 100, 106, 107, 109, 111, 112, 113, 114, 115, 116, 117, 118, 119, 121, 122, 123, 131, 134, 137, 138, 142, 143, 145, 147, 148, 149, 150, 151, 152, 153, 158, 159, 160].contains g then .q else if [40, 41, 43, 72, 86, 91, 92, 96, 97, 108, 139, 140, 144, 157].contains g then .n else .k, if [40, 41, 43, 72, 86, 91, 92, 96, 97, 108, 139, 140, 144, 157].contains f then .n else .q, [136].contains f⟩
theorem hF9 : cFn Try.prog cmOf 9 = some (c_lawTVT) := by kernel_rfl
theorem hF12 : cFn Try.prog cmOf 12 = some (c_iPlanFind) := by kernel_rfl
theorem hF35 : cFn Try.prog cmOf 35 = some (c_drTV) := by kernel_rfl
theorem hF36 : cFn Try.prog cmOf 36 = some (c_sTurnVars) := by kernel_rfl
theorem hF37 : cFn Try.prog cmOf 37 = some (c_iTurnVars) := by kernel_rfl
theorem hF38 : cFn Try.prog cmOf 38 = some (c_lcProg) := by kernel_rfl
theorem hF39 : cFn Try.prog cmOf 39 = some (c_iTypeWhy) := by kernel_rfl
theorem hF40 : cFn Try.prog cmOf 40 = some (c_l6Open) := by kernel_rfl
theorem hF41 : cFn Try.prog cmOf 41 = some (c_pick) := by kernel_rfl
theorem hF43 : cFn Try.prog cmOf 43 = some (c_drAny) := by kernel_rfl
theorem hF48 : cFn Try.prog cmOf 48 = some (c_iTypeOk) := by kernel_rfl
theorem hF49 : cFn Try.prog cmOf 49 = some (c_iTrusts) := by kernel_rfl
theorem hF50 : cFn Try.prog cmOf 50 = some (c_iAt) := by kernel_rfl
theorem hF51 : cFn Try.prog cmOf 51 = some (c_iHomes) := by kernel_rfl
theorem hF52 : cFn Try.prog cmOf 52 = some (c_iAll) := by kernel_rfl
theorem hF53 : cFn Try.prog cmOf 53 = some (c_iDoer) := by kernel_rfl
theorem hF54 : cFn Try.prog cmOf 54 = some (c_conInt) := by kernel_rfl
theorem hF55 : cFn Try.prog cmOf 55 = some (c_plClone) := by kernel_rfl
theorem hF56 : cFn Try.prog cmOf 56 = some (c_sWhy) := by kernel_rfl
theorem hF57 : cFn Try.prog cmOf 57 = some (c_sProg) := by kernel_rfl
theorem hF58 : cFn Try.prog cmOf 58 = some (c_iProg) := by kernel_rfl
theorem hF59 : cFn Try.prog cmOf 59 = some (c_iSize) := by kernel_rfl
theorem hF61 : cFn Try.prog cmOf 61 = some (c_iHome1) := by kernel_rfl
theorem hF62 : cFn Try.prog cmOf 62 = some (c_iDoes) := by kernel_rfl
theorem hF72 : cFn Try.prog cmOf 72 = some (c_drFine) := by kernel_rfl
theorem hF79 : cFn Try.prog cmOf 79 = some (c_iVar) := by kernel_rfl
theorem hF80 : cFn Try.prog cmOf 80 = some (c_iHost) := by kernel_rfl
theorem hF84 : cFn Try.prog cmOf 84 = some (c_sIn) := by kernel_rfl
theorem hF86 : cFn Try.prog cmOf 86 = some (c_drRow) := by kernel_rfl
theorem hF87 : cFn Try.prog cmOf 87 = some (c_sRow) := by kernel_rfl
theorem hF88 : cFn Try.prog cmOf 88 = some (c_sVars) := by kernel_rfl
theorem hF89 : cFn Try.prog cmOf 89 = some (c_iRow) := by kernel_rfl
theorem hF90 : cFn Try.prog cmOf 90 = some (c_pclone) := by kernel_rfl
theorem hF91 : cFn Try.prog cmOf 91 = some (c_change) := by kernel_rfl
theorem hF92 : cFn Try.prog cmOf 92 = some (c_tv1) := by kernel_rfl
theorem hF93 : cFn Try.prog cmOf 93 = some (c_lcSteps) := by kernel_rfl
theorem hF94 : cFn Try.prog cmOf 94 = some (c_iWhy0) := by kernel_rfl
theorem hF96 : cFn Try.prog cmOf 96 = some (c_drProg) := by kernel_rfl
theorem hF97 : cFn Try.prog cmOf 97 = some (c_drBent) := by kernel_rfl
theorem hF99 : cFn Try.prog cmOf 99 = some (c_sSet) := by kernel_rfl
theorem hF100 : cFn Try.prog cmOf 100 = some (c_sHas) := by kernel_rfl
theorem hF101 : cFn Try.prog cmOf 101 = some (c_sAllSteps) := by kernel_rfl
theorem hF102 : cFn Try.prog cmOf 102 = some (c_sTypeAt) := by kernel_rfl
theorem hF106 : cFn Try.prog cmOf 106 = some (c_iSet) := by kernel_rfl
theorem hF107 : cFn Try.prog cmOf 107 = some (c_iHas) := by kernel_rfl
theorem hF108 : cFn Try.prog cmOf 108 = some (c_iLabels) := by kernel_rfl
theorem hF109 : cFn Try.prog cmOf 109 = some (c_iEvery) := by kernel_rfl
theorem hF110 : cFn Try.prog cmOf 110 = some (c_cloneI) := by kernel_rfl
theorem hF111 : cFn Try.prog cmOf 111 = some (c_ixInt) := by kernel_rfl
theorem hF112 : cFn Try.prog cmOf 112 = some (c_sFine) := by kernel_rfl
theorem hF113 : cFn Try.prog cmOf 113 = some (c_sLabelOk) := by kernel_rfl
theorem hF114 : cFn Try.prog cmOf 114 = some (c_sSteps) := by kernel_rfl
theorem hF115 : cFn Try.prog cmOf 115 = some (c_sCount) := by kernel_rfl
theorem hF116 : cFn Try.prog cmOf 116 = some (c_con) := by kernel_rfl
theorem hF117 : cFn Try.prog cmOf 117 = some (c_p1) := by kernel_rfl
theorem hF118 : cFn Try.prog cmOf 118 = some (c_iLabelOk) := by kernel_rfl
theorem hF119 : cFn Try.prog cmOf 119 = some (c_iSteps) := by kernel_rfl
theorem hF121 : cFn Try.prog cmOf 121 = some (c_iWithin) := by kernel_rfl
theorem hF122 : cFn Try.prog cmOf 122 = some (c_iBy) := by kernel_rfl
theorem hF123 : cFn Try.prog cmOf 123 = some (c_iSets) := by kernel_rfl
theorem hF124 : cFn Try.prog cmOf 124 = some (c_iMakes) := by kernel_rfl
theorem hF130 : cFn Try.prog cmOf 130 = some (c_sWithout) := by kernel_rfl
theorem hF131 : cFn Try.prog cmOf 131 = some (c_sWithin) := by kernel_rfl
theorem hF134 : cFn Try.prog cmOf 134 = some (c_iIn) := by kernel_rfl
theorem hF136 : cFn Try.prog cmOf 136 = some (c_cloneSteps) := by kernel_rfl
theorem hF137 : cFn Try.prog cmOf 137 = some (c_iSource) := by kernel_rfl
theorem hF138 : cFn Try.prog cmOf 138 = some (c_iFlows) := by kernel_rfl
theorem hF139 : cFn Try.prog cmOf 139 = some (c_drLabel) := by kernel_rfl
theorem hF140 : cFn Try.prog cmOf 140 = some (c_drSteps) := by kernel_rfl
theorem hF141 : cFn Try.prog cmOf 141 = some (c_sCopy) := by kernel_rfl
theorem hF142 : cFn Try.prog cmOf 142 = some (c_sBoth) := by kernel_rfl
theorem hF143 : cFn Try.prog cmOf 143 = some (c_sAll) := by kernel_rfl
theorem hF144 : cFn Try.prog cmOf 144 = some (c_sAt) := by kernel_rfl
theorem hF145 : cFn Try.prog cmOf 145 = some (c_sAny) := by kernel_rfl
theorem hF147 : cFn Try.prog cmOf 147 = some (c_iBoth) := by kernel_rfl
theorem hF148 : cFn Try.prog cmOf 148 = some (c_sFlows) := by kernel_rfl
theorem hF149 : cFn Try.prog cmOf 149 = some (c_sLBoth) := by kernel_rfl
theorem hF150 : cFn Try.prog cmOf 150 = some (c_sValL) := by kernel_rfl
theorem hF151 : cFn Try.prog cmOf 151 = some (c_sStep) := by kernel_rfl
theorem hF152 : cFn Try.prog cmOf 152 = some (c_idx) := by kernel_rfl
theorem hF153 : cFn Try.prog cmOf 153 = some (c_iVal) := by kernel_rfl
theorem hF154 : cFn Try.prog cmOf 154 = some (c_vars) := by kernel_rfl
theorem hF157 : cFn Try.prog cmOf 157 = some (c_drVal) := by kernel_rfl
theorem hF158 : cFn Try.prog cmOf 158 = some (c_sVar) := by kernel_rfl
theorem hF159 : cFn Try.prog cmOf 159 = some (c_sVal) := by kernel_rfl
theorem hF160 : cFn Try.prog cmOf 160 = some (c_iNum) := by kernel_rfl
theorem hF (g : Nat) (fn : IFn) (h : fnOf g = some fn) : cFn Try.prog cmOf g = some fn := by
  unfold fnOf at h
  split at h
  · rw [← h]; exact hF9
  · rw [← h]; exact hF12
  · rw [← h]; exact hF35
  · rw [← h]; exact hF36
  · rw [← h]; exact hF37
  · rw [← h]; exact hF38
  · rw [← h]; exact hF39
  · rw [← h]; exact hF40
  · rw [← h]; exact hF41
  · rw [← h]; exact hF43
  · rw [← h]; exact hF48
  · rw [← h]; exact hF49
  · rw [← h]; exact hF50
  · rw [← h]; exact hF51
  · rw [← h]; exact hF52
  · rw [← h]; exact hF53
  · rw [← h]; exact hF54
  · rw [← h]; exact hF55
  · rw [← h]; exact hF56
  · rw [← h]; exact hF57
  · rw [← h]; exact hF58
  · rw [← h]; exact hF59
  · rw [← h]; exact hF61
  · rw [← h]; exact hF62
  · rw [← h]; exact hF72
  · rw [← h]; exact hF79
  · rw [← h]; exact hF80
  · rw [← h]; exact hF84
  · rw [← h]; exact hF86
  · rw [← h]; exact hF87
  · rw [← h]; exact hF88
  · rw [← h]; exact hF89
  · rw [← h]; exact hF90
  · rw [← h]; exact hF91
  · rw [← h]; exact hF92
  · rw [← h]; exact hF93
  · rw [← h]; exact hF94
  · rw [← h]; exact hF96
  · rw [← h]; exact hF97
  · rw [← h]; exact hF99
  · rw [← h]; exact hF100
  · rw [← h]; exact hF101
  · rw [← h]; exact hF102
  · rw [← h]; exact hF106
  · rw [← h]; exact hF107
  · rw [← h]; exact hF108
  · rw [← h]; exact hF109
  · rw [← h]; exact hF110
  · rw [← h]; exact hF111
  · rw [← h]; exact hF112
  · rw [← h]; exact hF113
  · rw [← h]; exact hF114
  · rw [← h]; exact hF115
  · rw [← h]; exact hF116
  · rw [← h]; exact hF117
  · rw [← h]; exact hF118
  · rw [← h]; exact hF119
  · rw [← h]; exact hF121
  · rw [← h]; exact hF122
  · rw [← h]; exact hF123
  · rw [← h]; exact hF124
  · rw [← h]; exact hF130
  · rw [← h]; exact hF131
  · rw [← h]; exact hF134
  · rw [← h]; exact hF136
  · rw [← h]; exact hF137
  · rw [← h]; exact hF138
  · rw [← h]; exact hF139
  · rw [← h]; exact hF140
  · rw [← h]; exact hF141
  · rw [← h]; exact hF142
  · rw [← h]; exact hF143
  · rw [← h]; exact hF144
  · rw [← h]; exact hF145
  · rw [← h]; exact hF147
  · rw [← h]; exact hF148
  · rw [← h]; exact hF149
  · rw [← h]; exact hF150
  · rw [← h]; exact hF151
  · rw [← h]; exact hF152
  · rw [← h]; exact hF153
  · rw [← h]; exact hF154
  · rw [← h]; exact hF157
  · rw [← h]; exact hF158
  · rw [← h]; exact hF159
  · rw [← h]; exact hF160
  · cases h
theorem hMixed : Try.prog.follows .mixedOrders = true := by kernel_rfl
theorem ok_iIn : ∀ (H : Heap) (a b c : Int), QC fnOf 134 [.int .i64 a, .int .i64 b, .int .i64 c] H (.bool (inB a b c)) := iIn_ok rfl
theorem ok_sIn : ∀ (H : Heap) (a b c : Int), QC fnOf 84 [.int .i64 a, .int .i64 b, .int .i64 c] H (.bool (inB a b c)) := sIn_ok rfl
theorem ok_iSet : ∀ (H : Heap) (a : Int), QC fnOf 106 [.int .i64 a] H (.bool (inB a 0 7)) := iSet_ok rfl ok_iIn
theorem ok_iHost : ∀ (H : Heap) (a : Int), QC fnOf 80 [.int .i64 a] H (.bool (inB a 0 2)) := iHost_ok rfl ok_iIn
theorem ok_iNum : ∀ (H : Heap) (a : Int), QC fnOf 160 [.int .i64 a] H (.bool (inB a 0 9)) := iNum_ok rfl ok_iIn
theorem ok_sAll : ∀ H, QC fnOf 143 [] H (.int .i64 7) := sAll_ok rfl
theorem ok_sSet : ∀ (H : Heap) (a : Int), QC fnOf 99 [.int .i64 a] H (.bool (inB a 0 7)) := sSet_ok rfl ok_sIn ok_sAll
theorem ok_iLabelOk : LabOk fnOf 118 := iLabelOk_ok rfl ok_iSet
theorem ok_sLabelOk : LabOk fnOf 113 := sLabelOk_ok rfl ok_sSet
theorem ok_iVar : VarOk fnOf 79 := iVar_ok rfl ok_iIn
theorem ok_sVar : VarOk fnOf 158 := sVar_ok rfl ok_sIn
theorem ok_iVal : ValOk fnOf 153 := iVal_ok rfl ok_iNum ok_iVar
theorem ok_sVal : ValOk fnOf 159 := sVal_ok rfl ok_sIn ok_sVar
theorem ok_sSteps : ∀ n, StepsOk fnOf 114 n := fun n => (sSteps_all rfl rfl ok_sIn ok_sVar ok_sVal n).1
theorem ok_iSteps : ∀ n, StepsOk fnOf 119 n := iSteps_all rfl ok_iVar ok_iVal ok_iHost
theorem ok_sCount : ∀ n, CntOk fnOf 115 n := cnt_all (fun _ h => sCount_ok rfl h) (sCount_z rfl)
theorem ok_iSize : ∀ n, CntOk fnOf 59 n := cnt_all (fun _ h => iSize_ok rfl h) (iSize_z rfl)
theorem ok_sProg : ProgOk fnOf 57 := sProg_ok rfl ok_sLabelOk ok_sSteps ok_sCount
theorem ok_iProg : ProgOk fnOf 58 := iProg_ok rfl (con_ok rfl (idx_ok rfl (p1_ok rfl ok_iLabelOk))) ok_iSteps ok_iSize
theorem ok_sHas : HasOk fnOf 100 := sHas_ok rfl
theorem ok_sWit : WitOk fnOf 131 := sWithin_ok rfl ok_sHas
theorem ok_sBoth : BothOk fnOf 142 := sBoth_ok rfl ok_sHas
theorem ok_sLBoth : LBothOk fnOf 149 := sLBoth_ok rfl ok_sLabelOk ok_sBoth
theorem ok_sFlows : FlowsOk fnOf 148 := sFlows_ok rfl ok_sLabelOk ok_sWit
theorem ok_sAny : ∀ H, QC fnOf 145 [] H (.agg #[.int .i64 7, .int .i64 7]) := sAny_ok rfl ok_sAll
theorem ok_sFine : FineOk fnOf 112 := sFine_ok rfl (sValL_ok rfl ok_sAny ok_sLBoth) ok_sLBoth ok_sFlows ok_sBoth ok_sHas
theorem ok_sAllSteps : ∀ n, AllOk fnOf 101 n := sAllSteps_all rfl
theorem ok_sAt : ∀ n, AtOk fnOf 144 n := sAt_all rfl ok_sLBoth
theorem ok_sTypeAt : TypeAtOk fnOf 102 := sTypeAt_ok rfl ok_sProg ok_sAny ok_sAt
theorem ok_sWhy : WhyOk fnOf 56 := sWhy_ok rfl ok_sProg ok_sAllSteps ok_sTypeAt ok_sFine
theorem ok_sCopy : ∀ n, CopyOk fnOf 141 n := sCopy_all rfl
theorem ok_sWithout : ∀ n, WoOk fnOf 130 n := sWithout_all rfl ok_sCount
theorem ok_drProg {H0 : Heap} {rb : Nat} {bv : Value} {code : List Int} (hc : RdC H0 rb bv code) : DrawS fnOf H0 rb bv 96 [] 40000 (ProgQ 3) := drProg_ok rfl rfl rfl rfl rfl ok_sProg hc
theorem ok_drFine {H0 : Heap} {rb : Nat} {bv : Value} {code : List Int} (hc : RdC H0 rb bv code) : DrawS fnOf H0 rb bv 72 [] 40000 (ProgQ 3) := drFine_ok rfl hc (ok_drProg hc) ok_sWhy ok_sWithout
theorem ok_drAny {H0 : Heap} {rb : Nat} {bv : Value} {code : List Int} (hc : RdC H0 rb bv code) : DrawS fnOf H0 rb bv 43 [] 90000 ProgR := drAny_ok rfl rfl hc (ok_drProg hc) (ok_drFine hc) (drBent_ok rfl rfl ok_sCopy hc)
theorem ok_ixInt : ∀ (H : Heap) (v : Value) (l : List Int) (x : Int), SlR Co.int (vw 0 H) v l → QC fnOf 54 [v, .int .i64 x] H (.bool (decide (x ∈ l))) := conInt_ok rfl rfl
theorem ok_iRow : RowOk fnOf 89 := iRow_ok rfl ok_iIn ok_ixInt
theorem ok_sRow : RowOk fnOf 87 := sRow_ok rfl
theorem ok_pclone : PCloneOk fnOf 90 := pclone_ok rfl (cloneSteps_all rfl)
theorem ok_iTurnVars : TurnPOk fnOf 37 (fun k => k) turnL turnS := iTurnVars_ok rfl ok_iProg ok_iRow ok_pclone rfl rfl
theorem ok_sTurnVars : TurnPOk fnOf 36 (fun k => k) turnL turnS := sTurnVars_ok rfl ok_sProg ok_sRow rfl
theorem ok_lcProg : SamePOk fnOf 38 := lcProg_ok rfl (lcSteps_all rfl)
theorem ok_drTV : DrawNumsOk fnOf 35 := drTV_ok rfl rfl rfl rfl ok_drAny
theorem ok_iHas : HasOk fnOf 107 := iHas_ok rfl ok_iHost
theorem ok_iWit : WitOk fnOf 121 := iWithin_ok rfl
theorem ok_iBoth : ILBoth fnOf 147 := iBoth_ok rfl
theorem ok_iAt : AtP fnOf 50 := iAt_ok rfl (iLabels_all rfl ok_iBoth) (iEvery_ok rfl)
theorem ok_iWhy0 : WhyI fnOf 94 := iWhy0_ok rfl ok_iAt (iAll_all rfl) (iSource_ok rfl rfl ok_iBoth) (iFlows_ok rfl ok_iWit) ok_iHas
theorem ok_iTypeWhy : WhyV fnOf 39 := iTypeWhy_ok rfl ok_iProg ok_iWhy0
theorem ok_iTypeOk : TypeP fnOf 48 := iTypeOk_ok rfl ok_iProg ok_iWhy0
theorem ok_iTrusts : TrOk fnOf 49 := iTrusts_ok rfl ok_iSet ok_iHas
theorem ok_iBy : ByOk fnOf 122 := iBy_ok rfl ok_iHas
theorem ok_cloneI : CloneI fnOf 110 := cloneI_ok rfl
theorem ok_iDoes : DoesOk fnOf 62 := iDoes_ok rfl ok_iHas ok_iWit ok_iBy (iSets_all rfl) (iMakes_ok rfl rfl)
theorem ok_iHome1 : HomeI fnOf 61 := iHome1_ok rfl ok_iHas ok_iWit ok_iBy
theorem ok_iPlanFind : FindI fnOf 12 := iPlanFind_ok rfl ok_iTypeOk ok_iTrusts ok_iAt (iHomes_ok rfl ok_iHome1 ok_cloneI) (iAll_all rfl) (iDoer_ok rfl ok_iDoes) (conK_ok rfl rfl) (plClone_ok rfl ok_cloneI)
theorem ok_lawTVT : LawB fnOf 9 := lawTVT_ok rfl ok_drTV ok_sTurnVars ok_iTurnVars ok_lcProg ok_iTypeWhy ok_iPlanFind
end Go.Proofs.YtiekbdijpfnagaaI
end
section
/- Laws of lists of bytes, called in the model. -/
set_option linter.unusedVariables false
set_option linter.unusedSimpArgs false
namespace Go.Proofs.YtiekbdijpfnagaaI
open Go Go.RowKit
theorem Good.byte {w : World} {n : Int} (h : (Lit.int .u8 n).wf = true) : Good Co.byte w [.int .u8 n] := fun H m s =>
  ⟨n, [], m, [.int .u8 n], by simpa using s, sub_refl m, ⟨rfl, by simpa [Lit.wf, IntKind.min, IntKind.max, IntKind.signed, IntKind.bits] using h⟩, All2.cons (.inl rfl) All2.nil⟩
theorem good_5 {T : Type} {enc : TypeId × Value → T} {w : World} {spare : Nat → Bool} {held : Bool} {n : Nat} {cs : List Value} {x : DataW T × List MemPlace} (h : DataW.trod enc Try.prog w 0 spare held n 5 cs = some x) : Good Co.byte w cs := by
  obtain ⟨m, rfl, _, hw⟩ := DataW.trod_int Try.underlying5 h
  exact Good.byte hw
theorem good_22 {T : Type} {enc : TypeId × Value → T} {w : World} {spare : Nat → Bool} {held : Bool} {n : Nat} {cs : List Value} {x : DataW T × List MemPlace} (h : DataW.trod enc Try.prog w 0 spare held n 22 cs = some x) : Good (Co.sl Co.byte) w cs :=
  Good.sl Try.underlying22 (by kernel_rfl) (by decide) h fun _ _ _ _ h => good_5 h
theorem lawB_calls {n : Nat} (hl : LawB fnOf n) {W : World} {a : Option Addr} {l c : Nat} (g0 : Good (Co.sl Co.byte) W [.slice a l c]) :
    Calls Try.prog n #[.slice a l c] W fun e w' => e = .returned (.bool true) ∧ Below W.heap.size W w' := by
  obtain ⟨ts, L2, m2, cs1, s2, q2, r2, e2⟩ := g0 [] (fun _ => none) (SL.none _)
  obtain ⟨u, rfl, hu⟩ := r2
  exact law_core hF hMixed s2 (vals := [u]) (All2.cons (VR.one_mk e2) All2.nil) (hl _ u ts hu)
end Go.Proofs.YtiekbdijpfnagaaI
end
