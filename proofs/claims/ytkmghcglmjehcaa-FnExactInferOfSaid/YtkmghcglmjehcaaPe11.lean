/- Texts of this proof, merged: U7, U8, H10, U10, U11, U9, U12, U13, GL61, K17, CL61. -/
import Derived.Test.YtkmghcglmjehcaaPe8
import Derived.Test.YtkmghcglmjehcaaPe9
import Derived.Test.YtkmghcglmjehcaaPe10
import Derived.Test.YtkmghcglmjehcaaRows
section
/- Labels that are found (the reference's). -/
set_option linter.unusedVariables false
set_option linter.unusedSimpArgs false
namespace Go.Proofs.YtkmghcglmjehcaaI
open Go Go.RowKit
def c_sTypeOk : IFn := ⟨1, 16, [.t 2],
 .seq (.reg none [
    ⟨(some 1), none, .box (.t 0)⟩,
    ⟨(some 2), none, .mov (.c (.bool false))⟩])
 (.seq (.reg none [
    ⟨(some 6), none, .load true 2 (.t 1)⟩,
    ⟨(some 7), none, .call .q (.f 64) [(.t 6)]⟩,
    ⟨(some 5), none, .mov (.t 7)⟩,
    ⟨(some 8), none, .ext (.t 5) 0⟩,
    ⟨(some 9), none, .ext (.t 5) 1⟩,
    ⟨(some 3), none, .mov (.t 8)⟩,
    ⟨(some 4), none, .mov (.t 9)⟩])
 (.seq (.reg none [
    ⟨(some 10), none, .load true 2 (.t 1)⟩,
    ⟨(some 11), none, .call .q (.f 19) [(.t 10)]⟩,
    ⟨(some 12), none, .mov (.t 11)⟩,
    ⟨(some 13), (some (12, true)), .mov (.t 4)⟩,
    ⟨(some 14), (some (12, true)), .un .not (.t 13)⟩,
    ⟨(some 15), none, .pick (.t 12) (.t 14) (.c (.bool false))⟩,
    ⟨(some 2), none, .mov (.t 15)⟩])
 (.ret)))⟩
theorem sTypeOk_ok {F : Nat → Option IFn} {f : Nat} (hf : F f = some c_sTypeOk) (gw : WhyV F 64) (gp : ProgOk F 19) : TypeP F f := by
  intro H n lv sv ls l r1 r2 hsm
  have olv : one lv = true := by obtain ⟨_, a, rfl, _⟩ := r1; rfl
  have osv : one sv = true := by obtain ⟨_, a, rfl, _⟩ := r2; rfl
  refine QC.mk hf rfl ?_
  refine seq_reg ?_
  simp only [go_sem, binC, olv, osv]
  refine wpc_gen fun H1 hH1 => ?_
  have hx1 : AgX [] H H1 := hH1 ▸ AgX.app [] _ _
  have hb : H1[H.length]? = some ⟨[lv, sv], 0, 0, false, true⟩ := hH1 ▸ get_new0 _ _
  clear hH1
  have hS := agx_sub hx1
  refine seq_reg ?_
  simp only [go_sem, binC, gc_of hb, inBlk_some, olv, osv]
  refine op_callQ (by simp only [go_sem, binC]; exact gw H1 n _ _ ls l (r1.mono hS) (r2.mono hS) hsm) ?_
  simp only [go_sem, binC]
  refine seq_reg ?_
  simp only [go_sem, binC, gc_of hb, inBlk_some, olv, osv]
  refine op_callQ (by simp only [go_sem, binC]; exact gp H1 n _ (ls, l) (prog_rd (r1.mono hS) (r2.mono hS)) hsm) ?_
  cases hP : progB n (ls, l) with
  | false =>
    simp only [go_sem, binC]
    refine wpc_ret ⟨Or.inr rfl, .bool false, (by (simp only [go_sem, binC]) <;> rfl), ?_, rfl⟩
    refine congrArg _ ?_
    show _ = typeP n (ls, l)
    unfold typeP
    rw [hP]
    rfl
  | true =>
    simp only [go_sem, binC]
    refine wpc_ret ⟨Or.inr rfl, .bool (!(whyV n (ls, l)).2), (by (simp only [go_sem, binC]) <;> rfl), ?_, rfl⟩
    refine congrArg _ ?_
    show _ = typeP n (ls, l)
    unfold typeP
    rw [hP]
    rfl
def c_sInferOf : IFn := ⟨2, 71, [.cell true 2 4, .t 5],
 .seq (.reg none [
    ⟨(some 2), none, .box (.t 0)⟩,
    ⟨(some 4), none, .new [(.slice none 0 0), (.slice none 0 0)]⟩,
    ⟨(some 5), none, .mov (.c (.bool false))⟩])
 (.seq (.seq (.reg none [
     ⟨(some 10), none, .load true 2 (.t 2)⟩,
     ⟨(some 11), none, .call .q (.f 19) [(.t 10)]⟩,
     ⟨(some 12), none, .un .not (.t 11)⟩,
     ⟨(some 13), none, .mov (.t 12)⟩,
     ⟨(some 14), (some (13, false)), .mov (.t 1)⟩,
     ⟨(some 15), (some (13, false)), .len (.t 14)⟩,
     ⟨(some 16), (some (13, false)), .fad 0 (.t 2)⟩,
     ⟨(some 17), (some (13, false)), .load false 1 (.t 16)⟩,
     ⟨(some 18), (some (13, false)), .len (.t 17)⟩,
     ⟨(some 19), (some (13, false)), .bin .neq (.t 15) (.t 18)⟩,
     ⟨(some 20), none, .pick (.t 13) (.c (.bool true)) (.t 19)⟩])
  (.cond (.t 20) (.seq (.reg none [
      ⟨(some 21), none, .build [(.slice none 0 0), (.slice none 0 0)] []⟩,
      ⟨none, none, .store 2 (.t 4) (.t 21)⟩,
      ⟨(some 5), none, .mov (.c (.bool false))⟩])
   (.ret)) (.skip)))
 (.seq (.reg (some 9) [
    ⟨(some 22), none, .lit 2 35 0 [] []⟩,
    ⟨(some 23), none, .fad 0 (.t 2)⟩,
    ⟨(some 24), none, .load false 1 (.t 23)⟩,
    ⟨(some 25), none, .app 2 35 16 false (.t 22) (.t 24)⟩,
    ⟨(some 26), none, .fad 1 (.t 2)⟩,
    ⟨(some 27), none, .load false 1 (.t 26)⟩,
    ⟨(some 28), none, .call .k (.f 51) [(.t 27)]⟩,
    ⟨(some 29), none, .build [(.slice none 0 0), (.slice none 0 0)] [(0, 1, (.t 25)), (1, 1, (.t 28))]⟩,
    ⟨(some 6), none, .new [(.slice none 0 0), (.slice none 0 0)]⟩,
    ⟨none, none, .store 2 (.t 6) (.t 29)⟩])
 (.seq (.seq (.reg none [
     ⟨(some 7), none, .mov (.c (.int .i64 0))⟩])
  (.block 0 (.loop (.seq (.seq (.reg none [
        ⟨(some 30), none, .mov (.t 7)⟩,
        ⟨(some 31), none, .mov (.t 1)⟩,
        ⟨(some 32), none, .len (.t 31)⟩,
        ⟨(some 33), none, .bin .lss (.t 30) (.t 32)⟩])
     (.cond (.t 33) (.skip) (.exit 0)))
    (.seq (.block 1 (.seq (.reg none [
         ⟨(some 36), none, .mov (.t 1)⟩,
         ⟨(some 37), none, .mov (.t 7)⟩,
         ⟨(some 38), none, .iad 1 (.t 36) (.t 37)⟩,
         ⟨(some 39), none, .load false 1 (.t 38)⟩])
      (.cond (.t 39) (.reg (some 4) [
         ⟨(some 40), none, .fad 0 (.t 6)⟩,
         ⟨(some 41), none, .load false 1 (.t 40)⟩,
         ⟨(some 42), none, .mov (.t 7)⟩,
         ⟨(some 43), none, .call .q (.f 52) []⟩,
         ⟨(some 44), none, .iad 2 (.t 41) (.t 42)⟩,
         ⟨none, none, .store 2 (.t 44) (.t 43)⟩]) (.skip))))
    (.reg none [
      ⟨(some 34), none, .mov (.t 7)⟩,
      ⟨(some 35), none, .bin .add (.t 34) (.c (.int .i64 1))⟩,
      ⟨(some 7), none, .mov (.t 35)⟩]))))))
 (.seq (.seq (.reg none [
     ⟨(some 8), none, .mov (.c (.int .i64 0))⟩])
  (.block 2 (.loop (.seq (.seq (.reg none [
        ⟨(some 45), none, .mov (.t 8)⟩,
        ⟨(some 46), none, .bin .lss (.t 45) (.c (.int .i64 25))⟩])
     (.cond (.t 46) (.skip) (.exit 2)))
    (.seq (.block 3 (.seq (.reg none [
         ⟨(some 9), none, .mov (.c (.int .i64 0))⟩])
      (.block 4 (.loop (.seq (.seq (.reg none [
            ⟨(some 49), none, .mov (.t 9)⟩,
            ⟨(some 50), none, .mov (.t 1)⟩,
            ⟨(some 51), none, .len (.t 50)⟩,
            ⟨(some 52), none, .bin .lss (.t 49) (.t 51)⟩])
         (.cond (.t 52) (.skip) (.exit 4)))
        (.seq (.block 5 (.seq (.reg none [
             ⟨(some 55), none, .mov (.t 1)⟩,
             ⟨(some 56), none, .mov (.t 9)⟩,
             ⟨(some 57), none, .iad 1 (.t 55) (.t 56)⟩,
             ⟨(some 58), none, .load false 1 (.t 57)⟩])
          (.cond (.t 58) (.reg (some 6) [
             ⟨(some 59), none, .fad 0 (.t 6)⟩,
             ⟨(some 60), none, .load false 1 (.t 59)⟩,
             ⟨(some 61), none, .mov (.t 9)⟩,
             ⟨(some 62), none, .load true 2 (.t 6)⟩,
             ⟨(some 63), none, .mov (.t 9)⟩,
             ⟨(some 64), none, .call .q (.f 53) [(.t 62), (.t 63)]⟩,
             ⟨(some 65), none, .iad 2 (.t 60) (.t 61)⟩,
             ⟨none, none, .store 2 (.t 65) (.t 64)⟩]) (.skip))))
        (.reg none [
          ⟨(some 53), none, .mov (.t 9)⟩,
          ⟨(some 54), none, .bin .add (.t 53) (.c (.int .i64 1))⟩,
          ⟨(some 9), none, .mov (.t 54)⟩])))))))
    (.reg none [
      ⟨(some 47), none, .mov (.t 8)⟩,
      ⟨(some 48), none, .bin .add (.t 47) (.c (.int .i64 1))⟩,
      ⟨(some 8), none, .mov (.t 48)⟩]))))))
 (.seq (.seq (.reg none [
     ⟨(some 66), none, .load true 2 (.t 6)⟩,
     ⟨(some 67), none, .call .q (.f 22) [(.t 66)]⟩,
     ⟨(some 68), none, .un .not (.t 67)⟩])
  (.cond (.t 68) (.seq (.reg none [
      ⟨(some 69), none, .build [(.slice none 0 0), (.slice none 0 0)] []⟩,
      ⟨none, none, .store 2 (.t 4) (.t 69)⟩,
      ⟨(some 5), none, .mov (.c (.bool false))⟩])
   (.ret)) (.skip)))
 (.seq (.reg none [
    ⟨(some 70), none, .load true 2 (.t 6)⟩,
    ⟨none, none, .store 2 (.t 4) (.t 70)⟩,
    ⟨(some 5), none, .mov (.c (.bool true))⟩])
 (.ret)))))))⟩
theorem infL_def (n : Nat) (l : List (TStep n)) (free : List Bool) (init : List (Int × Int)) : infL n l free init = Nat.repeat (rnd n l (freeF free)) 25 init := rfl
attribute [local irreducible] infL
theorem sInferOf_ok {F : Nat → Option IFn} {f : Nat} (hf : F f = some c_sInferOf) (gp : ProgOk F 19) (gc : ∀ n, CopyE F 51 n) (ge : ∀ H, QC F 52 [] H (.agg #[.int .i64 7, .int .i64 7])) (gn : NeedOk F 53) (gty : TypeP F 22) : InferOk F f := by
  intro H n lv sv w ls l free r1 r2 hsm r3
  suffices h : ∃ v H', KC F f [.agg #[lv, sv], w] H v H' ∧ (∃ lv' sv', v = .tuple #[.agg #[lv', sv'], .bool (inferV n (ls, l) free).isSome] ∧ AgX [] H H' ∧ SlR Co.p2 (vw 0 H') lv' (inferO n (ls, l) free).1 ∧ SlR (Co.step n) (vw 0 H') sv' (inferO n (ls, l) free).2) by
    obtain ⟨_, H', h1, lv', sv', rfl, h2⟩ := h
    exact ⟨lv', sv', H', h1, h2⟩
  have osv : one sv = true := by obtain ⟨_, a, rfl, _⟩ := r2; rfl
  obtain ⟨_, la, rfl, _⟩ := id r1
  obtain ⟨hwl, wa, rfl, _⟩ := id r3
  refine KC.mk hf rfl ?_
  refine seq_reg ?_
  simp only [go_sem, binC, osv]
  refine wpc_gen fun H1 hH1 => ?_
  have hx1 : AgX [] H H1 := hH1 ▸ AgX.app [] _ _
  have hb2 : H1[H.length]? = some ⟨[.slice la ls.length ls.length, sv], 0, 0, false, true⟩ := hH1 ▸ get_new0 _ _
  have hb4 : H1[H.length + 1]? = some ⟨[nilS, nilS], 0, 0, false, true⟩ := hH1 ▸ get_new _ _ 1
  have hln1 : H1.length = H.length + 2 := by rw [hH1]; simp
  clear hH1
  have r1' := r1.mono (agx_sub hx1)
  have r2' := r2.mono (agx_sub hx1)
  have r3' := r3.mono (agx_sub hx1)
  have hb4l := (List.getElem?_eq_some_iff.1 hb4).1
  refine seq_assoc (seq_reg ?_)
  simp only [go_sem, binC, gc_of hb2, inBlk_some, osv]
  refine op_callB (by simp only [go_sem, binC]; exact gp H1 n _ (ls, l) (prog_rd r1' r2') hsm) (fun hP => ?_) (fun hP => ?_)
  rotate_left
  · have hN : inferV n (ls, l) free = none := by unfold inferV; rw [if_neg (fun h => by rw [hP] at h; cases h.1)]
    simp only [go_sem, binC]
    refine seq_cond (t := true) rfl ?_
    simp only [go_sem, binC]
    refine seq_assoc (seq_reg ?_)
    simp only [go_sem, binC, hb4]
    refine seq_ret ⟨Or.inr rfl, .tuple #[.agg #[nilS, nilS], .bool false], ?_, nilS, nilS, by rw [hN]; rfl, hx1.setN (by omega) _, ?_, ?_⟩
    · simp [resV, resL, res1, putE_get, notT, ptr, gc_set hb4l, inBlk_some, valOf]
    all_goals (unfold inferO; rw [hN]; exact ⟨by simp, none, rfl, .inl rfl⟩)
  simp only [go_sem, binC, gc_of hb2, inBlk_some]
  by_cases hfl : free.length = ls.length
  case neg =>
    have hN : inferV n (ls, l) free = none := by unfold inferV; rw [if_neg (fun h => hfl h.2.1)]
    simp only [go_sem, binC, bne_t (show ¬ ((free.length : Int) = ls.length) by omega)]
    refine seq_cond (t := true) rfl ?_
    simp only [go_sem, binC]
    refine seq_assoc (seq_reg ?_)
    simp only [go_sem, binC, hb4]
    refine seq_ret ⟨Or.inr rfl, .tuple #[.agg #[nilS, nilS], .bool false], ?_, nilS, nilS, by rw [hN]; rfl, hx1.setN (by omega) _, ?_, ?_⟩
    · simp [resV, resL, res1, putE_get, notT, ptr, gc_set hb4l, inBlk_some, valOf]
    all_goals (unfold inferO; rw [hN]; exact ⟨by simp, none, rfl, .inl rfl⟩)
  have hls4 : ls.length ≤ 4 := progB_le4 hP
  have hlab : ls.all labB = true := progB_lab hP
  have hstl := startL_lab (free := free) hlab
  simp only [go_sem, binC, bne_f (show ((free.length : Int) = ls.length) by omega)]
  refine seq_cond (t := false) rfl ?_
  simp only [go_sem, binC]
  refine seq_skip (seq_regD ?_)
  simp only [go_sem, binC, gc_of hb2, inBlk_some, osv]
  generalize hHa : H1 ++ [(⟨[], 2, 35, true, true⟩ : Blk)] = Ha
  have hxa : AgX [] H1 Ha := hHa ▸ AgX.app [] _ _
  have hba : Ha[H1.length]? = some ⟨[], 2, 35, true, true⟩ := hHa ▸ get_new0 _ _
  have hla : Ha.length = H1.length + 1 := by rw [← hHa, List.length_append]; rfl
  clear hHa
  have hb2a := hxa.get hb2 (by simp)
  have happ : ∀ (e : Env) (K : Value → Heap → Prop), e 22 = sli H1.length 0 0 → e 24 = .slice la ls.length ls.length → (∀ b' L, H1.length ≤ b' → (Ha ++ L)[b']? = some ⟨ls.flatMap fp, 2, 35, true, true⟩ → K (sli b' 0 ls.length) (Ha ++ L)) → wpOp F (H1.length + 1) (.app 2 35 16 false (.t 22) (.t 24)) e Ha K := by
    intro e K e22 e24 k
    by_cases hl0 : ls = []
    · subst hl0
      refine op_app_zero _ _ _ _ _ (by (simp only [go_sem, binC, e22]) <;> rfl) (by (simp only [go_sem, binC, e24]) <;> rfl) ?_
      have := k H1.length [] (Nat.le_refl _)
      rw [List.append_nil] at this
      exact this hba
    · obtain ⟨b, o, hbo, hg⟩ := sl_p2s (r1'.mono (agx_sub hxa)) hl0
      have hne : ls.length ≠ 0 := fun h => hl0 (List.eq_nil_of_length_eq_zero h)
      exact op_app_lit (by (simp only [go_sem, binC, e22]) <;> rfl) (by simp only [go_sem, binC, e24]; exact hbo) hne hg hba (by omega) (by omega) (by omega) (k _ _ (by omega) (get_new0 _ _))
  simp only [go_sem, binC, gc_of hb2a, inBlk_some, osv]
  refine happ _ _ (by simp only [go_sem, binC]) (by simp only [go_sem, binC]) fun bl L hbl0 hbl => ?_
  generalize hHb : Ha ++ L = Hb at *
  have hxb : AgX [] Ha Hb := hHb ▸ AgX.app [] _ _
  clear hHb happ
  have hb2b := hxb.get hb2a (by simp)
  have hx1b := hxa.tr hxb
  simp only [go_sem, binC, gc_of hb2b, inBlk_some]
  obtain ⟨bs, sos, H2, k2, hx2, o2⟩ := gc n Hb sv l (r2'.mono (agx_sub hx1b)) hsm.2
  refine op_callK (by simp only [go_sem, binC]; exact k2) ?_
  have hx12 := hx1b.tr hx2
  have hx12l := hx12.1
  simp only [go_sem, binC]
  refine ⟨by omega, ?_⟩
  refine wpc_genH fun H3 hH3 => ?_
  have hx3 : AgX [] H2 H3 := hH3 ▸ AgX.app [] _ _
  have hb6 : H3[H2.length]? = some ⟨[sli bl 0 ls.length, sli bs 0 l.length], 0, 0, false, true⟩ := hH3 ▸ get_new0 _ _
  clear hH3 k2
  have hx13 := hx12.tr hx3
  have hb43 := hx13.get hb4 (by simp)
  have hbl3 := (hx2.tr hx3).get hbl (by simp)
  have hbll := (List.getElem?_eq_some_iff.1 hbl).1
  have hx2l := hx2.1
  have hx3l := hx3.1
  have hsv : SlR (Co.step n) (vwl Hb.length [] H3) (sli bs 0 l.length) l := (o2.slR (step_w n) (by simp)).mono (vwl_sub hx3 (Nat.le_refl _) fun _ _ _ _ => ⟨by simp, by simp⟩)
  have hV : ∀ Hc, AgX [bl] H3 Hc → SlR (Co.step n) (vw 0 Hc) (sli bs 0 l.length) l := fun Hc hx => hsv.mono ((vwl_sub hx (lo' := Hb.length) (xs' := []) (Nat.le_refl _) fun b' h1 h2 h3 => ⟨by simp; omega, by simp⟩).trans (vwl0 _ _ _))
  have hx0 : ∀ Hc, AgX [bl] H3 Hc → AgX [] H Hc := fun Hc hx => (hx1.tr hx13).trans hx (fun _ h _ => h) (fun b hb hlt => by simp only [List.mem_singleton] at hb; omega)
  have hr3 : ∀ Hc, AgX [bl] H3 Hc → SlR Co.bool (vw 0 Hc) (.slice wa free.length free.length) free := fun Hc hx => r3.mono (agx_sub (hx0 Hc hx))
  have hLsl : ∀ (Hc : Heap) (cur : List (Int × Int)), cur.length = ls.length → cur.all labB = true → Hc[bl]? = some ⟨cur.flatMap fp, 2, 35, true, true⟩ → SlR Co.p2 (vw 0 Hc) (sli bl 0 ls.length) cur := fun Hc cur hl ha hb => by
    have := blk_slP hb (lab_rg ha) (by omega)
    rwa [hl] at this
  refine seq_assoc (seq_reg ?_)
  simp only [go_sem, binC]
  refine seq_block (wpc_loop ?_)
  suffices h1 : ∀ (k i : Nat) (e : Env) (Hc : Heap) (cur : List (Int × Int)), i + k = free.length → cur = startL ls (free.take i) → AgX [bl] H3 Hc → Hc[bl]? = some ⟨cur.flatMap fp, 2, 35, true, true⟩ → e 1 = .slice wa free.length free.length → e 4 = ptr (H.length + 1) 0 → e 6 = ptr H2.length 0 → e 7 = .int .i64 i → Go.Proofs.YtkmghcglmjehcaaI.W F H.length _ e Hc _ from
    h1 free.length 0 _ H3 ls (by omega) (by rw [List.take_zero, startL_none]) (AgX.refl _ _) hbl3 (by simp only [go_sem, binC]) (by simp only [go_sem, binC]) (by simp only [go_sem, binC]) (by (simp only [go_sem, binC]) <;> rfl)
  intro k
  induction k with
  | zero =>
    intro i e Hc cur hi hcur hxc hLc e1 e4 e6 e7
    rw [List.take_of_length_le (by omega)] at hcur
    refine lp_step ?_
    refine seq_assoc (seq_reg ?_)
    simp only [go_sem, binC, e1, e7]
    refine seq_cond (t := false) (by simp only [go_sem, binC]; rw [decide_eq_false (by omega)]) ?_
    simp only [go_sem, binC]
    refine seq_exit ?_
    simp only [go_sem, binC, thenX_e, out_e, thenX_n]
    refine seq_assoc (seq_reg ?_)
    simp only [go_sem, binC]
    refine seq_block (wpc_loop ?_)
    suffices h2 : ∀ (k i : Nat) (e : Env) (Hd : Heap) (cur : List (Int × Int)), i + k = 25 → cur = Nat.repeat (rnd n l (freeF free)) i (startL ls free) → AgX [bl] H3 Hd → Hd[bl]? = some ⟨cur.flatMap fp, 2, 35, true, true⟩ → e 1 = .slice wa free.length free.length → e 4 = ptr (H.length + 1) 0 → e 6 = ptr H2.length 0 → e 8 = .int .i64 i → Go.Proofs.YtkmghcglmjehcaaI.W F H.length _ e Hd _ from
      h2 25 0 _ Hc cur rfl (by rw [hcur]; rfl) hxc hLc (by simp only [go_sem, binC, e1]) (by simp only [go_sem, binC, e4]) (by simp only [go_sem, binC, e6]) (by (simp only [go_sem, binC]) <;> rfl)
    clear hcur hxc hLc e1 e4 e6 e7
    intro k
    induction k with
    | zero =>
      intro i e Hd cur hi hck hxd hLd e1 e4 e6 e8
      obtain rfl : i = 25 := by omega
      have hle : LeL cur (startL ls free) := hck ▸ (rnds_ind hstl 25).1
      have hcl : cur.length = ls.length := by rw [hle.1, startL_len]
      have hinf : cur = infL n l free (startL ls free) := by rw [hck, infL_def]
      have hb6d := hxd.get hb6 (by simp; omega)
      have hb4d := hxd.get hb43 (by simp; omega)
      have hb4dl := (List.getElem?_eq_some_iff.1 hb4d).1
      refine lp_step ?_
      refine seq_assoc (seq_reg ?_)
      simp only [go_sem, binC, e8]
      refine seq_cond (t := false) (by simp only [go_sem, binC]; rfl) ?_
      simp only [go_sem, binC]
      refine seq_exit ?_
      simp only [go_sem, binC, thenX_e, out_e, thenX_n]
      refine seq_assoc (seq_reg ?_)
      simp only [go_sem, binC, e6, gc_of hb6d, inBlk_some]
      refine op_callB (by simp only [go_sem, binC]; exact gty Hd n _ _ cur l (hLsl Hd cur hcl hle.lab hLd) (hV Hd hxd) (sm_ls hsm hcl)) (fun hT => ?_) (fun hT => ?_)
      · have hN : inferV n (ls, l) free = some cur := by
          unfold inferV
          simp only
          rw [← hinf, if_pos ⟨hP, hfl, hT⟩]
        simp only [go_sem, binC]
        refine seq_cond (t := false) rfl ?_
        simp only [go_sem, binC]
        refine seq_skip (seq_reg ?_)
        simp only [go_sem, binC, e4, e6, gc_of hb6d, inBlk_some, hb4d]
        have hxs2 : AgX [H.length + 1] Hd (Hd.set (H.length + 1) ⟨[sli bl 0 ls.length, sli bs 0 l.length], 0, 0, false, true⟩) := AgX.set _ _ _
        refine wpc_ret ⟨Or.inr rfl, .tuple #[.agg #[sli bl 0 ls.length, sli bs 0 l.length], .bool true], ?_, _, _, by rw [hN]; rfl, (hx0 Hd hxd).setN (by omega) _, ?_, ?_⟩
        · simp [resV, resL, res1, putE_get, notT, ptr, gc_set hb4dl, inBlk_some, valOf, e4, sli]
        · unfold inferO
          rw [hN]
          exact hLsl _ cur hcl hle.lab (hxs2.get hLd (by simp; omega))
        · unfold inferO
          rw [hN]
          exact hsv.mono ((vwl_sub (hxd.trans hxs2 (zs := [bl, H.length + 1]) (fun b hb _ => by simp only [List.mem_singleton] at hb; simp [hb]) (fun b hb _ => by simp only [List.mem_singleton] at hb; simp [hb])) (lo := Hb.length) (xs := []) (lo' := Hb.length) (xs' := []) (Nat.le_refl _) fun b' h1 h2 h3 => ⟨by simp; omega, by simp⟩).trans (vwl0 _ _ _))
      · have hN : inferV n (ls, l) free = none := by
          unfold inferV
          simp only
          rw [← hinf, if_neg (fun h => by rw [hT] at h; cases h.2.2)]
        simp only [go_sem, binC]
        refine seq_cond (t := true) rfl ?_
        simp only [go_sem, binC]
        refine seq_assoc (seq_reg ?_)
        simp only [go_sem, binC, e4, hb4d]
        refine seq_ret ⟨Or.inr rfl, .tuple #[.agg #[nilS, nilS], .bool false], ?_, nilS, nilS, by rw [hN]; rfl, (hx0 Hd hxd).setN (by omega) _, ?_, ?_⟩
        · simp [resV, resL, res1, putE_get, notT, ptr, gc_set hb4dl, inBlk_some, valOf, e4]
        all_goals (unfold inferO; rw [hN]; exact ⟨by simp, none, rfl, .inl rfl⟩)
    | succ k ih =>
      intro i e Hd cur hi hck hxd hLd e1 e4 e6 e8
      have hw2 : IntKind.i64.wrap ((i : Int) + 1) = ((i + 1 : Nat) : Int) := by rw [wrap_id (by omega) (by omega)]; omega
      have hle : LeL cur (startL ls free) := hck ▸ (rnds_ind hstl i).1
      have hcl : cur.length = ls.length := by rw [hle.1, startL_len]
      refine lp_step ?_
      refine seq_assoc (seq_reg ?_)
      simp only [go_sem, binC, e8]
      refine seq_cond (t := true) (by simp only [go_sem, binC]; rw [decide_eq_true (by omega)]) ?_
      simp only [go_sem, binC]
      refine seq_skip (seq_block (seq_reg ?_))
      simp only [go_sem, binC]
      refine wpc_block (wpc_loop ?_)
      suffices h3 : ∀ (q v : Nat) (e : Env) (Hf : Heap) (now : List (Int × Int)), v + q = free.length → now = (List.range v).foldl (roundS n l (freeF free)) cur → AgX [bl] H3 Hf → Hf[bl]? = some ⟨now.flatMap fp, 2, 35, true, true⟩ → e 1 = .slice wa free.length free.length → e 4 = ptr (H.length + 1) 0 → e 6 = ptr H2.length 0 → e 8 = .int .i64 i → e 9 = .int .i64 v → Go.Proofs.YtkmghcglmjehcaaI.W F H.length _ e Hf _ from
        h3 free.length 0 _ Hd cur (by omega) rfl hxd hLd (by simp only [go_sem, binC, e1]) (by simp only [go_sem, binC, e4]) (by simp only [go_sem, binC, e6]) (by simp only [go_sem, binC, e8]) (by (simp only [go_sem, binC]) <;> rfl)
      clear e1 e4 e6 e8 hxd hLd
      intro q
      induction q with
      | zero =>
        intro v e Hf now hv hnow hxf hLf e1 e4 e6 e8 e9
        refine lp_step ?_
        refine seq_assoc (seq_reg ?_)
        simp only [go_sem, binC, e1, e9]
        refine seq_cond (t := false) (by simp only [go_sem, binC]; rw [decide_eq_false (by omega)]) ?_
        simp only [go_sem, binC]
        refine seq_exit ?_
        simp only [go_sem, binC, thenX_e, out_e, out_n, thenX_n]
        refine wpc_reg ?_
        simp only [go_sem, binC, e8, hw2]
        simp only [go_sem, binC, thenX_n]
        refine ih (i + 1) _ Hf now (by omega) ?_ hxf hLf (by simp only [go_sem, binC, e1]) (by simp only [go_sem, binC, e4]) (by simp only [go_sem, binC, e6]) (by simp only [go_sem, binC])
        rw [hnow, show v = cur.length by omega, hck]
        rfl
      | succ q ihq =>
        intro v e Hf now hv hnow hxf hLf e1 e4 e6 e8 e9
        have hvf : v < free.length := by omega
        have hw1 : IntKind.i64.wrap ((v : Int) + 1) = ((v + 1 : Nat) : Int) := by rw [wrap_id (by omega) (by omega)]; omega
        have hri := rounds_ind (n := n) (l := l) (free := freeF free) (List.range v) cur hle.lab (fun x hx => by have := List.mem_range.1 hx; omega)
        rw [← hnow] at hri
        have hnlab := hri.1.lab
        have hnl : now.length = ls.length := by rw [hri.1.1, hcl]
        have hnext : (List.range (v + 1)).foldl (roundS n l (freeF free)) cur = roundS n l (freeF free) now v := by
          rw [List.range_succ, List.foldl_append, ← hnow]
          rfl
        have hb6f := hxf.get hb6 (by simp; omega)
        obtain ⟨fb, fo, hfw, hgf⟩ := gcB (hr3 Hf hxf) hvf
        simp only [Value.slice.injEq, and_true] at hfw
        subst hfw
        have hblf := (List.getElem?_eq_some_iff.1 hLf).1
        refine lp_step ?_
        refine seq_assoc (seq_reg ?_)
        simp only [go_sem, binC, e1, e9]
        refine seq_cond (t := true) (by simp only [go_sem, binC]; rw [decide_eq_true (by omega)]) ?_
        simp only [go_sem, binC]
        refine seq_skip (seq_block (seq_reg ?_))
        simp only [go_sem, binC, e1, e9]
        refine ⟨⟨by omega, by omega⟩, ?_⟩
        simp only [go_sem, binC, Int.toNat_natCast, Nat.mul_one, hgf]
        by_cases hfr : free[v] = true
        · rw [show roundS n l (freeF free) now v = now.set v (needV n now l v) from if_pos (by unfold freeF; simpa [List.getD, hvf] using hfr)] at hnext
          refine wpc_cond (t := true) (by simp only [go_sem, binC, hfr]) ?_
          simp only [go_sem, binC]
          refine wpc_regD ?_
          simp only [go_sem, binC, e6, e9, gc_of hb6f, inBlk_some]
          refine op_callQ (by simp only [go_sem, binC]; exact gn Hf n _ _ now l v (hLsl Hf now hnl hnlab hLf) (hV Hf hxf) (sm_ls hsm hnl) (progB_ls hP hnl hnlab) (by omega)) ?_
          generalize needV n now l v = nd at hnext
          obtain ⟨n1, n2⟩ := nd
          simp only [go_sem, binC, sli]
          refine ⟨⟨by omega, by omega⟩, ?_⟩
          have hfl8 := flat_len (fl := fp) (w := 2) (fun _ => rfl) now
          simp only [go_sem, binC, Int.toNat_natCast, Nat.zero_add, hLf]
          refine ⟨⟨by omega, by omega⟩, ?_⟩
          rw [show ((now.flatMap fp).set (v * 2) (.int .i64 n1)).set (v * 2 + 1) (.int .i64 n2) = (now.set v (n1, n2)).flatMap fp from flat_set _ _ (n1, n2) (by omega)]
          simp only [go_sem, binC, out_n, thenX_n]
          refine wpc_reg ?_
          simp only [go_sem, binC, e9, hw1]
          simp only [go_sem, binC, thenX_n]
          exact ihq (v + 1) _ _ (now.set v (n1, n2)) (by omega) hnext.symm (hxf.trans (AgX.set Hf bl _) (fun _ h _ => h) (fun _ h _ => h)) (List.getElem?_set_self hblf) (by simp only [go_sem, binC, e1]) (by simp only [go_sem, binC, e4]) (by simp only [go_sem, binC, e6]) (by simp only [go_sem, binC, e8]) (by simp only [go_sem, binC])
        · have hfr' : free[v] = false := by simpa using hfr
          rw [show roundS n l (freeF free) now v = now from if_neg (by unfold freeF; simp [List.getD, hvf, hfr'])] at hnext
          refine wpc_cond (t := false) (by simp only [go_sem, binC, hfr']) ?_
          simp only [go_sem, binC]
          refine wpc_skip ?_
          simp only [go_sem, binC, out_n, thenX_n]
          refine wpc_reg ?_
          simp only [go_sem, binC, e9, hw1]
          simp only [go_sem, binC, thenX_n]
          exact ihq (v + 1) _ Hf now (by omega) hnext.symm hxf hLf (by simp only [go_sem, binC, e1]) (by simp only [go_sem, binC, e4]) (by simp only [go_sem, binC, e6]) (by simp only [go_sem, binC, e8]) (by simp only [go_sem, binC])
  | succ k ih =>
    intro i e Hc cur hi hcur hxc hLc e1 e4 e6 e7
    have hif : i < free.length := by omega
    have hw1 : IntKind.i64.wrap ((i : Int) + 1) = ((i + 1 : Nat) : Int) := by rw [wrap_id (by omega) (by omega)]; omega
    have hcl : cur.length = ls.length := by rw [hcur, startL_len]
    have hb6c := hxc.get hb6 (by simp; omega)
    obtain ⟨fb, fo, hfw, hgf⟩ := gcB (hr3 Hc hxc) hif
    simp only [Value.slice.injEq, and_true] at hfw
    subst hfw
    have hblc := (List.getElem?_eq_some_iff.1 hLc).1
    have hstep := startL_step (ls := ls) hif hfl
    rw [← hcur] at hstep
    refine lp_step ?_
    refine seq_assoc (seq_reg ?_)
    simp only [go_sem, binC, e1, e7]
    refine seq_cond (t := true) (by simp only [go_sem, binC]; rw [decide_eq_true (by omega)]) ?_
    simp only [go_sem, binC]
    refine seq_skip (seq_block (seq_reg ?_))
    simp only [go_sem, binC, e1, e7]
    refine ⟨⟨by omega, by omega⟩, ?_⟩
    simp only [go_sem, binC, Int.toNat_natCast, Nat.mul_one, hgf]
    by_cases hfr : free[i] = true
    · rw [show free.getD i false = true by simpa [List.getD, hif] using hfr, if_pos rfl] at hstep
      refine wpc_cond (t := true) (by simp only [go_sem, binC, hfr]) ?_
      simp only [go_sem, binC]
      refine wpc_regD ?_
      simp only [go_sem, binC, e6, e7, gc_of hb6c, inBlk_some]
      refine op_callQ (by simp only [go_sem, binC]; exact ge Hc) ?_
      simp only [go_sem, binC, sli]
      refine ⟨⟨by omega, by omega⟩, ?_⟩
      have hfl8 := flat_len (fl := fp) (w := 2) (fun _ => rfl) cur
      simp only [go_sem, binC, Int.toNat_natCast, Nat.zero_add, hLc]
      refine ⟨⟨by omega, by omega⟩, ?_⟩
      rw [show ((cur.flatMap fp).set (i * 2) (.int .i64 7)).set (i * 2 + 1) (.int .i64 7) = (cur.set i (7, 7)).flatMap fp from flat_set _ _ (7, 7) (by omega)]
      simp only [go_sem, binC, out_n, thenX_n]
      refine wpc_reg ?_
      simp only [go_sem, binC, e7, hw1]
      simp only [go_sem, binC, thenX_n]
      exact ih (i + 1) _ _ (cur.set i (7, 7)) (by omega) hstep.symm (hxc.trans (AgX.set Hc bl _) (fun _ h _ => h) (fun _ h _ => h)) (List.getElem?_set_self hblc) (by simp only [go_sem, binC, e1]) (by simp only [go_sem, binC, e4]) (by simp only [go_sem, binC, e6]) (by simp only [go_sem, binC])
    · have hfr' : free[i] = false := by simpa using hfr
      rw [if_neg (show ¬ free.getD i false = true by simp [List.getD, hif, hfr'])] at hstep
      refine wpc_cond (t := false) (by simp only [go_sem, binC, hfr']) ?_
      simp only [go_sem, binC]
      refine wpc_skip ?_
      simp only [go_sem, binC, out_n, thenX_n]
      refine wpc_reg ?_
      simp only [go_sem, binC, e7, hw1]
      simp only [go_sem, binC, thenX_n]
      exact ih (i + 1) _ Hc cur (by omega) hstep.symm hxc hLc (by simp only [go_sem, binC, e1]) (by simp only [go_sem, binC, e4]) (by simp only [go_sem, binC, e6]) (by simp only [go_sem, binC])
end Go.Proofs.YtkmghcglmjehcaaI
end
section
/- A program and which labels are free, drawn. -/
set_option linter.unusedVariables false
set_option linter.unusedSimpArgs false
namespace Go.Proofs.YtkmghcglmjehcaaI
open Go Go.RowKit
end Go.Proofs.YtkmghcglmjehcaaI
end
section
/- What the laws' functions say of steps and programs. -/
set_option linter.unusedVariables false
set_option linter.unusedSimpArgs false
namespace Go.Proofs.YtkmghcglmjehcaaI
open Go Go.RowKit
end Go.Proofs.YtkmghcglmjehcaaI
end
section
/- The laws FnInferOf, FnInferTwice on the ideal machine. -/
set_option linter.unusedVariables false
set_option linter.unusedSimpArgs false
namespace Go.Proofs.YtkmghcglmjehcaaI
open Go Go.RowKit
attribute [local irreducible] infL
end Go.Proofs.YtkmghcglmjehcaaI
end
section
/- The laws FnInferNone, FnInferAll on the ideal machine. -/
set_option linter.unusedVariables false
set_option linter.unusedSimpArgs false
namespace Go.Proofs.YtkmghcglmjehcaaI
open Go Go.RowKit
attribute [local irreducible] infL
end Go.Proofs.YtkmghcglmjehcaaI
end
section
/- A label, drawn. -/
set_option linter.unusedVariables false
set_option linter.unusedSimpArgs false
namespace Go.Proofs.YtkmghcglmjehcaaI
open Go Go.RowKit
end Go.Proofs.YtkmghcglmjehcaaI
end
section
/- The laws FnInferMore, FnInferMost on the ideal machine. -/
set_option linter.unusedVariables false
set_option linter.unusedSimpArgs false
namespace Go.Proofs.YtkmghcglmjehcaaI
open Go Go.RowKit
attribute [local irreducible] infL
end Go.Proofs.YtkmghcglmjehcaaI
end
section
/- The law FnInferRun on the ideal machine. -/
set_option linter.unusedVariables false
set_option linter.unusedSimpArgs false
namespace Go.Proofs.YtkmghcglmjehcaaI
open Go Go.RowKit
attribute [local irreducible] infL
end Go.Proofs.YtkmghcglmjehcaaI
end
section
/- The functions that the law FnExactInferOf reaches, as ideal functions. -/
set_option linter.unusedVariables false
set_option linter.unusedSimpArgs false
namespace Go.Proofs.YtkmghcglmjehcaaI
open Go Go.RowKit
def fnOf : Nat → Option IFn
  | 10 => some (c_lawEIO)
  | 16 => some (c_sInferOf)
  | 17 => some (c_iInferOf)
  | 19 => some (c_sProg)
  | 20 => some (c_iTypeOk)
  | 22 => some (c_sTypeOk)
  | 25 => some (c_sLabelOk)
  | 29 => some (c_szProg)
  | 30 => some (c_toProg)
  | 31 => some (toBool 4)
  | 32 => some (c_eqProg)
  | 33 => some (eqBool)
  | 34 => some (c_markProg)
  | 35 => some (c_markBoolS)
  | 36 => some (c_heldProg)
  | 51 => some (c_sCopy)
  | 52 => some (c_sAny)
  | 53 => some (c_sNeed)
  | 54 => some (c_iProg)
  | 55 => some (c_pclone)
  | 56 => some (c_iEvery)
  | 57 => some (c_iAt)
  | 58 => some (c_iAll)
  | 59 => some (c_iBoth)
  | 60 => some (c_iSource)
  | 61 => some (c_sSteps)
  | 62 => some (c_sCount)
  | 63 => some (c_iWhy0)
  | 64 => some (c_sWhy)
  | 65 => some (c_iLabelOk)
  | 66 => some (c_iFlows)
  | 68 => some (c_sSet)
  | 74 => some (c_iSize)
  | 75 => some (szFlat)
  | 76 => some (szNest 122 8 true)
  | 77 => some (toCall .q 123 2 35 16 [(.int .i64 0), (.int .i64 0)] true)
  | 78 => some (toCall .k 124 8 83 96 [(.int .i64 0), (.int .i64 0), (.int .i64 0), (.int .i64 0), (.int .i64 0), (.int .i64 0), (.slice none 0 0), (.slice none 0 0)] true)
  | 79 => some (eqCall 125 2 true)
  | 80 => some (eqCall 126 8 true)
  | 81 => some (c_mark2)
  | 82 => some (c_markStepS)
  | 83 => some (c_held2)
  | 84 => some (c_heldStepS)
  | 86 => some (c_sIn)
  | 89 => some (c_iHost)
  | 102 => some (c_sAll)
  | 103 => some (c_sAllSteps)
  | 104 => some (c_sTypeAt)
  | 105 => some (c_sLBoth)
  | 106 => some (c_sValL)
  | 107 => some (c_con)
  | 108 => some (c_p1)
  | 109 => some (c_iSteps)
  | 110 => some (c_cloneSteps)
  | 111 => some (c_iLabels)
  | 112 => some (c_vars)
  | 113 => some (c_sStep)
  | 114 => some (c_iHas)
  | 115 => some (c_sFine)
  | 116 => some (c_iSet)
  | 117 => some (c_iWithin)
  | 119 => some (c_iNum)
  | 122 => some (c_szStep)
  | 123 => some (c_toLabel)
  | 124 => some (c_toStep)
  | 125 => some (c_eqLabel)
  | 126 => some (c_eqStep)
  | 135 => some (c_sHas)
  | 136 => some (c_iIn)
  | 140 => some (c_sAt)
  | 141 => some (c_sBoth)
  | 142 => some (c_idx)
  | 143 => some (c_iVar)
  | 144 => some (c_iVal)
  | 145 => some (c_sVar)
  | 146 => some (c_sVal)
  | 147 => some (c_sFlows)
  | 148 => some (c_toVal)
  | 149 => some (c_eqVal)
  | 153 => some (c_sWithin)
  | _ => none
def cmOf (f : Nat) : CM := ⟨fun g => if [10, 19, 20, 22, 25, 29, 32, 33, 36, 52, 53, 54, 56, 59, 60, 61, 62, 63, 64, 65, 66, 68, 74, 75, 76, 79, 80, 83, 84, 86, 89, 102, 105, 106, 107, 108, 109, 113, 114, 115, 116, 117, 119, 122, 123, 125, 126, 135, 136, 141, 142, 143, 144, 145, 146, 147, 148, 149, 153].contains g then .q else if [34, 35, 81, 82, 111, 140].contains g then .n else .k, if [34, 35, 81, 82, 111, 140].contains f then .n else .q, [110].contains f⟩
theorem hF10 : cFn Try.prog cmOf 10 = some (c_lawEIO) := by kernel_rfl
theorem hF16 : cFn Try.prog cmOf 16 = some (c_sInferOf) := by kernel_rfl
theorem hF17 : cFn Try.prog cmOf 17 = some (c_iInferOf) := by kernel_rfl
theorem hF19 : cFn Try.prog cmOf 19 = some (c_sProg) := by kernel_rfl
theorem hF20 : cFn Try.prog cmOf 20 = some (c_iTypeOk) := by kernel_rfl
theorem hF22 : cFn Try.prog cmOf 22 = some (c_sTypeOk) := by kernel_rfl
theorem hF25 : cFn Try.prog cmOf 25 = some (c_sLabelOk) := by kernel_rfl
theorem hF29 : cFn Try.prog cmOf 29 = some (c_szProg) := by kernel_rfl
theorem hF30 : cFn Try.prog cmOf 30 = some (c_toProg) := by kernel_rfl
theorem hF31 : cFn Try.prog cmOf 31 = some (toBool 4) := by kernel_rfl
theorem hF32 : cFn Try.prog cmOf 32 = some (c_eqProg) := by kernel_rfl
theorem hF33 : cFn Try.prog cmOf 33 = some (eqBool) := by kernel_rfl
theorem hF34 : cFn Try.prog cmOf 34 = some (c_markProg) := by kernel_rfl
theorem hF35 : cFn Try.prog cmOf 35 = some (c_markBoolS) := by kernel_rfl
theorem hF36 : cFn Try.prog cmOf 36 = some (c_heldProg) := by kernel_rfl
theorem hF51 : cFn Try.prog cmOf 51 = some (c_sCopy) := by kernel_rfl
theorem hF52 : cFn Try.prog cmOf 52 = some (c_sAny) := by kernel_rfl
theorem hF53 : cFn Try.prog cmOf 53 = some (c_sNeed) := by kernel_rfl
theorem hF54 : cFn Try.prog cmOf 54 = some (c_iProg) := by kernel_rfl
theorem hF55 : cFn Try.prog cmOf 55 = some (c_pclone) := by kernel_rfl
theorem hF56 : cFn Try.prog cmOf 56 = some (c_iEvery) := by kernel_rfl
theorem hF57 : cFn Try.prog cmOf 57 = some (c_iAt) := by kernel_rfl
theorem hF58 : cFn Try.prog cmOf 58 = some (c_iAll) := by kernel_rfl
theorem hF59 : cFn Try.prog cmOf 59 = some (c_iBoth) := by kernel_rfl
theorem hF60 : cFn Try.prog cmOf 60 = some (c_iSource) := by kernel_rfl
theorem hF61 : cFn Try.prog cmOf 61 = some (c_sSteps) := by kernel_rfl
theorem hF62 : cFn Try.prog cmOf 62 = some (c_sCount) := by kernel_rfl
theorem hF63 : cFn Try.prog cmOf 63 = some (c_iWhy0) := by kernel_rfl
theorem hF64 : cFn Try.prog cmOf 64 = some (c_sWhy) := by kernel_rfl
theorem hF65 : cFn Try.prog cmOf 65 = some (c_iLabelOk) := by kernel_rfl
theorem hF66 : cFn Try.prog cmOf 66 = some (c_iFlows) := by kernel_rfl
theorem hF68 : cFn Try.prog cmOf 68 = some (c_sSet) := by kernel_rfl
theorem hF74 : cFn Try.prog cmOf 74 = some (c_iSize) := by kernel_rfl
theorem hF75 : cFn Try.prog cmOf 75 = some (szFlat) := by kernel_rfl
theorem hF76 : cFn Try.prog cmOf 76 = some (szNest 122 8 true) := by kernel_rfl
theorem hF77 : cFn Try.prog cmOf 77 = some (toCall .q 123 2 35 16 [(.int .i64 0), (.int .i64 0)] true) := by kernel_rfl
theorem hF78 : cFn Try.prog cmOf 78 = some (toCall .k 124 8 83 96 [(.int .i64 0), (.int .i64 0), (.int .i64 0), (.int .i64 0), (.int .i64 0), (.int .i64 0), (.slice none 0 0), (.slice none 0 0)] true) := by kernel_rfl
theorem hF79 : cFn Try.prog cmOf 79 = some (eqCall 125 2 true) := by kernel_rfl
theorem hF80 : cFn Try.prog cmOf 80 = some (eqCall 126 8 true) := by kernel_rfl
theorem hF81 : cFn Try.prog cmOf 81 = some (c_mark2) := by kernel_rfl
theorem hF82 : cFn Try.prog cmOf 82 = some (c_markStepS) := by kernel_rfl
theorem hF83 : cFn Try.prog cmOf 83 = some (c_held2) := by kernel_rfl
theorem hF84 : cFn Try.prog cmOf 84 = some (c_heldStepS) := by kernel_rfl
theorem hF86 : cFn Try.prog cmOf 86 = some (c_sIn) := by kernel_rfl
theorem hF89 : cFn Try.prog cmOf 89 = some (c_iHost) := by kernel_rfl
theorem hF102 : cFn Try.prog cmOf 102 = some (c_sAll) := by kernel_rfl
theorem hF103 : cFn Try.prog cmOf 103 = some (c_sAllSteps) := by kernel_rfl
theorem hF104 : cFn Try.prog cmOf 104 = some (c_sTypeAt) := by kernel_rfl
theorem hF105 : cFn Try.prog cmOf 105 = some (c_sLBoth) := by kernel_rfl
theorem hF106 : cFn Try.prog cmOf 106 = some (c_sValL) := by kernel_rfl
theorem hF107 : cFn Try.prog cmOf 107 = some (c_con) := by kernel_rfl
theorem hF108 : cFn Try.prog cmOf 108 = some (c_p1) := by kernel_rfl
theorem hF109 : cFn Try.prog cmOf 109 = some (c_iSteps) := by kernel_rfl
theorem hF110 : cFn Try.prog cmOf 110 = some (c_cloneSteps) := by kernel_rfl
theorem hF111 : cFn Try.prog cmOf 111 = some (c_iLabels) := by kernel_rfl
theorem hF112 : cFn Try.prog cmOf 112 = some (c_vars) := by kernel_rfl
theorem hF113 : cFn Try.prog cmOf 113 = some (c_sStep) := by kernel_rfl
theorem hF114 : cFn Try.prog cmOf 114 = some (c_iHas) := by kernel_rfl
theorem hF115 : cFn Try.prog cmOf 115 = some (c_sFine) := by kernel_rfl
theorem hF116 : cFn Try.prog cmOf 116 = some (c_iSet) := by kernel_rfl
theorem hF117 : cFn Try.prog cmOf 117 = some (c_iWithin) := by kernel_rfl
theorem hF119 : cFn Try.prog cmOf 119 = some (c_iNum) := by kernel_rfl
theorem hF122 : cFn Try.prog cmOf 122 = some (c_szStep) := by kernel_rfl
theorem hF123 : cFn Try.prog cmOf 123 = some (c_toLabel) := by kernel_rfl
theorem hF124 : cFn Try.prog cmOf 124 = some (c_toStep) := by kernel_rfl
theorem hF125 : cFn Try.prog cmOf 125 = some (c_eqLabel) := by kernel_rfl
theorem hF126 : cFn Try.prog cmOf 126 = some (c_eqStep) := by kernel_rfl
theorem hF135 : cFn Try.prog cmOf 135 = some (c_sHas) := by kernel_rfl
theorem hF136 : cFn Try.prog cmOf 136 = some (c_iIn) := by kernel_rfl
theorem hF140 : cFn Try.prog cmOf 140 = some (c_sAt) := by kernel_rfl
theorem hF141 : cFn Try.prog cmOf 141 = some (c_sBoth) := by kernel_rfl
theorem hF142 : cFn Try.prog cmOf 142 = some (c_idx) := by kernel_rfl
theorem hF143 : cFn Try.prog cmOf 143 = some (c_iVar) := by kernel_rfl
theorem hF144 : cFn Try.prog cmOf 144 = some (c_iVal) := by kernel_rfl
theorem hF145 : cFn Try.prog cmOf 145 = some (c_sVar) := by kernel_rfl
theorem hF146 : cFn Try.prog cmOf 146 = some (c_sVal) := by kernel_rfl
theorem hF147 : cFn Try.prog cmOf 147 = some (c_sFlows) := by kernel_rfl
theorem hF148 : cFn Try.prog cmOf 148 = some (c_toVal) := by kernel_rfl
theorem hF149 : cFn Try.prog cmOf 149 = some (c_eqVal) := by kernel_rfl
theorem hF153 : cFn Try.prog cmOf 153 = some (c_sWithin) := by kernel_rfl
theorem hF (g : Nat) (fn : IFn) (h : fnOf g = some fn) : cFn Try.prog cmOf g = some fn := by
  unfold fnOf at h
  split at h
  · rw [← h]; exact hF10
  · rw [← h]; exact hF16
  · rw [← h]; exact hF17
  · rw [← h]; exact hF19
  · rw [← h]; exact hF20
  · rw [← h]; exact hF22
  · rw [← h]; exact hF25
  · rw [← h]; exact hF29
  · rw [← h]; exact hF30
  · rw [← h]; exact hF31
  · rw [← h]; exact hF32
  · rw [← h]; exact hF33
  · rw [← h]; exact hF34
  · rw [← h]; exact hF35
  · rw [← h]; exact hF36
  · rw [← h]; exact hF51
  · rw [← h]; exact hF52
  · rw [← h]; exact hF53
  · rw [← h]; exact hF54
  · rw [← h]; exact hF55
  · rw [← h]; exact hF56
  · rw [← h]; exact hF57
  · rw [← h]; exact hF58
  · rw [← h]; exact hF59
  · rw [← h]; exact hF60
  · rw [← h]; exact hF61
  · rw [← h]; exact hF62
  · rw [← h]; exact hF63
  · rw [← h]; exact hF64
  · rw [← h]; exact hF65
  · rw [← h]; exact hF66
  · rw [← h]; exact hF68
  · rw [← h]; exact hF74
  · rw [← h]; exact hF75
  · rw [← h]; exact hF76
  · rw [← h]; exact hF77
  · rw [← h]; exact hF78
  · rw [← h]; exact hF79
  · rw [← h]; exact hF80
  · rw [← h]; exact hF81
  · rw [← h]; exact hF82
  · rw [← h]; exact hF83
  · rw [← h]; exact hF84
  · rw [← h]; exact hF86
  · rw [← h]; exact hF89
  · rw [← h]; exact hF102
  · rw [← h]; exact hF103
  · rw [← h]; exact hF104
  · rw [← h]; exact hF105
  · rw [← h]; exact hF106
  · rw [← h]; exact hF107
  · rw [← h]; exact hF108
  · rw [← h]; exact hF109
  · rw [← h]; exact hF110
  · rw [← h]; exact hF111
  · rw [← h]; exact hF112
  · rw [← h]; exact hF113
  · rw [← h]; exact hF114
  · rw [← h]; exact hF115
  · rw [← h]; exact hF116
  · rw [← h]; exact hF117
  · rw [← h]; exact hF119
  · rw [← h]; exact hF122
  · rw [← h]; exact hF123
  · rw [← h]; exact hF124
  · rw [← h]; exact hF125
  · rw [← h]; exact hF126
  · rw [← h]; exact hF135
  · rw [← h]; exact hF136
  · rw [← h]; exact hF140
  · rw [← h]; exact hF141
  · rw [← h]; exact hF142
  · rw [← h]; exact hF143
  · rw [← h]; exact hF144
  · rw [← h]; exact hF145
  · rw [← h]; exact hF146
  · rw [← h]; exact hF147
  · rw [← h]; exact hF148
  · rw [← h]; exact hF149
  · rw [← h]; exact hF153
  · cases h
theorem hMixed : Try.prog.follows .mixedOrders = true := by kernel_rfl
theorem ok_iIn : ∀ (H : Heap) (a b c : Int), QC fnOf 136 [.int .i64 a, .int .i64 b, .int .i64 c] H (.bool (inB a b c)) := iIn_ok rfl
theorem ok_sIn : ∀ (H : Heap) (a b c : Int), QC fnOf 86 [.int .i64 a, .int .i64 b, .int .i64 c] H (.bool (inB a b c)) := sIn_ok rfl
theorem ok_iSet : ∀ (H : Heap) (a : Int), QC fnOf 116 [.int .i64 a] H (.bool (inB a 0 7)) := iSet_ok rfl ok_iIn
theorem ok_iHost : ∀ (H : Heap) (a : Int), QC fnOf 89 [.int .i64 a] H (.bool (inB a 0 2)) := iHost_ok rfl ok_iIn
theorem ok_iNum : ∀ (H : Heap) (a : Int), QC fnOf 119 [.int .i64 a] H (.bool (inB a 0 9)) := iNum_ok rfl ok_iIn
theorem ok_sAll : ∀ H, QC fnOf 102 [] H (.int .i64 7) := sAll_ok rfl
theorem ok_sSet : ∀ (H : Heap) (a : Int), QC fnOf 68 [.int .i64 a] H (.bool (inB a 0 7)) := sSet_ok rfl ok_sIn ok_sAll
theorem ok_iLabelOk : LabOk fnOf 65 := iLabelOk_ok rfl ok_iSet
theorem ok_sLabelOk : LabOk fnOf 25 := sLabelOk_ok rfl ok_sSet
theorem ok_iVar : VarOk fnOf 143 := iVar_ok rfl ok_iIn
theorem ok_sVar : VarOk fnOf 145 := sVar_ok rfl ok_sIn
theorem ok_iVal : ValOk fnOf 144 := iVal_ok rfl ok_iNum ok_iVar
theorem ok_sVal : ValOk fnOf 146 := sVal_ok rfl ok_sIn ok_sVar
theorem ok_sSteps : ∀ n, StepsOk fnOf 61 n := fun n => (sSteps_all rfl rfl ok_sIn ok_sVar ok_sVal n).1
theorem ok_iSteps : ∀ n, StepsOk fnOf 109 n := iSteps_all rfl ok_iVar ok_iVal ok_iHost
theorem ok_sCount : ∀ n, CntOk fnOf 62 n := cnt_all (fun _ h => sCount_ok rfl h) (sCount_z rfl)
theorem ok_iSize : ∀ n, CntOk fnOf 74 n := cnt_all (fun _ h => iSize_ok rfl h) (iSize_z rfl)
theorem ok_sProg : ProgOk fnOf 19 := sProg_ok rfl ok_sLabelOk ok_sSteps ok_sCount
theorem ok_iProg : ProgOk fnOf 54 := iProg_ok rfl (con_ok rfl (idx_ok rfl (p1_ok rfl ok_iLabelOk))) ok_iSteps ok_iSize
theorem ok_sHas : HasOk fnOf 135 := sHas_ok rfl
theorem ok_sWit : WitOk fnOf 153 := sWithin_ok rfl ok_sHas
theorem ok_sBoth : BothOk fnOf 141 := sBoth_ok rfl ok_sHas
theorem ok_sLBoth : LBothOk fnOf 105 := sLBoth_ok rfl ok_sLabelOk ok_sBoth
theorem ok_sFlows : FlowsOk fnOf 147 := sFlows_ok rfl ok_sLabelOk ok_sWit
theorem ok_sAny : ∀ H, QC fnOf 52 [] H (.agg #[.int .i64 7, .int .i64 7]) := sAny_ok rfl ok_sAll
theorem ok_sFine : FineOk fnOf 115 := sFine_ok rfl (sValL_ok rfl ok_sAny ok_sLBoth) ok_sLBoth ok_sFlows ok_sBoth ok_sHas
theorem ok_sAllSteps : ∀ n, AllOk fnOf 103 n := sAllSteps_all rfl
theorem ok_sAt : ∀ n, AtOk fnOf 140 n := sAt_all rfl ok_sLBoth
theorem ok_sTypeAt : TypeAtOk fnOf 104 := sTypeAt_ok rfl ok_sProg ok_sAny ok_sAt
theorem ok_iHas : HasOk fnOf 114 := iHas_ok rfl ok_iHost
theorem ok_iWit : WitOk fnOf 117 := iWithin_ok rfl
theorem ok_iBoth : ILBoth fnOf 59 := iBoth_ok rfl
theorem ok_iAt : AtP fnOf 57 := iAt_ok rfl (iLabels_all rfl ok_iBoth) (iEvery_ok rfl)
theorem ok_iWhy0 : WhyI fnOf 63 := iWhy0_ok rfl ok_iAt (iAll_all rfl) (iSource_ok rfl rfl ok_iBoth) (iFlows_ok rfl ok_iWit) ok_iHas
theorem ok_iTypeOk : TypeP fnOf 20 := iTypeOk_ok rfl ok_iProg ok_iWhy0
theorem ok_iSource : ISource fnOf 60 := iSource_ok rfl rfl ok_iBoth
theorem ok_pclone : PCloneOk fnOf 55 := pclone_ok rfl (cloneSteps_all rfl)
theorem ok_sWhyV : WhyV fnOf 64 := sWhyV_ok rfl ok_sProg ok_sAllSteps ok_sTypeAt ok_sFine
theorem ok_sTypeOk : TypeP fnOf 22 := sTypeOk_ok rfl ok_sWhyV ok_sProg
theorem ok_sCopyE : ∀ n, CopyE fnOf 51 n := sCopyE_all rfl
theorem ok_sNeed : NeedOk fnOf 53 := sNeed_ok rfl ok_sAllSteps ok_sTypeAt ok_sLBoth (sValL_ok rfl ok_sAny ok_sLBoth)
theorem ok_sInferOf : InferOk fnOf 16 := sInferOf_ok rfl ok_sProg ok_sCopyE ok_sAny ok_sNeed ok_sTypeOk
theorem ok_iInferOwn : InferOwn fnOf 17 := iInferOwn_ok rfl ok_iProg ok_pclone (iEvery_ok rfl) ok_iAt (iAll_all rfl) ok_iSource ok_iBoth ok_iTypeOk
theorem ok_eqLabel : EqOk fnOf Co.p2 true 125 := eqLabel_ok rfl
theorem ok_eqVal : EqOk fnOf Co.val true 149 := eqVal_ok rfl
theorem ok_eqLabelS : EqOk fnOf (Co.sl Co.p2) false 79 := eqCall_ok rfl ok_eqLabel rfl (va_t Co.p2)
theorem ok_eqSteps : ∀ n, EqOk fnOf (Co.step n) true 126 ∧ EqOk fnOf (Co.sl (Co.step n)) false 80 := by
  intro n
  induction n with
  | zero =>
    have z : EqOk fnOf (Co.step 0) true 126 := by
      rintro H v u a ⟨cs, _, h⟩
      exact h.elim
    exact ⟨z, eqCall_ok rfl z (step_w 0) (va_t (Co.step 0))⟩
  | succ n ih =>
    have z : EqOk fnOf (Co.step (n + 1)) true 126 := eqStep_ok rfl ok_eqVal ih.2 ih.2
    exact ⟨z, eqCall_ok rfl z (step_w (n + 1)) (va_t (Co.step (n + 1)))⟩
theorem ok_eqProg (n : Nat) : EqOk fnOf (Co.prog n) true 32 := eqProg_ok rfl ok_eqLabelS (ok_eqSteps n).2
theorem ok_szProgT (n : Nat) : SzT fnOf (Co.prog n) true 29 (tP n) := szProgT_ok rfl (szFlatT_ok rfl (fun _ => ⟨trivial, trivial⟩)) (szStepsT_all rfl rfl n).2
theorem ok_toProgS (n : Nat) : ToOkS fnOf (Co.prog n) true .k 30 := toProg_okS rfl (toCallS_ok rfl rfl (by omega) (toLabel_okS rfl) rfl (va_t Co.p2)) (toStepsS_all rfl rfl (toVal_okS rfl) n).2
theorem ok_markProg (n : Nat) : MkOk fnOf (Co.prog n) true 34 (cP n) := markProg_ok rfl (mkLabs_ok rfl) sLab (mkSteps_all rfl n) (sS n)
theorem ok_law : ∀ (H : Heap) (n : Nat) (v u : Value) (a : TProg n) (ts : List Bool), Rd (Co.prog n) true (vw 0 H) v a → SlR Co.bool (vw 0 H) u ts → QC fnOf 10 [v, u] H (.bool true) := lawEIO_ok rfl ok_szProgT ok_toProgS (toBoolS_ok rfl) ok_sInferOf ok_iInferOwn ok_eqProg (eqBool_ok rfl) ok_markProg (fun hr hh hlo hk hkn => let ⟨H2, h1, h2, h3⟩ := mkBools_ok rfl hr hlo hk hkn; ⟨H2, h1, Nat.le_of_eq h2.symm, fun b _ h => h3 b h⟩) rfl (mark2_ok rfl) (mkOwn_all rfl) rfl (held2_ok rfl) (heldS_all rfl)
end Go.Proofs.YtkmghcglmjehcaaI
end
section
/- The types of a program, opened. -/
set_option linter.unusedVariables false
set_option linter.unusedSimpArgs false
namespace Go.Proofs.YtkmghcglmjehcaaI
open Go Go.RowKit
theorem good_3 {T : Type} {enc : TypeId × Value → T} {w : World} {spare : Nat → Bool} {held : Bool} {n : Nat} {cs : List Value} {x : DataW T × List MemPlace} (h : DataW.trod enc Try.prog w 0 spare held n 3 cs = some x) : Good Co.int w cs := by
  obtain ⟨m, rfl, _, hw⟩ := DataW.trod_int Try.underlying3 h
  exact Good.int hw
theorem good_137 {T : Type} {enc : TypeId × Value → T} {w : World} {spare : Nat → Bool} {held : Bool} {n : Nat} {cs : List Value} {x : DataW T × List MemPlace} (h : DataW.trod enc Try.prog w 0 spare held n 137 cs = some x) : Good Co.p2 w cs := by
  obtain ⟨xs, n, rfl, rfl, hl, hlen, hf⟩ := DataW.trod_struct Try.underlying137 h
  have hn : Try.prog.cellsOf 137 = 2 := by kernel_rfl
  rw [hn] at hl
  have f0 : DataW.trod enc Try.prog w 0 spare held n 3 ((cs.drop 0).take (Try.prog.cellsOf 3)) = xs[0]? := hf 0 _ rfl
  rw [List.getElem?_eq_getElem (show 0 < xs.length by rw [hlen]; decide), show Try.prog.cellsOf 3 = 1 by kernel_rfl] at f0
  have f1 : DataW.trod enc Try.prog w 0 spare held n 3 ((cs.drop 1).take (Try.prog.cellsOf 3)) = xs[1]? := hf 1 _ rfl
  rw [List.getElem?_eq_getElem (show 1 < xs.length by rw [hlen]; decide), show Try.prog.cellsOf 3 = 1 by kernel_rfl] at f1
  have e : cs = ((cs.drop 0).take 1 ++ ((cs.drop 1).take 1)) := (cut (cs := cs) (o := 0) (s := 1)).trans (congrArg _ (cut_end (by rw [hl])))
  rw [e]
  exact ((good_3 f0).pair (good_3 f1))
theorem good_133 {T : Type} {enc : TypeId × Value → T} {w : World} {spare : Nat → Bool} {held : Bool} {n : Nat} {cs : List Value} {x : DataW T × List MemPlace} (h : DataW.trod enc Try.prog w 0 spare held n 133 cs = some x) : Good Co.val w cs := by
  obtain ⟨xs, n, rfl, rfl, hl, hlen, hf⟩ := DataW.trod_struct Try.underlying133 h
  have hn : Try.prog.cellsOf 133 = 3 := by kernel_rfl
  rw [hn] at hl
  have f0 : DataW.trod enc Try.prog w 0 spare held n 3 ((cs.drop 0).take (Try.prog.cellsOf 3)) = xs[0]? := hf 0 _ rfl
  rw [List.getElem?_eq_getElem (show 0 < xs.length by rw [hlen]; decide), show Try.prog.cellsOf 3 = 1 by kernel_rfl] at f0
  have f1 : DataW.trod enc Try.prog w 0 spare held n 3 ((cs.drop 1).take (Try.prog.cellsOf 3)) = xs[1]? := hf 1 _ rfl
  rw [List.getElem?_eq_getElem (show 1 < xs.length by rw [hlen]; decide), show Try.prog.cellsOf 3 = 1 by kernel_rfl] at f1
  have f2 : DataW.trod enc Try.prog w 0 spare held n 3 ((cs.drop 2).take (Try.prog.cellsOf 3)) = xs[2]? := hf 2 _ rfl
  rw [List.getElem?_eq_getElem (show 2 < xs.length by rw [hlen]; decide), show Try.prog.cellsOf 3 = 1 by kernel_rfl] at f2
  have e : cs = ((cs.drop 0).take 1 ++ (((cs.drop 1).take 1 ++ ((cs.drop 2).take 1)))) := (cut (cs := cs) (o := 0) (s := 1)).trans (congrArg _ ((cut (cs := cs) (o := 1) (s := 1)).trans (congrArg _ (cut_end (by rw [hl])))))
  rw [e]
  exact ((good_3 f0).pair ((good_3 f1).pair (good_3 f2)))
theorem good_51 {T : Type} {enc : TypeId × Value → T} {w : World} {spare : Nat → Bool} {held : Bool} {n : Nat} {cs : List Value} {x : DataW T × List MemPlace} (h : DataW.trod enc Try.prog w 0 spare held n 51 cs = some x) : Good (Co.sl Co.p2) w cs :=
  Good.sl Try.underlying51 (by kernel_rfl) (by decide) h fun _ _ _ _ h => good_137 h
theorem stepF0 {T : Type} {enc : TypeId × Value → T} {w : World} {spare : Nat → Bool} {held : Bool} : (∀ (cs : List Value) (x : DataW T × List MemPlace), DataW.trod enc Try.prog w 0 spare held (0) 135 cs = some x → Good (Co.step (dF (0))) w cs) := by
  intro cs x h
  rw [DataW.trod] at h
  cases h
theorem stepF1 {T : Type} {enc : TypeId × Value → T} {w : World} {spare : Nat → Bool} {held : Bool} : (∀ (cs : List Value) (x : DataW T × List MemPlace), DataW.trod enc Try.prog w 0 spare held (1) 135 cs = some x → Good (Co.step (dF (1))) w cs) := by
  intro cs x h
  obtain ⟨xs, n1, hn1, rfl, hl, hlen, hf⟩ := DataW.trod_struct Try.underlying135 h
  have hz : n1 = 0 := by omega
  subst hz
  have f0 : DataW.trod enc Try.prog w 0 spare held 0 3 ((cs.drop 0).take (Try.prog.cellsOf 3)) = xs[0]? := hf 0 _ rfl
  rw [List.getElem?_eq_getElem (show 0 < xs.length by rw [hlen]; decide), DataW.trod] at f0
  cases f0
theorem stepF2 {T : Type} {enc : TypeId × Value → T} {w : World} {spare : Nat → Bool} {held : Bool} {n : Nat} (ih : (∀ (cs : List Value) (x : DataW T × List MemPlace), DataW.trod enc Try.prog w 0 spare held (n) 135 cs = some x → Good (Co.step (dF (n))) w cs)) : (∀ (cs : List Value) (x : DataW T × List MemPlace), DataW.trod enc Try.prog w 0 spare held (n + 2) 135 cs = some x → Good (Co.step (dF (n + 2))) w cs) := by
  intro cs x h
  obtain ⟨xs, n1, hn1, rfl, hl, hlen, hf⟩ := DataW.trod_struct Try.underlying135 h
  have hn1' : n1 = n + 1 := by omega
  have sl52 : ∀ cs y, DataW.trod enc Try.prog w 0 spare held n1 52 cs = some y → Good (Co.sl (Co.step (dF n))) w cs := fun cs y hy =>
    Good.slF Try.underlying52 (by rw [step_w]; kernel_rfl) (by rw [step_w]; omega) hy fun n' cs' x' hn' hx' => by
      have : n' = n := by omega
      subst this
      exact ih cs' x' hx'
  have hn : Try.prog.cellsOf 135 = 8 := by kernel_rfl
  rw [hn] at hl
  have f0 : DataW.trod enc Try.prog w 0 spare held n1 3 ((cs.drop 0).take (Try.prog.cellsOf 3)) = xs[0]? := hf 0 _ rfl
  rw [List.getElem?_eq_getElem (show 0 < xs.length by rw [hlen]; decide), show Try.prog.cellsOf 3 = 1 by kernel_rfl] at f0
  have f1 : DataW.trod enc Try.prog w 0 spare held n1 3 ((cs.drop 1).take (Try.prog.cellsOf 3)) = xs[1]? := hf 1 _ rfl
  rw [List.getElem?_eq_getElem (show 1 < xs.length by rw [hlen]; decide), show Try.prog.cellsOf 3 = 1 by kernel_rfl] at f1
  have f2 : DataW.trod enc Try.prog w 0 spare held n1 133 ((cs.drop 2).take (Try.prog.cellsOf 133)) = xs[2]? := hf 2 _ rfl
  rw [List.getElem?_eq_getElem (show 2 < xs.length by rw [hlen]; decide), show Try.prog.cellsOf 133 = 3 by kernel_rfl] at f2
  have f3 : DataW.trod enc Try.prog w 0 spare held n1 3 ((cs.drop 5).take (Try.prog.cellsOf 3)) = xs[3]? := hf 3 _ rfl
  rw [List.getElem?_eq_getElem (show 3 < xs.length by rw [hlen]; decide), show Try.prog.cellsOf 3 = 1 by kernel_rfl] at f3
  have f4 : DataW.trod enc Try.prog w 0 spare held n1 52 ((cs.drop 6).take (Try.prog.cellsOf 52)) = xs[4]? := hf 4 _ rfl
  rw [List.getElem?_eq_getElem (show 4 < xs.length by rw [hlen]; decide), show Try.prog.cellsOf 52 = 1 by kernel_rfl] at f4
  have f5 : DataW.trod enc Try.prog w 0 spare held n1 52 ((cs.drop 7).take (Try.prog.cellsOf 52)) = xs[5]? := hf 5 _ rfl
  rw [List.getElem?_eq_getElem (show 5 < xs.length by rw [hlen]; decide), show Try.prog.cellsOf 52 = 1 by kernel_rfl] at f5
  have e : cs = ((cs.drop 0).take 1 ++ (((cs.drop 1).take 1 ++ (((cs.drop 2).take 3 ++ (((cs.drop 5).take 1 ++ (((cs.drop 6).take 1 ++ ((cs.drop 7).take 1)))))))))) := (cut (cs := cs) (o := 0) (s := 1)).trans (congrArg _ ((cut (cs := cs) (o := 1) (s := 1)).trans (congrArg _ ((cut (cs := cs) (o := 2) (s := 3)).trans (congrArg _ ((cut (cs := cs) (o := 5) (s := 1)).trans (congrArg _ ((cut (cs := cs) (o := 6) (s := 1)).trans (congrArg _ (cut_end (by rw [hl])))))))))))
  rw [e]
  have e8 : Good (Co.pair Co.int (Co.pair Co.int (Co.pair Co.val (Co.pair Co.int (Co.pair (Co.sl (Co.step (dF n))) (Co.sl (Co.step (dF n)))))))) w _ := ((good_3 f0).pair ((good_3 f1).pair ((good_133 f2).pair ((good_3 f3).pair ((sl52 _ _ f4).pair (sl52 _ _ f5))))))
  exact e8
theorem stepFF {T : Type} {enc : TypeId × Value → T} {w : World} {spare : Nat → Bool} {held : Bool} (n : Nat) : (∀ (cs : List Value) (x : DataW T × List MemPlace), DataW.trod enc Try.prog w 0 spare held (n) 135 cs = some x → Good (Co.step (dF (n))) w cs) ∧ (∀ (cs : List Value) (x : DataW T × List MemPlace), DataW.trod enc Try.prog w 0 spare held (n + 1) 135 cs = some x → Good (Co.step (dF (n + 1))) w cs) := by
  induction n with
  | zero => exact ⟨stepF0, stepF1⟩
  | succ n ih => exact ⟨ih.2, stepF2 ih.1⟩
theorem good_135 {T : Type} {enc : TypeId × Value → T} {w : World} {spare : Nat → Bool} {held : Bool} (n : Nat) {cs : List Value} {x : DataW T × List MemPlace} (h : DataW.trod enc Try.prog w 0 spare held n 135 cs = some x) : Good (Co.step (dF n)) w cs := (stepFF n).1 cs x h
theorem good_54 {T : Type} {enc : TypeId × Value → T} {w : World} {spare : Nat → Bool} {held : Bool} {n : Nat} {cs : List Value} {x : DataW T × List MemPlace} (h : DataW.trod enc Try.prog w 0 spare held n 54 cs = some x) : ∃ d, Good (Co.prog d) w cs := by
  obtain ⟨xs, n1, hn1, rfl, hl, hlen, hf⟩ := DataW.trod_struct Try.underlying54 h
  have hn : Try.prog.cellsOf 54 = 2 := by kernel_rfl
  rw [hn] at hl
  have f0 : DataW.trod enc Try.prog w 0 spare held n1 51 ((cs.drop 0).take (Try.prog.cellsOf 51)) = xs[0]? := hf 0 _ rfl
  rw [List.getElem?_eq_getElem (show 0 < xs.length by rw [hlen]; decide), show Try.prog.cellsOf 51 = 1 by kernel_rfl] at f0
  have f1 : DataW.trod enc Try.prog w 0 spare held n1 52 ((cs.drop 1).take (Try.prog.cellsOf 52)) = xs[1]? := hf 1 _ rfl
  rw [List.getElem?_eq_getElem (show 1 < xs.length by rw [hlen]; decide), show Try.prog.cellsOf 52 = 1 by kernel_rfl] at f1
  have e : cs = ((cs.drop 0).take 1 ++ ((cs.drop 1).take 1)) := (cut (cs := cs) (o := 0) (s := 1)).trans (congrArg _ (cut_end (by rw [hl])))
  refine ⟨dF (n1 - 1), ?_⟩
  rw [e]
  refine (good_51 f0).pair (Good.slF Try.underlying52 (by rw [step_w]; kernel_rfl) (by rw [step_w]; omega) f1 fun n' cs' x' hn' hx' => ?_)
  have : n1 - 1 = n' := by omega
  rw [this]
  exact good_135 n' hx'
theorem len_54 {T : Type} {enc : TypeId × Value → T} {w : World} {spare : Nat → Bool} {held : Bool} {n : Nat} {cs : List Value} {x : DataW T × List MemPlace} (h : DataW.trod enc Try.prog w 0 spare held n 54 cs = some x) : cs.length = 2 := by
  obtain ⟨xs, n, rfl, rfl, hl, hlen, hf⟩ := DataW.trod_struct Try.underlying54 h
  rw [hl]
  kernel_rfl
theorem good_4 {T : Type} {enc : TypeId × Value → T} {w : World} {spare : Nat → Bool} {held : Bool} {n : Nat} {cs : List Value} {x : DataW T × List MemPlace} (h : DataW.trod enc Try.prog w 0 spare held n 4 cs = some x) : Good Co.bool w cs := by
  obtain ⟨m, rfl, _⟩ := DataW.trod_bool Try.underlying4 h
  exact Good.bool
theorem good_27 {T : Type} {enc : TypeId × Value → T} {w : World} {spare : Nat → Bool} {held : Bool} {n : Nat} {cs : List Value} {x : DataW T × List MemPlace} (h : DataW.trod enc Try.prog w 0 spare held n 27 cs = some x) : Good (Co.sl Co.bool) w cs :=
  Good.sl Try.underlying27 (by kernel_rfl) (by decide) h fun _ _ _ _ h => good_4 h
end Go.Proofs.YtkmghcglmjehcaaI
end
section
/- The law FnExactInferOf, called in the model. -/
set_option linter.unusedVariables false
set_option linter.unusedSimpArgs false
namespace Go.Proofs.YtkmghcglmjehcaaI
open Go Go.RowKit
theorem lawEM_calls {W : World} {c0 : Array Value} {a : Option Addr} {l c : Nat} (g0 : ∃ d, Good (Co.prog d) W c0.toList) (g1 : Good (Co.sl Co.bool) W [.slice a l c]) :
    Calls Try.prog 10 #[.agg c0, .slice a l c] W fun e w' => e = .returned (.bool true) ∧ Below W.heap.size W w' := by
  obtain ⟨d, g0⟩ := g0
  obtain ⟨p, L, m, cs0, s, q, r, e⟩ := g0 [] (fun _ => none) (SL.none _)
  rw [List.nil_append] at s r
  obtain ⟨ts, L2, m2, cs1, s2, q2, r2, e2⟩ := g1 L m s
  obtain ⟨u, rfl, hu⟩ := r2
  exact law_core hF hMixed s2 (vals := [.agg cs0.toArray, u]) (All2.cons (VR.agg_mk (e.mono fun _ _ _ h => VR1.mono q2 h)) (All2.cons (VR.one_mk e2) All2.nil))
    (ok_law _ d _ _ p ts ⟨cs0, rfl, (Co.prog d).mono (vw_app 0 L L2) r⟩ hu)
end Go.Proofs.YtkmghcglmjehcaaI
end
