/- Texts of this proof, merged: U6, U7, U8, H10, U10, U11. -/
import Derived.Test.YtkmghcglmjehcaaPa9
import Derived.Test.YtkmghcglmjehcaaPa10
section
/- What a variable needs (the reference's). -/
set_option linter.unusedVariables false
set_option linter.unusedSimpArgs false
namespace Go.Proofs.YtkmghcglmjehcaaI
open Go Go.RowKit
def c_sNeed : IFn := ⟨2, 55, [.cell true 2 4],
 .seq (.reg none [
    ⟨(some 2), none, .box (.t 0)⟩,
    ⟨(some 4), none, .new [(.int .i64 0), (.int .i64 0)]⟩])
 (.seq (.reg none [
    ⟨(some 9), none, .fad 1 (.t 2)⟩,
    ⟨(some 10), none, .load false 1 (.t 9)⟩,
    ⟨(some 11), none, .call .k (.f 103) [(.t 10)]⟩,
    ⟨(some 5), none, .mov (.t 11)⟩])
 (.seq (.reg none [
    ⟨(some 12), none, .load true 2 (.t 2)⟩,
    ⟨(some 13), none, .call .k (.f 104) [(.t 12)]⟩,
    ⟨(some 6), none, .mov (.t 13)⟩])
 (.seq (.reg none [
    ⟨(some 14), none, .fad 0 (.t 2)⟩,
    ⟨(some 15), none, .load false 1 (.t 14)⟩,
    ⟨(some 16), none, .mov (.t 1)⟩,
    ⟨(some 17), none, .iad 2 (.t 15) (.t 16)⟩,
    ⟨(some 18), none, .load true 2 (.t 17)⟩,
    ⟨(some 7), none, .new [(.int .i64 0), (.int .i64 0)]⟩,
    ⟨none, none, .store 2 (.t 7) (.t 18)⟩])
 (.seq (.seq (.reg none [
     ⟨(some 8), none, .mov (.c (.int .i64 0))⟩])
  (.block 0 (.loop (.seq (.seq (.reg none [
        ⟨(some 19), none, .mov (.t 8)⟩,
        ⟨(some 20), none, .mov (.t 5)⟩,
        ⟨(some 21), none, .len (.t 20)⟩,
        ⟨(some 22), none, .bin .lss (.t 19) (.t 21)⟩])
     (.cond (.t 22) (.skip) (.exit 0)))
    (.seq (.block 1 (.seq (.reg none [
         ⟨(some 25), none, .mov (.t 5)⟩,
         ⟨(some 26), none, .mov (.t 8)⟩,
         ⟨(some 27), none, .iad 8 (.t 25) (.t 26)⟩,
         ⟨(some 28), none, .fad 0 (.t 27)⟩,
         ⟨(some 29), none, .load false 1 (.t 28)⟩,
         ⟨(some 30), none, .bin .eql (.t 29) (.c (.int .i64 1))⟩,
         ⟨(some 31), none, .mov (.t 30)⟩,
         ⟨(some 32), (some (31, true)), .mov (.t 5)⟩,
         ⟨(some 33), (some (31, true)), .mov (.t 8)⟩,
         ⟨(some 34), (some (31, true)), .iad 8 (.t 32) (.t 33)⟩,
         ⟨(some 35), (some (31, true)), .fad 1 (.t 34)⟩,
         ⟨(some 36), (some (31, true)), .load false 1 (.t 35)⟩,
         ⟨(some 37), (some (31, true)), .mov (.t 1)⟩,
         ⟨(some 38), (some (31, true)), .bin .eql (.t 36) (.t 37)⟩,
         ⟨(some 39), none, .pick (.t 31) (.t 38) (.c (.bool false))⟩])
      (.cond (.t 39) (.reg (some 13) [
         ⟨(some 40), none, .load true 2 (.t 7)⟩,
         ⟨(some 41), none, .mov (.t 6)⟩,
         ⟨(some 42), none, .mov (.t 8)⟩,
         ⟨(some 43), none, .iad 2 (.t 41) (.t 42)⟩,
         ⟨(some 44), none, .load true 2 (.t 43)⟩,
         ⟨(some 45), none, .load true 2 (.t 2)⟩,
         ⟨(some 46), none, .mov (.t 5)⟩,
         ⟨(some 47), none, .mov (.t 8)⟩,
         ⟨(some 48), none, .iad 8 (.t 46) (.t 47)⟩,
         ⟨(some 49), none, .fad 2 (.t 48)⟩,
         ⟨(some 50), none, .load true 3 (.t 49)⟩,
         ⟨(some 51), none, .call .q (.f 106) [(.t 45), (.t 50)]⟩,
         ⟨(some 52), none, .call .q (.f 105) [(.t 44), (.t 51)]⟩,
         ⟨(some 53), none, .call .q (.f 105) [(.t 40), (.t 52)]⟩,
         ⟨none, none, .store 2 (.t 7) (.t 53)⟩]) (.skip))))
    (.reg none [
      ⟨(some 23), none, .mov (.t 8)⟩,
      ⟨(some 24), none, .bin .add (.t 23) (.c (.int .i64 1))⟩,
      ⟨(some 8), none, .mov (.t 24)⟩]))))))
 (.seq (.reg none [
    ⟨(some 54), none, .load true 2 (.t 7)⟩,
    ⟨none, none, .store 2 (.t 4) (.t 54)⟩])
 (.ret))))))⟩
def NeedOk (F : Nat → Option IFn) (f : Nat) : Prop := ∀ (H : Heap) (n : Nat) (lv sv : Value) (ls : List (Int × Int)) (l : List (TStep n)) (v : Nat), SlR Co.p2 (vw 0 H) lv ls → SlR (Co.step n) (vw 0 H) sv l → (Co.prog n).sm (ls, l) → progB n (ls, l) = true → v < ls.length → QC F f [.agg #[lv, sv], .int .i64 v] H (.agg #[.int .i64 (needV n ls l v).1, .int .i64 (needV n ls l v).2])
theorem lab_rg1 {a : Int × Int} (h : labB a = true) : RgI a.1 ∧ RgI a.2 := by
  have q := labB_i.1 h
  unfold RgI
  exact ⟨by omega, by omega⟩
theorem sNeed_ok {F : Nat → Option IFn} {f : Nat} (hf : F f = some c_sNeed) (gall : ∀ n, AllOk F 103 n) (gta : TypeAtOk F 104) (gb : LBothOk F 105)
    (gv : ∀ (H : Heap) (lv sv : Value) (ls : List (Int × Int)) (k a b : Int), one sv = true → SlR Co.p2 (vw 0 H) lv ls → valB ls.length (k, a, b) = true → QC F 106 [.agg #[lv, sv], .agg #[.int .i64 k, .int .i64 a, .int .i64 b]] H (.agg #[.int .i64 (valL ls (k, a, b)).1, .int .i64 (valL ls (k, a, b)).2])) : NeedOk F f := by
  intro H n lv sv ls l v hlv hsv hsm hpb hvl
  have osv : one sv = true := by obtain ⟨_, a, rfl, _⟩ := hsv; rfl
  obtain ⟨_, la, rfl, _⟩ := id hlv
  have hcnt : (allL n l).length ≤ 8 := progB_cnt hpb hsm
  have hsh := progB_sh hpb
  have hlab := progB_lab hpb
  refine QC.mk hf rfl ?_
  refine seq_reg ?_
  simp only [go_sem, binC, osv]
  refine wpc_gen fun H1 hH1 => ?_
  have ht1 : AgX [] H H1 := hH1 ▸ AgX.app [] _ _
  have hp1 : H1[H.length]? = some ⟨[.slice la ls.length ls.length, sv], 0, 0, false, true⟩ := hH1 ▸ get_new0 _ _
  have hr1 : H1[H.length + 1]? = some ⟨[.int .i64 0, .int .i64 0], 0, 0, false, true⟩ := hH1 ▸ get_new _ _ 1
  clear hH1
  refine seq_reg ?_
  simp only [go_sem, binC, gc_of hp1, inBlk_some]
  obtain ⟨v2, H2, k2, x2, b2, so2, rfl, o2⟩ := gall n H1 sv l (hsv.mono (agx_sub ht1)) (by omega)
  refine op_callK (by simp only [go_sem, binC]; exact k2) ?_
  simp only [go_sem, binC]
  have hp2 := x2.get hp1 (by simp)
  have ht2 := ht1.tr x2
  refine seq_reg ?_
  simp only [go_sem, binC, gc_of hp2, inBlk_some, osv]
  obtain ⟨b3, so3, out, H3, k3, x3, o3, n3, a3, q3⟩ := gta H2 n _ sv ls l (hlv.mono (agx_sub ht2)) (hsv.mono (agx_sub ht2)) hsm hpb
  refine op_callK (by simp only [go_sem, binC]; exact k3) ?_
  simp only [go_sem, binC]
  have hp3 := x3.get hp2 (by simp)
  have hr3 := x3.get (x2.get hr1 (by simp)) (by simp)
  have ht3 := ht2.tr x3
  have ho2b : ∀ b, b = b2 → H1.length ≤ b ∧ b < H2.length := fun b hb => by subst hb; exact ⟨o2.1, by obtain ⟨_, _, cs, h, _⟩ := o2; exact (List.getElem?_eq_some_iff.1 h).1⟩
  have o23 := o2.sub x3 (xs' := []) (by simp) (fun _ _ _ _ _ => ⟨by simp, by simp⟩)
  obtain ⟨lb, lo', hla, hgl⟩ := gcP (hlv.mono (agx_sub ht3)) hvl
  simp only [Value.slice.injEq, and_true] at hla
  subst hla
  have hlx := lab_getD hlab v
  have hls : ls[v] = ls.getD v (0, 0) := by simp [List.getD, hvl]
  rw [hls] at hgl
  have hl3 := ht3.1
  refine seq_reg ?_
  simp only [go_sem, binC, gc_of hp3, inBlk_some]
  refine ⟨⟨by omega, by omega⟩, ?_⟩
  simp only [go_sem, binC, Int.toNat_natCast, hgl]
  refine ⟨by omega, ?_⟩
  refine wpc_gen fun H4 hH4 => ?_
  have x4 : AgX [] H3 H4 := hH4 ▸ AgX.app [] _ _
  have hb7 : H4[H3.length]? = some ⟨[.int .i64 (ls.getD v (0, 0)).1, .int .i64 (ls.getD v (0, 0)).2], 0, 0, false, true⟩ := hH4 ▸ get_new0 _ _
  clear hH4
  have hp4 := x4.get hp3 (by simp)
  have hr4 := x4.get hr3 (by simp)
  have ht4 := ht3.tr x4
  have o24 := o23.sub x4 (xs' := [H3.length]) (by simp) (fun b' h4 h5 h6 h7 => ⟨by simp, by simp; omega⟩)
  have o34 := o3.sub x4 (xs' := [H3.length]) (by simp) (fun b' h4 h5 h6 h7 => ⟨by simp, by simp; omega⟩)
  have hb2l : b2 < H3.length := by obtain ⟨_, _, cs, h, _⟩ := o23; exact (List.getElem?_eq_some_iff.1 h).1
  have hb3l : b3 < H3.length := by obtain ⟨_, _, cs, h, _⟩ := o3; exact (List.getElem?_eq_some_iff.1 h).1
  have hrl := (List.getElem?_eq_some_iff.1 hr3).1
  refine seq_assoc (seq_reg ?_)
  simp only [go_sem, binC]
  refine seq_block (wpc_loop ?_)
  suffices h : ∀ (k i : Nat) (e : Env) (Hc : Heap) (cur : Int × Int), i + k = (allL n l).length → cur = (((allL n l).zip out).take i).foldl (needS ls v) (ls.getD v (0, 0)) → AgX [H3.length] H4 Hc → Hc[H3.length]? = some ⟨[.int .i64 cur.1, .int .i64 cur.2], 0, 0, false, true⟩ → e 1 = .int .i64 v → e 2 = ptr H.length 0 → e 4 = ptr (H.length + 1) 0 → e 5 = sli b2 0 (allL n l).length → e 6 = sli b3 0 out.length → e 7 = ptr H3.length 0 → e 8 = .int .i64 i → Go.Proofs.YtkmghcglmjehcaaI.W F H.length _ e Hc _ from
    h (allL n l).length 0 _ H4 _ (by omega) rfl (AgX.refl _ _) hb7 (by simp only [go_sem, binC]) (by simp only [go_sem, binC]) (by simp only [go_sem, binC]) (by simp only [go_sem, binC]) (by simp only [go_sem, binC]) (by simp only [go_sem, binC]) (by (simp only [go_sem, binC]) <;> rfl)
  intro k
  induction k with
  | zero =>
    intro i e Hc cur hi hcur hxc hbc e1 e2 e4 e5 e6 e7 e8
    have hzl : ((allL n l).zip out).length ≤ i := by rw [List.length_zip]; omega
    rw [List.take_of_length_le hzl, q3] at hcur
    have hrc := hxc.get hr4 (by simp; omega)
    have hrcl := (List.getElem?_eq_some_iff.1 hrc).1
    refine lp_step ?_
    refine seq_assoc (seq_reg ?_)
    simp only [go_sem, binC, e5, e8]
    refine seq_cond (t := false) (by simp only [go_sem, binC]; rw [decide_eq_false (by omega)]) ?_
    simp only [go_sem, binC]
    refine seq_exit ?_
    simp only [go_sem, binC, thenX_e, out_e, thenX_n]
    refine seq_reg ?_
    simp only [go_sem, binC, e4, e7, gc_of hbc, inBlk_some, hrc]
    refine wpc_ret ⟨Or.inr rfl, .agg #[.int .i64 (needV n ls l v).1, .int .i64 (needV n ls l v).2], ?_, rfl, rfl⟩
    have hnv : needV n ls l v = cur := by rw [hcur]; rfl
    rw [hnv]
    simp [resV, res1, putE_get, ptr, gc_set hrcl, inBlk_some, valOf, e4]
  | succ k ih =>
    intro i e Hc cur hi hcur hxc hbc e1 e2 e4 e5 e6 e7 e8
    have hil : i < (allL n l).length := by omega
    have hio : i < out.length := by omega
    have hiz : i < ((allL n l).zip out).length := by rw [List.length_zip]; omega
    have hw1 : IntKind.i64.wrap ((i : Int) + 1) = ((i + 1 : Nat) : Int) := by rw [wrap_id (by omega) (by omega)]; omega
    have hclab : labB cur = true := by
      rw [hcur]
      exact (needS_fold ls v _ _ hlx).1.la
    have hnext : (((allL n l).zip out).take (i + 1)).foldl (needS ls v) (ls.getD v (0, 0)) = needS ls v cur ((allL n l)[i], out[i]) := by
      rw [List.take_add_one, List.getElem?_eq_getElem hiz, List.foldl_append, ← hcur, List.getElem_zip]
      rfl
    have hxcl := hxc.1
    have hpc := hxc.get hp4 (by simp; omega)
    have o2c := o24.sub hxc (xs' := [H3.length]) (by simp; omega) (fun b' _ _ _ h7 => ⟨h7, h7⟩)
    have o3c := o34.sub hxc (xs' := [H3.length]) (by simp; omega) (fun b' _ _ _ h7 => ⟨h7, h7⟩)
    obtain ⟨cs, g1, tv, ev, hcs, otv, oev, rg⟩ := o2c.at hil
    obtain ⟨cs2, g2, x1, y1, hxy, ⟨hx1, rx⟩, ⟨hy1, ry⟩⟩ := o3c.at hio
    have hshi := hsh _ (List.getElem_mem hil)
    have hoi : labB out[i] = true := List.all_eq_true.1 a3 _ (List.getElem_mem _)
    generalize (allL n l)[i] = s at hcs rg hshi hnext
    generalize out[i] = hr at hx1 hy1 rx ry hoi hnext
    obtain ⟨sk, sx, ⟨sa, sbb, sc⟩, sg⟩ := s
    obtain ⟨ra, rb⟩ := hr
    subst hx1 hy1
    subst hxy
    subst hcs
    have f0 := gc_part (off := 0) (k := 1) g1 (by omega)
    have f1 := gc_part (off := 1) (k := 1) g1 (by omega)
    have f2 := gc_part (off := 2) (k := 3) g1 (by omega)
    simp only [List.drop_zero, List.drop_succ_cons, List.take_succ_cons, List.take_zero, Nat.add_zero] at f0 f1 f2
    have hlvc : SlR Co.p2 (vw 0 Hc) (.slice (some ⟨lb, lo', none⟩) ls.length ls.length) ls := hlv.mono (agx_sub (ht4.trans hxc (zs := []) (fun _ h _ => h) (fun b hb hlt => by simp only [List.mem_singleton] at hb; subst hb; omega)))
    refine lp_step ?_
    refine seq_assoc (seq_reg ?_)
    simp only [go_sem, binC, e5, e8]
    refine seq_cond (t := true) (by simp only [go_sem, binC]; rw [decide_eq_true (by omega)]) ?_
    simp only [go_sem, binC]
    refine seq_skip (seq_block (seq_reg ?_))
    simp only [go_sem, binC, e5, e8]
    refine ⟨⟨by omega, by omega⟩, ?_⟩
    simp only [go_sem, binC, Int.toNat_natCast, f0]
    by_cases k1 : sk = 1
    case neg =>
      rw [show needS ls v cur ((sk, sx, (sa, sbb, sc), sg), (ra, rb)) = cur from if_neg (fun h => k1 h.1)] at hnext
      simp only [go_sem, binC, beq_f k1]
      refine wpc_cond (t := false) rfl ?_
      simp only [go_sem, binC]
      refine wpc_skip ?_
      simp only [go_sem, binC, out_n, thenX_n]
      refine wpc_reg ?_
      simp only [go_sem, binC, e8, hw1]
      simp only [go_sem, binC, thenX_n]
      exact ih (i + 1) _ Hc cur (by omega) hnext.symm hxc hbc (by simp only [go_sem, binC, e1]) (by simp only [go_sem, binC, e2]) (by simp only [go_sem, binC, e4]) (by simp only [go_sem, binC, e5]) (by simp only [go_sem, binC, e6]) (by simp only [go_sem, binC, e7]) (by simp only [go_sem, binC])
    simp only [go_sem, binC, beq_t k1, e5, e8]
    refine ⟨⟨by omega, by omega⟩, ?_⟩
    simp only [go_sem, binC, Int.toNat_natCast, f1, e1]
    by_cases k2 : sx = v
    case neg =>
      rw [show needS ls v cur ((sk, sx, (sa, sbb, sc), sg), (ra, rb)) = cur from if_neg (fun h => k2 h.2)] at hnext
      simp only [go_sem, binC, beq_f k2]
      refine wpc_cond (t := false) rfl ?_
      simp only [go_sem, binC]
      refine wpc_skip ?_
      simp only [go_sem, binC, out_n, thenX_n]
      refine wpc_reg ?_
      simp only [go_sem, binC, e8, hw1]
      simp only [go_sem, binC, thenX_n]
      exact ih (i + 1) _ Hc cur (by omega) hnext.symm hxc hbc (by simp only [go_sem, binC, e1]) (by simp only [go_sem, binC, e2]) (by simp only [go_sem, binC, e4]) (by simp only [go_sem, binC, e5]) (by simp only [go_sem, binC, e6]) (by simp only [go_sem, binC, e7]) (by simp only [go_sem, binC])
    rw [show needS ls v cur ((sk, sx, (sa, sbb, sc), sg), (ra, rb)) = lboth cur (lboth (ra, rb) (valL ls (sa, sbb, sc))) from if_pos ⟨k1, k2⟩] at hnext
    have hval : valB ls.length (sa, sbb, sc) = true := by
      simp only [shB, Bool.and_eq_true] at hshi
      have := hshi.2
      rwa [if_pos k1] at this
    simp only [go_sem, binC, beq_t k2]
    refine wpc_cond (t := true) rfl ?_
    simp only [go_sem, binC]
    refine wpc_regD ?_
    simp only [go_sem, binC, e2, e5, e6, e7, e8, gc_of hbc, gc_of hpc, inBlk_some, osv]
    refine ⟨⟨by omega, by omega⟩, ?_⟩
    simp only [go_sem, binC, Int.toNat_natCast, g2, e2, e5, e8, gc_of hpc, inBlk_some, osv]
    refine ⟨⟨by omega, by omega⟩, ?_⟩
    simp only [go_sem, binC, Int.toNat_natCast, f2]
    refine op_callQ (by simp only [go_sem, binC]; exact gv Hc _ sv ls sa sbb sc osv hlvc hval) ?_
    have hvL := valL_bd ls (sa, sbb, sc)
    generalize valL ls (sa, sbb, sc) = vl at hvL hnext
    obtain ⟨va, vb⟩ := vl
    simp only [go_sem, binC]
    refine op_callQ (by simp only [go_sem, binC]; exact gb Hc ra rb va vb (lab_rg1 hoi).1 (lab_rg1 hoi).2 (lab_rg1 hvL).1 (lab_rg1 hvL).2) ?_
    have hbb := lboth_bd (ra, rb) (va, vb)
    generalize lboth (ra, rb) (va, vb) = bb at hbb hnext
    obtain ⟨ba, bb⟩ := bb
    simp only [go_sem, binC]
    refine op_callQ (by simp only [go_sem, binC]; exact gb Hc cur.1 cur.2 ba bb (lab_rg1 hclab).1 (lab_rg1 hclab).2 (lab_rg1 hbb).1 (lab_rg1 hbb).2) ?_
    rw [show (cur.1, cur.2) = cur from rfl]
    generalize hnx : lboth cur (ba, bb) = nx at hnext
    simp only [go_sem, binC, e7, hbc]
    refine ⟨by omega, ?_⟩
    simp only [go_sem, binC, out_n, thenX_n]
    refine wpc_reg ?_
    simp only [go_sem, binC, e8, hw1]
    simp only [go_sem, binC, thenX_n]
    have hbcl := (List.getElem?_eq_some_iff.1 hbc).1
    exact ih (i + 1) _ _ nx (by omega) hnext.symm (hxc.trans (AgX.set Hc H3.length _) (fun _ h _ => h) (fun _ h _ => h)) (List.getElem?_set_self hbcl) (by simp only [go_sem, binC, e1]) (by simp only [go_sem, binC, e2]) (by simp only [go_sem, binC, e4]) (by simp only [go_sem, binC, e5]) (by simp only [go_sem, binC, e6]) (by simp only [go_sem, binC, e7]) (by simp only [go_sem, binC])
end Go.Proofs.YtkmghcglmjehcaaI
end
section
/- Labels that are found (the reference's). -/
set_option linter.unusedVariables false
set_option linter.unusedSimpArgs false
namespace Go.Proofs.YtkmghcglmjehcaaI
open Go Go.RowKit
def c_sTypeOk : IFn := ⟨1, 16, [.t 2],
 .seq (.reg none [
    ⟨(some 1), none, .box (.t 0)⟩,
    ⟨(some 2), none, .mov (.c (.bool false))⟩])
 (.seq (.reg none [
    ⟨(some 6), none, .load true 2 (.t 1)⟩,
    ⟨(some 7), none, .call .q (.f 64) [(.t 6)]⟩,
    ⟨(some 5), none, .mov (.t 7)⟩,
    ⟨(some 8), none, .ext (.t 5) 0⟩,
    ⟨(some 9), none, .ext (.t 5) 1⟩,
    ⟨(some 3), none, .mov (.t 8)⟩,
    ⟨(some 4), none, .mov (.t 9)⟩])
 (.seq (.reg none [
    ⟨(some 10), none, .load true 2 (.t 1)⟩,
    ⟨(some 11), none, .call .q (.f 19) [(.t 10)]⟩,
    ⟨(some 12), none, .mov (.t 11)⟩,
    ⟨(some 13), (some (12, true)), .mov (.t 4)⟩,
    ⟨(some 14), (some (12, true)), .un .not (.t 13)⟩,
    ⟨(some 15), none, .pick (.t 12) (.t 14) (.c (.bool false))⟩,
    ⟨(some 2), none, .mov (.t 15)⟩])
 (.ret)))⟩
theorem sTypeOk_ok {F : Nat → Option IFn} {f : Nat} (hf : F f = some c_sTypeOk) (gw : WhyV F 64) (gp : ProgOk F 19) : TypeP F f := by
  intro H n lv sv ls l r1 r2 hsm
  have olv : one lv = true := by obtain ⟨_, a, rfl, _⟩ := r1; rfl
  have osv : one sv = true := by obtain ⟨_, a, rfl, _⟩ := r2; rfl
  refine QC.mk hf rfl ?_
  refine seq_reg ?_
  simp only [go_sem, binC, olv, osv]
  refine wpc_gen fun H1 hH1 => ?_
  have hx1 : AgX [] H H1 := hH1 ▸ AgX.app [] _ _
  have hb : H1[H.length]? = some ⟨[lv, sv], 0, 0, false, true⟩ := hH1 ▸ get_new0 _ _
  clear hH1
  have hS := agx_sub hx1
  refine seq_reg ?_
  simp only [go_sem, binC, gc_of hb, inBlk_some, olv, osv]
  refine op_callQ (by simp only [go_sem, binC]; exact gw H1 n _ _ ls l (r1.mono hS) (r2.mono hS) hsm) ?_
  simp only [go_sem, binC]
  refine seq_reg ?_
  simp only [go_sem, binC, gc_of hb, inBlk_some, olv, osv]
  refine op_callQ (by simp only [go_sem, binC]; exact gp H1 n _ (ls, l) (prog_rd (r1.mono hS) (r2.mono hS)) hsm) ?_
  cases hP : progB n (ls, l) with
  | false =>
    simp only [go_sem, binC]
    refine wpc_ret ⟨Or.inr rfl, .bool false, (by (simp only [go_sem, binC]) <;> rfl), ?_, rfl⟩
    refine congrArg _ ?_
    show _ = typeP n (ls, l)
    unfold typeP
    rw [hP]
    rfl
  | true =>
    simp only [go_sem, binC]
    refine wpc_ret ⟨Or.inr rfl, .bool (!(whyV n (ls, l)).2), (by (simp only [go_sem, binC]) <;> rfl), ?_, rfl⟩
    refine congrArg _ ?_
    show _ = typeP n (ls, l)
    unfold typeP
    rw [hP]
    rfl
def c_sInferOf : IFn := ⟨2, 71, [.cell true 2 4, .t 5],
 .seq (.reg none [
    ⟨(some 2), none, .box (.t 0)⟩,
    ⟨(some 4), none, .new [(.slice none 0 0), (.slice none 0 0)]⟩,
    ⟨(some 5), none, .mov (.c (.bool false))⟩])
 (.seq (.seq (.reg none [
     ⟨(some 10), none, .load true 2 (.t 2)⟩,
     ⟨(some 11), none, .call .q (.f 19) [(.t 10)]⟩,
     ⟨(some 12), none, .un .not (.t 11)⟩,
     ⟨(some 13), none, .mov (.t 12)⟩,
     ⟨(some 14), (some (13, false)), .mov (.t 1)⟩,
     ⟨(some 15), (some (13, false)), .len (.t 14)⟩,
     ⟨(some 16), (some (13, false)), .fad 0 (.t 2)⟩,
     ⟨(some 17), (some (13, false)), .load false 1 (.t 16)⟩,
     ⟨(some 18), (some (13, false)), .len (.t 17)⟩,
     ⟨(some 19), (some (13, false)), .bin .neq (.t 15) (.t 18)⟩,
     ⟨(some 20), none, .pick (.t 13) (.c (.bool true)) (.t 19)⟩])
  (.cond (.t 20) (.seq (.reg none [
      ⟨(some 21), none, .build [(.slice none 0 0), (.slice none 0 0)] []⟩,
      ⟨none, none, .store 2 (.t 4) (.t 21)⟩,
      ⟨(some 5), none, .mov (.c (.bool false))⟩])
   (.ret)) (.skip)))
 (.seq (.reg (some 9) [
    ⟨(some 22), none, .lit 2 35 0 [] []⟩,
    ⟨(some 23), none, .fad 0 (.t 2)⟩,
    ⟨(some 24), none, .load false 1 (.t 23)⟩,
    ⟨(some 25), none, .app 2 35 16 false (.t 22) (.t 24)⟩,
    ⟨(some 26), none, .fad 1 (.t 2)⟩,
    ⟨(some 27), none, .load false 1 (.t 26)⟩,
    ⟨(some 28), none, .call .k (.f 51) [(.t 27)]⟩,
    ⟨(some 29), none, .build [(.slice none 0 0), (.slice none 0 0)] [(0, 1, (.t 25)), (1, 1, (.t 28))]⟩,
    ⟨(some 6), none, .new [(.slice none 0 0), (.slice none 0 0)]⟩,
    ⟨none, none, .store 2 (.t 6) (.t 29)⟩])
 (.seq (.seq (.reg none [
     ⟨(some 7), none, .mov (.c (.int .i64 0))⟩])
  (.block 0 (.loop (.seq (.seq (.reg none [
        ⟨(some 30), none, .mov (.t 7)⟩,
        ⟨(some 31), none, .mov (.t 1)⟩,
        ⟨(some 32), none, .len (.t 31)⟩,
        ⟨(some 33), none, .bin .lss (.t 30) (.t 32)⟩])
     (.cond (.t 33) (.skip) (.exit 0)))
    (.seq (.block 1 (.seq (.reg none [
         ⟨(some 36), none, .mov (.t 1)⟩,
         ⟨(some 37), none, .mov (.t 7)⟩,
         ⟨(some 38), none, .iad 1 (.t 36) (.t 37)⟩,
         ⟨(some 39), none, .load false 1 (.t 38)⟩])
      (.cond (.t 39) (.reg (some 4) [
         ⟨(some 40), none, .fad 0 (.t 6)⟩,
         ⟨(some 41), none, .load false 1 (.t 40)⟩,
         ⟨(some 42), none, .mov (.t 7)⟩,
         ⟨(some 43), none, .call .q (.f 52) []⟩,
         ⟨(some 44), none, .iad 2 (.t 41) (.t 42)⟩,
         ⟨none, none, .store 2 (.t 44) (.t 43)⟩]) (.skip))))
    (.reg none [
      ⟨(some 34), none, .mov (.t 7)⟩,
      ⟨(some 35), none, .bin .add (.t 34) (.c (.int .i64 1))⟩,
      ⟨(some 7), none, .mov (.t 35)⟩]))))))
 (.seq (.seq (.reg none [
     ⟨(some 8), none, .mov (.c (.int .i64 0))⟩])
  (.block 2 (.loop (.seq (.seq (.reg none [
        ⟨(some 45), none, .mov (.t 8)⟩,
        ⟨(some 46), none, .bin .lss (.t 45) (.c (.int .i64 25))⟩])
     (.cond (.t 46) (.skip) (.exit 2)))
    (.seq (.block 3 (.seq (.reg none [
         ⟨(some 9), none, .mov (.c (.int .i64 0))⟩])
      (.block 4 (.loop (.seq (.seq (.reg none [
            ⟨(some 49), none, .mov (.t 9)⟩,
            ⟨(some 50), none, .mov (.t 1)⟩,
            ⟨(some 51), none, .len (.t 50)⟩,
            ⟨(some 52), none, .bin .lss (.t 49) (.t 51)⟩])
         (.cond (.t 52) (.skip) (.exit 4)))
        (.seq (.block 5 (.seq (.reg none [
             ⟨(some 55), none, .mov (.t 1)⟩,
             ⟨(some 56), none, .mov (.t 9)⟩,
             ⟨(some 57), none, .iad 1 (.t 55) (.t 56)⟩,
             ⟨(some 58), none, .load false 1 (.t 57)⟩])
          (.cond (.t 58) (.reg (some 6) [
             ⟨(some 59), none, .fad 0 (.t 6)⟩,
             ⟨(some 60), none, .load false 1 (.t 59)⟩,
             ⟨(some 61), none, .mov (.t 9)⟩,
             ⟨(some 62), none, .load true 2 (.t 6)⟩,
             ⟨(some 63), none, .mov (.t 9)⟩,
             ⟨(some 64), none, .call .q (.f 53) [(.t 62), (.t 63)]⟩,
             ⟨(some 65), none, .iad 2 (.t 60) (.t 61)⟩,
             ⟨none, none, .store 2 (.t 65) (.t 64)⟩]) (.skip))))
        (.reg none [
          ⟨(some 53), none, .mov (.t 9)⟩,
          ⟨(some 54), none, .bin .add (.t 53) (.c (.int .i64 1))⟩,
          ⟨(some 9), none, .mov (.t 54)⟩])))))))
    (.reg none [
      ⟨(some 47), none, .mov (.t 8)⟩,
      ⟨(some 48), none, .bin .add (.t 47) (.c (.int .i64 1))⟩,
      ⟨(some 8), none, .mov (.t 48)⟩]))))))
 (.seq (.seq (.reg none [
     ⟨(some 66), none, .load true 2 (.t 6)⟩,
     ⟨(some 67), none, .call .q (.f 22) [(.t 66)]⟩,
     ⟨(some 68), none, .un .not (.t 67)⟩])
  (.cond (.t 68) (.seq (.reg none [
      ⟨(some 69), none, .build [(.slice none 0 0), (.slice none 0 0)] []⟩,
      ⟨none, none, .store 2 (.t 4) (.t 69)⟩,
      ⟨(some 5), none, .mov (.c (.bool false))⟩])
   (.ret)) (.skip)))
 (.seq (.reg none [
    ⟨(some 70), none, .load true 2 (.t 6)⟩,
    ⟨none, none, .store 2 (.t 4) (.t 70)⟩,
    ⟨(some 5), none, .mov (.c (.bool true))⟩])
 (.ret)))))))⟩
theorem infL_def (n : Nat) (l : List (TStep n)) (free : List Bool) (init : List (Int × Int)) : infL n l free init = Nat.repeat (rnd n l (freeF free)) 25 init := rfl
attribute [local irreducible] infL
theorem lab_put {H : Heap} {b : Nat} {cur : List (Int × Int)} (h : H[b]? = some ⟨cur.flatMap fp, 2, 35, true, true⟩) {i : Nat} (hi : i < cur.length) : getCells H b (i * 2) 2 = some [.int .i64 (cur.getD i (0, 0)).1, .int .i64 (cur.getD i (0, 0)).2] := by
  have h1 : LabV 0 H (sli b 0 cur.length) cur := .inr ⟨b, Nat.zero_le _, rfl, fun hn => by rw [hn] at hi; simp at hi, h⟩
  obtain ⟨b', h2, h3⟩ := h1.getP hi
  simp only [sli, Value.slice.injEq, and_true, Option.some.injEq, Addr.mk.injEq] at h2
  subst h2
  exact h3
theorem sInferOf_ok {F : Nat → Option IFn} {f : Nat} (hf : F f = some c_sInferOf) (gp : ProgOk F 19) (gc : ∀ n, CopyE F 51 n) (ge : ∀ H, QC F 52 [] H (.agg #[.int .i64 7, .int .i64 7])) (gn : NeedOk F 53) (gty : TypeP F 22) : InferOk F f := by
  intro H n lv sv w ls l free r1 r2 hsm r3
  suffices h : ∃ v H', KC F f [.agg #[lv, sv], w] H v H' ∧ (∃ lv' sv', v = .tuple #[.agg #[lv', sv'], .bool (inferV n (ls, l) free).isSome] ∧ AgX [] H H' ∧ SlR Co.p2 (vw 0 H') lv' (inferO n (ls, l) free).1 ∧ SlR (Co.step n) (vw 0 H') sv' (inferO n (ls, l) free).2) by
    obtain ⟨_, H', h1, lv', sv', rfl, h2⟩ := h
    exact ⟨lv', sv', H', h1, h2⟩
  have osv : one sv = true := by obtain ⟨_, a, rfl, _⟩ := r2; rfl
  obtain ⟨_, la, rfl, _⟩ := id r1
  obtain ⟨hwl, wa, rfl, _⟩ := id r3
  refine KC.mk hf rfl ?_
  refine seq_reg ?_
  simp only [go_sem, binC, osv]
  refine wpc_gen fun H1 hH1 => ?_
  have hx1 : AgX [] H H1 := hH1 ▸ AgX.app [] _ _
  have hb2 : H1[H.length]? = some ⟨[.slice la ls.length ls.length, sv], 0, 0, false, true⟩ := hH1 ▸ get_new0 _ _
  have hb4 : H1[H.length + 1]? = some ⟨[nilS, nilS], 0, 0, false, true⟩ := hH1 ▸ get_new _ _ 1
  have hln1 : H1.length = H.length + 2 := by rw [hH1]; simp
  clear hH1
  have r1' := r1.mono (agx_sub hx1)
  have r2' := r2.mono (agx_sub hx1)
  have r3' := r3.mono (agx_sub hx1)
  have hb4l := (List.getElem?_eq_some_iff.1 hb4).1
  refine seq_assoc (seq_reg ?_)
  simp only [go_sem, binC, gc_of hb2, inBlk_some, osv]
  refine op_callB (by simp only [go_sem, binC]; exact gp H1 n _ (ls, l) (prog_rd r1' r2') hsm) (fun hP => ?_) (fun hP => ?_)
  rotate_left
  · have hN : inferV n (ls, l) free = none := by unfold inferV; rw [if_neg (fun h => by rw [hP] at h; cases h.1)]
    simp only [go_sem, binC]
    refine seq_cond (t := true) rfl ?_
    simp only [go_sem, binC]
    refine seq_assoc (seq_reg ?_)
    simp only [go_sem, binC, hb4]
    refine seq_ret ⟨Or.inr rfl, .tuple #[.agg #[nilS, nilS], .bool false], ?_, nilS, nilS, by rw [hN]; rfl, hx1.setN (by omega) _, ?_, ?_⟩
    · simp [resV, resL, res1, putE_get, notT, ptr, gc_set hb4l, inBlk_some, valOf]
    all_goals (unfold inferO; rw [hN]; exact ⟨by simp, none, rfl, .inl rfl⟩)
  simp only [go_sem, binC, gc_of hb2, inBlk_some]
  by_cases hfl : free.length = ls.length
  case neg =>
    have hN : inferV n (ls, l) free = none := by unfold inferV; rw [if_neg (fun h => hfl h.2.1)]
    simp only [go_sem, binC, bne_t (show ¬ ((free.length : Int) = ls.length) by omega)]
    refine seq_cond (t := true) rfl ?_
    simp only [go_sem, binC]
    refine seq_assoc (seq_reg ?_)
    simp only [go_sem, binC, hb4]
    refine seq_ret ⟨Or.inr rfl, .tuple #[.agg #[nilS, nilS], .bool false], ?_, nilS, nilS, by rw [hN]; rfl, hx1.setN (by omega) _, ?_, ?_⟩
    · simp [resV, resL, res1, putE_get, notT, ptr, gc_set hb4l, inBlk_some, valOf]
    all_goals (unfold inferO; rw [hN]; exact ⟨by simp, none, rfl, .inl rfl⟩)
  have hls4 : ls.length ≤ 4 := progB_le4 hP
  have hlab : ls.all labB = true := progB_lab hP
  have hstl := startL_lab (free := free) hlab
  simp only [go_sem, binC, bne_f (show ((free.length : Int) = ls.length) by omega)]
  refine seq_cond (t := false) rfl ?_
  simp only [go_sem, binC]
  refine seq_skip (seq_regD ?_)
  simp only [go_sem, binC, gc_of hb2, inBlk_some, osv]
  generalize hHa : H1 ++ [(⟨[], 2, 35, true, true⟩ : Blk)] = Ha
  have hxa : AgX [] H1 Ha := hHa ▸ AgX.app [] _ _
  have hba : Ha[H1.length]? = some ⟨[], 2, 35, true, true⟩ := hHa ▸ get_new0 _ _
  have hla : Ha.length = H1.length + 1 := by rw [← hHa, List.length_append]; rfl
  clear hHa
  have hb2a := hxa.get hb2 (by simp)
  have happ : ∀ (e : Env) (K : Value → Heap → Prop), e 22 = sli H1.length 0 0 → e 24 = .slice la ls.length ls.length → (∀ b' L, H1.length ≤ b' → (Ha ++ L)[b']? = some ⟨ls.flatMap fp, 2, 35, true, true⟩ → K (sli b' 0 ls.length) (Ha ++ L)) → wpOp F (H1.length + 1) (.app 2 35 16 false (.t 22) (.t 24)) e Ha K := by
    intro e K e22 e24 k
    by_cases hl0 : ls = []
    · subst hl0
      refine op_app_zero _ _ _ _ _ (by (simp only [go_sem, binC, e22]) <;> rfl) (by (simp only [go_sem, binC, e24]) <;> rfl) ?_
      have := k H1.length [] (Nat.le_refl _)
      rw [List.append_nil] at this
      exact this hba
    · obtain ⟨b, o, hbo, hg⟩ := sl_p2s (r1'.mono (agx_sub hxa)) hl0
      have hne : ls.length ≠ 0 := fun h => hl0 (List.eq_nil_of_length_eq_zero h)
      exact op_app_lit (by (simp only [go_sem, binC, e22]) <;> rfl) (by simp only [go_sem, binC, e24]; exact hbo) hne hg hba (by omega) (by omega) (by omega) (k _ _ (by omega) (get_new0 _ _))
  simp only [go_sem, binC, gc_of hb2a, inBlk_some, osv]
  refine happ _ _ (by simp only [go_sem, binC]) (by simp only [go_sem, binC]) fun bl L hbl0 hbl => ?_
  generalize hHb : Ha ++ L = Hb at *
  have hxb : AgX [] Ha Hb := hHb ▸ AgX.app [] _ _
  clear hHb happ
  have hb2b := hxb.get hb2a (by simp)
  have hx1b := hxa.tr hxb
  simp only [go_sem, binC, gc_of hb2b, inBlk_some]
  obtain ⟨bs, sos, H2, k2, hx2, o2⟩ := gc n Hb sv l (r2'.mono (agx_sub hx1b)) hsm.2
  refine op_callK (by simp only [go_sem, binC]; exact k2) ?_
  have hx12 := hx1b.tr hx2
  have hx12l := hx12.1
  simp only [go_sem, binC]
  refine ⟨by omega, ?_⟩
  refine wpc_genH fun H3 hH3 => ?_
  have hx3 : AgX [] H2 H3 := hH3 ▸ AgX.app [] _ _
  have hb6 : H3[H2.length]? = some ⟨[sli bl 0 ls.length, sli bs 0 l.length], 0, 0, false, true⟩ := hH3 ▸ get_new0 _ _
  clear hH3 k2
  have hx13 := hx12.tr hx3
  have hb43 := hx13.get hb4 (by simp)
  have hbl3 := (hx2.tr hx3).get hbl (by simp)
  have hbll := (List.getElem?_eq_some_iff.1 hbl).1
  have hx2l := hx2.1
  have hx3l := hx3.1
  have hsv : SlR (Co.step n) (vwl Hb.length [] H3) (sli bs 0 l.length) l := (o2.slR (step_w n) (by simp)).mono (vwl_sub hx3 (Nat.le_refl _) fun _ _ _ _ => ⟨by simp, by simp⟩)
  have hV : ∀ Hc, AgX [bl] H3 Hc → SlR (Co.step n) (vw 0 Hc) (sli bs 0 l.length) l := fun Hc hx => hsv.mono ((vwl_sub hx (lo' := Hb.length) (xs' := []) (Nat.le_refl _) fun b' h1 h2 h3 => ⟨by simp; omega, by simp⟩).trans (vwl0 _ _ _))
  have hx0 : ∀ Hc, AgX [bl] H3 Hc → AgX [] H Hc := fun Hc hx => (hx1.tr hx13).trans hx (fun _ h _ => h) (fun b hb hlt => by simp only [List.mem_singleton] at hb; omega)
  have hr3 : ∀ Hc, AgX [bl] H3 Hc → SlR Co.bool (vw 0 Hc) (.slice wa free.length free.length) free := fun Hc hx => r3.mono (agx_sub (hx0 Hc hx))
  have hLsl : ∀ (Hc : Heap) (cur : List (Int × Int)), cur.length = ls.length → cur.all labB = true → Hc[bl]? = some ⟨cur.flatMap fp, 2, 35, true, true⟩ → SlR Co.p2 (vw 0 Hc) (sli bl 0 ls.length) cur := fun Hc cur hl ha hb => by
    have := blk_slP hb (lab_rg ha) (by omega)
    rwa [hl] at this
  refine seq_assoc (seq_reg ?_)
  simp only [go_sem, binC]
  refine seq_block (wpc_loop ?_)
  suffices h1 : ∀ (k i : Nat) (e : Env) (Hc : Heap) (cur : List (Int × Int)), i + k = free.length → cur = startL ls (free.take i) → AgX [bl] H3 Hc → Hc[bl]? = some ⟨cur.flatMap fp, 2, 35, true, true⟩ → e 1 = .slice wa free.length free.length → e 4 = ptr (H.length + 1) 0 → e 6 = ptr H2.length 0 → e 7 = .int .i64 i → Go.Proofs.YtkmghcglmjehcaaI.W F H.length _ e Hc _ from
    h1 free.length 0 _ H3 ls (by omega) (by rw [List.take_zero, startL_none]) (AgX.refl _ _) hbl3 (by simp only [go_sem, binC]) (by simp only [go_sem, binC]) (by simp only [go_sem, binC]) (by (simp only [go_sem, binC]) <;> rfl)
  intro k
  induction k with
  | zero =>
    intro i e Hc cur hi hcur hxc hLc e1 e4 e6 e7
    rw [List.take_of_length_le (by omega)] at hcur
    refine lp_step ?_
    refine seq_assoc (seq_reg ?_)
    simp only [go_sem, binC, e1, e7]
    refine seq_cond (t := false) (by simp only [go_sem, binC]; rw [decide_eq_false (by omega)]) ?_
    simp only [go_sem, binC]
    refine seq_exit ?_
    simp only [go_sem, binC, thenX_e, out_e, thenX_n]
    refine seq_assoc (seq_reg ?_)
    simp only [go_sem, binC]
    refine seq_block (wpc_loop ?_)
    suffices h2 : ∀ (k i : Nat) (e : Env) (Hd : Heap) (cur : List (Int × Int)), i + k = 25 → cur = Nat.repeat (rnd n l (freeF free)) i (startL ls free) → AgX [bl] H3 Hd → Hd[bl]? = some ⟨cur.flatMap fp, 2, 35, true, true⟩ → e 1 = .slice wa free.length free.length → e 4 = ptr (H.length + 1) 0 → e 6 = ptr H2.length 0 → e 8 = .int .i64 i → Go.Proofs.YtkmghcglmjehcaaI.W F H.length _ e Hd _ from
      h2 25 0 _ Hc cur rfl (by rw [hcur]; rfl) hxc hLc (by simp only [go_sem, binC, e1]) (by simp only [go_sem, binC, e4]) (by simp only [go_sem, binC, e6]) (by (simp only [go_sem, binC]) <;> rfl)
    clear hcur hxc hLc e1 e4 e6 e7
    intro k
    induction k with
    | zero =>
      intro i e Hd cur hi hck hxd hLd e1 e4 e6 e8
      obtain rfl : i = 25 := by omega
      have hle : LeL cur (startL ls free) := hck ▸ (rnds_ind hstl 25).1
      have hcl : cur.length = ls.length := by rw [hle.1, startL_len]
      have hinf : cur = infL n l free (startL ls free) := by rw [hck, infL_def]
      have hb6d := hxd.get hb6 (by simp; omega)
      have hb4d := hxd.get hb43 (by simp; omega)
      have hb4dl := (List.getElem?_eq_some_iff.1 hb4d).1
      refine lp_step ?_
      refine seq_assoc (seq_reg ?_)
      simp only [go_sem, binC, e8]
      refine seq_cond (t := false) (by simp only [go_sem, binC]; rfl) ?_
      simp only [go_sem, binC]
      refine seq_exit ?_
      simp only [go_sem, binC, thenX_e, out_e, thenX_n]
      refine seq_assoc (seq_reg ?_)
      simp only [go_sem, binC, e6, gc_of hb6d, inBlk_some]
      refine op_callB (by simp only [go_sem, binC]; exact gty Hd n _ _ cur l (hLsl Hd cur hcl hle.lab hLd) (hV Hd hxd) (sm_ls hsm hcl)) (fun hT => ?_) (fun hT => ?_)
      · have hN : inferV n (ls, l) free = some cur := by
          unfold inferV
          simp only
          rw [← hinf, if_pos ⟨hP, hfl, hT⟩]
        simp only [go_sem, binC]
        refine seq_cond (t := false) rfl ?_
        simp only [go_sem, binC]
        refine seq_skip (seq_reg ?_)
        simp only [go_sem, binC, e4, e6, gc_of hb6d, inBlk_some, hb4d]
        have hxs2 : AgX [H.length + 1] Hd (Hd.set (H.length + 1) ⟨[sli bl 0 ls.length, sli bs 0 l.length], 0, 0, false, true⟩) := AgX.set _ _ _
        refine wpc_ret ⟨Or.inr rfl, .tuple #[.agg #[sli bl 0 ls.length, sli bs 0 l.length], .bool true], ?_, _, _, by rw [hN]; rfl, (hx0 Hd hxd).setN (by omega) _, ?_, ?_⟩
        · simp [resV, resL, res1, putE_get, notT, ptr, gc_set hb4dl, inBlk_some, valOf, e4, sli]
        · unfold inferO
          rw [hN]
          exact hLsl _ cur hcl hle.lab (hxs2.get hLd (by simp; omega))
        · unfold inferO
          rw [hN]
          exact hsv.mono ((vwl_sub (hxd.trans hxs2 (zs := [bl, H.length + 1]) (fun b hb _ => by simp only [List.mem_singleton] at hb; simp [hb]) (fun b hb _ => by simp only [List.mem_singleton] at hb; simp [hb])) (lo := Hb.length) (xs := []) (lo' := Hb.length) (xs' := []) (Nat.le_refl _) fun b' h1 h2 h3 => ⟨by simp; omega, by simp⟩).trans (vwl0 _ _ _))
      · have hN : inferV n (ls, l) free = none := by
          unfold inferV
          simp only
          rw [← hinf, if_neg (fun h => by rw [hT] at h; cases h.2.2)]
        simp only [go_sem, binC]
        refine seq_cond (t := true) rfl ?_
        simp only [go_sem, binC]
        refine seq_assoc (seq_reg ?_)
        simp only [go_sem, binC, e4, hb4d]
        refine seq_ret ⟨Or.inr rfl, .tuple #[.agg #[nilS, nilS], .bool false], ?_, nilS, nilS, by rw [hN]; rfl, (hx0 Hd hxd).setN (by omega) _, ?_, ?_⟩
        · simp [resV, resL, res1, putE_get, notT, ptr, gc_set hb4dl, inBlk_some, valOf, e4]
        all_goals (unfold inferO; rw [hN]; exact ⟨by simp, none, rfl, .inl rfl⟩)
    | succ k ih =>
      intro i e Hd cur hi hck hxd hLd e1 e4 e6 e8
      have hw2 : IntKind.i64.wrap ((i : Int) + 1) = ((i + 1 : Nat) : Int) := by rw [wrap_id (by omega) (by omega)]; omega
      have hle : LeL cur (startL ls free) := hck ▸ (rnds_ind hstl i).1
      have hcl : cur.length = ls.length := by rw [hle.1, startL_len]
      refine lp_step ?_
      refine seq_assoc (seq_reg ?_)
      simp only [go_sem, binC, e8]
      refine seq_cond (t := true) (by simp only [go_sem, binC]; rw [decide_eq_true (by omega)]) ?_
      simp only [go_sem, binC]
      refine seq_skip (seq_block (seq_reg ?_))
      simp only [go_sem, binC]
      refine wpc_block (wpc_loop ?_)
      suffices h3 : ∀ (q v : Nat) (e : Env) (Hf : Heap) (now : List (Int × Int)), v + q = free.length → now = (List.range v).foldl (roundS n l (freeF free)) cur → AgX [bl] H3 Hf → Hf[bl]? = some ⟨now.flatMap fp, 2, 35, true, true⟩ → e 1 = .slice wa free.length free.length → e 4 = ptr (H.length + 1) 0 → e 6 = ptr H2.length 0 → e 8 = .int .i64 i → e 9 = .int .i64 v → Go.Proofs.YtkmghcglmjehcaaI.W F H.length _ e Hf _ from
        h3 free.length 0 _ Hd cur (by omega) rfl hxd hLd (by simp only [go_sem, binC, e1]) (by simp only [go_sem, binC, e4]) (by simp only [go_sem, binC, e6]) (by simp only [go_sem, binC, e8]) (by (simp only [go_sem, binC]) <;> rfl)
      clear e1 e4 e6 e8 hxd hLd
      intro q
      induction q with
      | zero =>
        intro v e Hf now hv hnow hxf hLf e1 e4 e6 e8 e9
        refine lp_step ?_
        refine seq_assoc (seq_reg ?_)
        simp only [go_sem, binC, e1, e9]
        refine seq_cond (t := false) (by simp only [go_sem, binC]; rw [decide_eq_false (by omega)]) ?_
        simp only [go_sem, binC]
        refine seq_exit ?_
        simp only [go_sem, binC, thenX_e, out_e, out_n, thenX_n]
        refine wpc_reg ?_
        simp only [go_sem, binC, e8, hw2]
        simp only [go_sem, binC, thenX_n]
        refine ih (i + 1) _ Hf now (by omega) ?_ hxf hLf (by simp only [go_sem, binC, e1]) (by simp only [go_sem, binC, e4]) (by simp only [go_sem, binC, e6]) (by simp only [go_sem, binC])
        rw [hnow, show v = cur.length by omega, hck]
        rfl
      | succ q ihq =>
        intro v e Hf now hv hnow hxf hLf e1 e4 e6 e8 e9
        have hvf : v < free.length := by omega
        have hw1 : IntKind.i64.wrap ((v : Int) + 1) = ((v + 1 : Nat) : Int) := by rw [wrap_id (by omega) (by omega)]; omega
        have hri := rounds_ind (n := n) (l := l) (free := freeF free) (List.range v) cur hle.lab (fun x hx => by have := List.mem_range.1 hx; omega)
        rw [← hnow] at hri
        have hnlab := hri.1.lab
        have hnl : now.length = ls.length := by rw [hri.1.1, hcl]
        have hnext : (List.range (v + 1)).foldl (roundS n l (freeF free)) cur = roundS n l (freeF free) now v := by
          rw [List.range_succ, List.foldl_append, ← hnow]
          rfl
        have hb6f := hxf.get hb6 (by simp; omega)
        obtain ⟨fb, fo, hfw, hgf⟩ := gcB (hr3 Hf hxf) hvf
        simp only [Value.slice.injEq, and_true] at hfw
        subst hfw
        have hblf := (List.getElem?_eq_some_iff.1 hLf).1
        refine lp_step ?_
        refine seq_assoc (seq_reg ?_)
        simp only [go_sem, binC, e1, e9]
        refine seq_cond (t := true) (by simp only [go_sem, binC]; rw [decide_eq_true (by omega)]) ?_
        simp only [go_sem, binC]
        refine seq_skip (seq_block (seq_reg ?_))
        simp only [go_sem, binC, e1, e9]
        refine ⟨⟨by omega, by omega⟩, ?_⟩
        simp only [go_sem, binC, Int.toNat_natCast, Nat.mul_one, hgf]
        by_cases hfr : free[v] = true
        · rw [show roundS n l (freeF free) now v = now.set v (needV n now l v) from if_pos (by unfold freeF; simpa [List.getD, hvf] using hfr)] at hnext
          refine wpc_cond (t := true) (by simp only [go_sem, binC, hfr]) ?_
          simp only [go_sem, binC]
          refine wpc_regD ?_
          simp only [go_sem, binC, e6, e9, gc_of hb6f, inBlk_some]
          refine op_callQ (by simp only [go_sem, binC]; exact gn Hf n _ _ now l v (hLsl Hf now hnl hnlab hLf) (hV Hf hxf) (sm_ls hsm hnl) (progB_ls hP hnl hnlab) (by omega)) ?_
          generalize needV n now l v = nd at hnext
          obtain ⟨n1, n2⟩ := nd
          simp only [go_sem, binC, sli]
          refine ⟨⟨by omega, by omega⟩, ?_⟩
          have hfl8 := flat_len (fl := fp) (w := 2) (fun _ => rfl) now
          simp only [go_sem, binC, Int.toNat_natCast, Nat.zero_add, hLf]
          refine ⟨⟨by omega, by omega⟩, ?_⟩
          rw [show ((now.flatMap fp).set (v * 2) (.int .i64 n1)).set (v * 2 + 1) (.int .i64 n2) = (now.set v (n1, n2)).flatMap fp from flat_set _ _ (n1, n2) (by omega)]
          simp only [go_sem, binC, out_n, thenX_n]
          refine wpc_reg ?_
          simp only [go_sem, binC, e9, hw1]
          simp only [go_sem, binC, thenX_n]
          exact ihq (v + 1) _ _ (now.set v (n1, n2)) (by omega) hnext.symm (hxf.trans (AgX.set Hf bl _) (fun _ h _ => h) (fun _ h _ => h)) (List.getElem?_set_self hblf) (by simp only [go_sem, binC, e1]) (by simp only [go_sem, binC, e4]) (by simp only [go_sem, binC, e6]) (by simp only [go_sem, binC, e8]) (by simp only [go_sem, binC])
        · have hfr' : free[v] = false := by simpa using hfr
          rw [show roundS n l (freeF free) now v = now from if_neg (by unfold freeF; simp [List.getD, hvf, hfr'])] at hnext
          refine wpc_cond (t := false) (by simp only [go_sem, binC, hfr']) ?_
          simp only [go_sem, binC]
          refine wpc_skip ?_
          simp only [go_sem, binC, out_n, thenX_n]
          refine wpc_reg ?_
          simp only [go_sem, binC, e9, hw1]
          simp only [go_sem, binC, thenX_n]
          exact ihq (v + 1) _ Hf now (by omega) hnext.symm hxf hLf (by simp only [go_sem, binC, e1]) (by simp only [go_sem, binC, e4]) (by simp only [go_sem, binC, e6]) (by simp only [go_sem, binC, e8]) (by simp only [go_sem, binC])
  | succ k ih =>
    intro i e Hc cur hi hcur hxc hLc e1 e4 e6 e7
    have hif : i < free.length := by omega
    have hw1 : IntKind.i64.wrap ((i : Int) + 1) = ((i + 1 : Nat) : Int) := by rw [wrap_id (by omega) (by omega)]; omega
    have hcl : cur.length = ls.length := by rw [hcur, startL_len]
    have hb6c := hxc.get hb6 (by simp; omega)
    obtain ⟨fb, fo, hfw, hgf⟩ := gcB (hr3 Hc hxc) hif
    simp only [Value.slice.injEq, and_true] at hfw
    subst hfw
    have hblc := (List.getElem?_eq_some_iff.1 hLc).1
    have hstep := startL_step (ls := ls) hif hfl
    rw [← hcur] at hstep
    refine lp_step ?_
    refine seq_assoc (seq_reg ?_)
    simp only [go_sem, binC, e1, e7]
    refine seq_cond (t := true) (by simp only [go_sem, binC]; rw [decide_eq_true (by omega)]) ?_
    simp only [go_sem, binC]
    refine seq_skip (seq_block (seq_reg ?_))
    simp only [go_sem, binC, e1, e7]
    refine ⟨⟨by omega, by omega⟩, ?_⟩
    simp only [go_sem, binC, Int.toNat_natCast, Nat.mul_one, hgf]
    by_cases hfr : free[i] = true
    · rw [show free.getD i false = true by simpa [List.getD, hif] using hfr, if_pos rfl] at hstep
      refine wpc_cond (t := true) (by simp only [go_sem, binC, hfr]) ?_
      simp only [go_sem, binC]
      refine wpc_regD ?_
      simp only [go_sem, binC, e6, e7, gc_of hb6c, inBlk_some]
      refine op_callQ (by simp only [go_sem, binC]; exact ge Hc) ?_
      simp only [go_sem, binC, sli]
      refine ⟨⟨by omega, by omega⟩, ?_⟩
      have hfl8 := flat_len (fl := fp) (w := 2) (fun _ => rfl) cur
      simp only [go_sem, binC, Int.toNat_natCast, Nat.zero_add, hLc]
      refine ⟨⟨by omega, by omega⟩, ?_⟩
      rw [show ((cur.flatMap fp).set (i * 2) (.int .i64 7)).set (i * 2 + 1) (.int .i64 7) = (cur.set i (7, 7)).flatMap fp from flat_set _ _ (7, 7) (by omega)]
      simp only [go_sem, binC, out_n, thenX_n]
      refine wpc_reg ?_
      simp only [go_sem, binC, e7, hw1]
      simp only [go_sem, binC, thenX_n]
      exact ih (i + 1) _ _ (cur.set i (7, 7)) (by omega) hstep.symm (hxc.trans (AgX.set Hc bl _) (fun _ h _ => h) (fun _ h _ => h)) (List.getElem?_set_self hblc) (by simp only [go_sem, binC, e1]) (by simp only [go_sem, binC, e4]) (by simp only [go_sem, binC, e6]) (by simp only [go_sem, binC])
    · have hfr' : free[i] = false := by simpa using hfr
      rw [if_neg (show ¬ free.getD i false = true by simp [List.getD, hif, hfr'])] at hstep
      refine wpc_cond (t := false) (by simp only [go_sem, binC, hfr']) ?_
      simp only [go_sem, binC]
      refine wpc_skip ?_
      simp only [go_sem, binC, out_n, thenX_n]
      refine wpc_reg ?_
      simp only [go_sem, binC, e7, hw1]
      simp only [go_sem, binC, thenX_n]
      exact ih (i + 1) _ Hc cur (by omega) hstep.symm hxc hLc (by simp only [go_sem, binC, e1]) (by simp only [go_sem, binC, e4]) (by simp only [go_sem, binC, e6]) (by simp only [go_sem, binC])
end Go.Proofs.YtkmghcglmjehcaaI
end
section
/- A program and which labels are free, drawn. -/
set_option linter.unusedVariables false
set_option linter.unusedSimpArgs false
namespace Go.Proofs.YtkmghcglmjehcaaI
open Go Go.RowKit
def c_drInfer : IFn := ⟨1, 32, [.cell true 2 2, .t 3],
 .seq (.reg none [
    ⟨(some 2), none, .new [(.slice none 0 0), (.slice none 0 0)]⟩,
    ⟨(some 3), none, .mov (.c (.slice none 0 0))⟩])
 (.seq (.reg none [
    ⟨(some 8), none, .mov (.t 0)⟩,
    ⟨(some 9), none, .call .n (.f 48) [(.t 8)]⟩,
    ⟨(some 4), none, .mov (.t 9)⟩])
 (.seq (.reg none [
    ⟨(some 10), none, .mov (.t 4)⟩,
    ⟨(some 11), none, .call .n (.f 49) [(.t 10)]⟩,
    ⟨(some 5), none, .new [(.slice none 0 0), (.slice none 0 0)]⟩,
    ⟨none, none, .store 2 (.t 5) (.t 11)⟩])
 (.seq (.reg none [
    ⟨(some 12), none, .lit 1 4 0 [] []⟩,
    ⟨(some 6), none, .mov (.t 12)⟩])
 (.seq (.seq (.reg none [
     ⟨(some 7), none, .mov (.c (.int .i64 0))⟩])
  (.block 0 (.loop (.seq (.seq (.reg (some 8) [
        ⟨(some 13), none, .mov (.t 7)⟩,
        ⟨(some 14), none, .fad 0 (.t 5)⟩,
        ⟨(some 15), none, .load false 1 (.t 14)⟩,
        ⟨(some 16), none, .len (.t 15)⟩,
        ⟨(some 17), none, .mov (.t 4)⟩,
        ⟨(some 18), none, .call .n (.f 50) [(.t 17), (.c (.int .i64 16))]⟩,
        ⟨(some 19), none, .bin .quo (.t 18) (.c (.int .i64 15))⟩,
        ⟨(some 20), none, .bin .add (.t 16) (.t 19)⟩,
        ⟨(some 21), none, .bin .lss (.t 13) (.t 20)⟩])
     (.cond (.t 21) (.skip) (.exit 0)))
    (.seq (.block 1 (.reg none [
        ⟨(some 24), none, .mov (.t 6)⟩,
        ⟨(some 25), none, .mov (.t 4)⟩,
        ⟨(some 26), none, .call .n (.f 50) [(.t 25), (.c (.int .i64 3))]⟩,
        ⟨(some 27), none, .bin .gtr (.t 26) (.c (.int .i64 0))⟩,
        ⟨(some 28), none, .lit 1 4 1 [(.bool false)] [(0, 1, (.t 27))]⟩,
        ⟨(some 29), none, .app 1 4 1 false (.t 24) (.t 28)⟩,
        ⟨(some 6), none, .mov (.t 29)⟩]))
    (.reg none [
      ⟨(some 22), none, .mov (.t 7)⟩,
      ⟨(some 23), none, .bin .add (.t 22) (.c (.int .i64 1))⟩,
      ⟨(some 7), none, .mov (.t 23)⟩]))))))
 (.seq (.reg none [
    ⟨(some 30), none, .load true 2 (.t 5)⟩,
    ⟨(some 31), none, .mov (.t 6)⟩,
    ⟨none, none, .store 2 (.t 2) (.t 30)⟩,
    ⟨(some 3), none, .mov (.t 31)⟩])
 (.ret))))))⟩
theorem quo_eqU {k : IntKind} {x y : Int} (h : y ≠ 0) : binI .quo k x y = some (.int k (k.wrap (x.tdiv y))) := if_neg h
def DrawInfer (F : Nat → Option IFn) (f : Nat) : Prop := ∀ (H : Heap) (v : Value) (code : List Int), SlR Co.byte (vw 0 H) v code → ∃ (d : Nat) (lv sv fv : Value) (ls : List (Int × Int)) (l : List (TStep d)) (free : List Bool) (H' : Heap), KC F f [v] H (.tuple #[.agg #[lv, sv], fv]) H' ∧ AgX [] H H' ∧ SlR Co.p2 (vw 0 H') lv ls ∧ SlR (Co.step d) (vw 0 H') sv l ∧ (Co.prog d).sm (ls, l) ∧ SlR Co.bool (vw 0 H') fv free ∧ free.length ≤ 2000
theorem drInfer_ok {F : Nat → Option IFn} {f : Nat} (hf : F f = some c_drInfer) (hop : F 48 = some c_l6Open) (hpk : F 50 = some c_pick) (gan : ∀ {H0 : Heap} {rb : Nat} {bv : Value} {code : List Int}, RdC H0 rb bv code → DrawS F H0 rb bv 49 [] 90000 ProgR) : DrawInfer F f := by
  intro H v code hv
  suffices h : ∃ w H', KC F f [v] H w H' ∧ (∃ (d : Nat) (lv sv fv : Value) (ls : List (Int × Int)) (l : List (TStep d)) (free : List Bool), w = .tuple #[.agg #[lv, sv], fv] ∧ (AgX [] H H' ∧ SlR Co.p2 (vw 0 H') lv ls ∧ SlR (Co.step d) (vw 0 H') sv l ∧ (Co.prog d).sm (ls, l) ∧ SlR Co.bool (vw 0 H') fv free ∧ free.length ≤ 2000)) by
    obtain ⟨w, H', h1, d, lv, sv, fv, ls, l, free, rfl, h2⟩ := h
    exact ⟨d, lv, sv, fv, ls, l, free, H', h1, h2⟩
  refine KC.mk hf rfl ?_
  refine seq_reg ?_
  simp only [go_sem, binC]
  refine wpc_gen fun H1 hH1 => ?_
  have ht1 : AgX [] H H1 := hH1 ▸ AgX.app [] _ _
  have hb1 : H1[H.length]? = some ⟨[nilS, nilS], 0, 0, false, true⟩ := hH1 ▸ get_new0 _ _
  have hn1 : H1.length = H.length + 1 := by rw [hH1, List.length_append]; rfl
  clear hH1
  refine seq_reg ?_
  simp only [go_sem, binC]
  obtain ⟨bv, code', k2, hc, hs2⟩ := l6Open_ok hop (hv.mono (agx_sub ht1)) H.length ht1.1
  refine op_callN (by simp only [go_sem, binC]; exact k2) ?_
  simp only [go_sem, binC]
  refine wpc_gen fun H2 hH2 => ?_
  rw [← hH2] at hs2
  have ht12 : AgX [] H1 H2 := hH2 ▸ AgX.app [] _ _
  have ht2 : AgX [] H H2 := ht1.tr ht12
  have hb2 : H2[H.length]? = some ⟨[nilS, nilS], 0, 0, false, true⟩ := ht12.get hb1 (by simp)
  have hn2 : H2.length = H1.length + 1 := by rw [hH2, List.length_append]; rfl
  clear hH2
  refine seq_reg ?_
  simp only [go_sem, binC]
  obtain ⟨v3, H3, p3, k3, x3, s3, c3, d, lv, sv, ls, l, rfl, r1, r2, r3, r4, r5⟩ := gan hc H2 0 H.length hs2 (by omega) (by omega) (by omega)
  refine op_callN (by simp only [go_sem, binC]; exact k3) ?_
  have osv : one sv = true := by obtain ⟨_, a, rfl, _⟩ := r2; rfl
  obtain ⟨_, la, rfl, _⟩ := id r1
  have hl3 := x3.1
  simp only [go_sem, binC, osv]
  refine ⟨by omega, ?_⟩
  refine wpc_gen fun H4 hH4 => ?_
  have x4 : AgX [] H3 H4 := hH4 ▸ AgX.app [] _ _
  have s4 : St H1 H1.length bv p3 H4 := s3.mono hc x4 (fun _ h => by cases h)
  have hb5 : H4[H3.length]? = some ⟨[.slice la ls.length ls.length, sv], 0, 0, false, true⟩ := hH4 ▸ get_new0 _ _
  have hn4 : H4.length = H3.length + 1 := by rw [hH4, List.length_append]; rfl
  clear hH4
  have x24 : AgX [H1.length] H2 H4 := x3.trans x4 (fun _ h _ => h) (fun _ h _ => by cases h)
  refine seq_reg ?_
  simp only [go_sem, binC]
  refine wpc_gen fun H5 hH5 => ?_
  have x5 : AgX [] H4 H5 := hH5 ▸ AgX.app [] _ _
  have o5 : OwnL Co.bool 1 4 H4.length [] H5 H4.length true [] := hH5 ▸ OwnG.nil (Nat.le_refl _)
  have hn5 : H5.length = H4.length + 1 := by rw [hH5, List.length_append]; rfl
  clear hH5
  have s5 := s4.mono hc x5 (fun _ h => by cases h)
  refine seq_assoc (seq_reg ?_)
  simp only [go_sem, binC]
  refine seq_block (wpc_loop ?_)
  suffices hh : ∀ (k i : Nat) (e : Env) (Hc : Heap) (b : Nat) (so : Bool) (free : List Bool) (q : Int), i + k = ls.length + 1 → free.length = i → St H1 H1.length bv q Hc → (0 ≤ q ∧ q ≤ 90000 + 3 * (i : Int)) → AgX [H1.length] H4 Hc → OwnL Co.bool 1 4 H4.length [] Hc b so free → e 2 = ptr H.length 0 → e 4 = ptr H1.length 0 → e 5 = ptr H3.length 0 → e 6 = sli b 0 free.length → e 7 = .int .i64 i → Go.Proofs.YtkmghcglmjehcaaI.W F H.length _ e Hc _ from
    hh (ls.length + 1) 0 _ H5 H4.length true [] p3 (by omega) rfl s5 (by omega) (x5.trans (AgX.refl [H1.length] _) (fun _ h _ => by cases h) (fun _ h _ => h)) o5 (by simp only [go_sem, binC]) (by simp only [go_sem, binC]) (by simp only [go_sem, binC]) (by (simp only [go_sem, binC]) <;> rfl) (by (simp only [go_sem, binC]) <;> rfl)
  intro k
  induction k using Nat.strongRecOn with
  | _ k ih =>
  intro i e Hc b so free q hik hfl hsc hq hxc ho e2 e4 e5 e6 e7
  have hw1 : IntKind.i64.wrap ((i : Int) + 1) = ((i + 1 : Nat) : Int) := by rw [wrap_id (by omega) (by omega)]; omega
  have hxcl := hxc.1
  have hb5c := hxc.get hb5 (by simp; omega)
  have hhid : ∀ L, getCells (hide [H1.length] Hc ++ L) H3.length 0 1 = some [.slice la ls.length ls.length] := fun L => gc_hidO L (by rw [gc_of hb5c]; rfl) (by simp; omega)
  have hhid0 : getCells (hide [H1.length] Hc) H3.length 0 1 = some [.slice la ls.length ls.length] := by
    have := hhid []
    rwa [List.append_nil] at this
  have hlc := hsc.lt
  have hob : b < Hc.length := by obtain ⟨_, _, cs, h, _⟩ := ho; exact (List.getElem?_eq_some_iff.1 h).1
  have hob4 := ho.1
  refine lp_step ?_
  refine seq_assoc ?_
  refine seq_regX [H1.length] (by simp; omega) ?_
  refine wpx_A rfl ?_
  simp only [go_sem, binC, e7]
  refine wpx_A rfl ?_
  simp only [go_sem, binC, e5]
  refine wpx_A rfl ?_
  simp only [go_sem, binC, hhid0]
  refine wpx_A rfl ?_
  simp only [go_sem, binC]
  refine wpx_A rfl ?_
  simp only [go_sem, binC, e4]
  refine wpx_pick (n := 16) hpk hc hsc (by omega) (by omega) (by omega) (by simp only [go_sem, binC]) (by simp only [go_sem, binC]) fun B1 hl1 hx1 hs1 => ?_
  have hk1 := pickV_bd code' q (n := 16) (by omega)
  generalize pickV code' q 16 = pk at hk1
  have hqd : binI .quo .i64 pk 15 = some (.int .i64 (pk / 15)) := by rw [quo_eqU (by omega), Int.tdiv_eq_ediv_of_nonneg hk1.1, wrap_id (by omega) (by omega)]
  have hwa : IntKind.i64.wrap ((ls.length : Int) + pk / 15) = (ls.length : Int) + pk / 15 := wrap_id (by omega) (by omega)
  refine wpx_A rfl ?_
  simp only [go_sem, binC, hqd]
  refine wpx_A rfl ?_
  simp only [go_sem, binC, hwa]
  refine wpx_zero ?_
  simp only [go_sem, binC]
  have ho1 := ho.sub hx1 (xs' := []) (by simp; omega) (fun b' _ h5 _ _ => ⟨by simp; omega, by simp⟩)
  have hxc1 : AgX [H1.length] H4 B1 := hxc.tr hx1
  by_cases hlt : (i : Int) < ls.length + pk / 15
  case neg =>
    refine seq_cond (t := false) (by simp only [go_sem, binC]; rw [decide_eq_false hlt]) ?_
    simp only [go_sem, binC]
    refine seq_exit ?_
    simp only [go_sem, binC, thenX_e, out_e, thenX_n]
    have hb2b : B1[H.length]? = some ⟨[nilS, nilS], 0, 0, false, true⟩ := hxc1.get (x24.get hb2 (by simp; omega)) (by simp; omega)
    have hb5b := hx1.get hb5c (by simp; omega)
    have hb2l := (List.getElem?_eq_some_iff.1 hb2b).1
    refine seq_reg ?_
    simp only [go_sem, binC, e2, e5, e6, gc_of hb5b, inBlk_some, osv, hb2b]
    have hxs : AgX [H.length] B1 (B1.set H.length ⟨[.slice la ls.length ls.length, sv], 0, 0, false, true⟩) := AgX.set _ _ _
    have hv3 : Sub (vwl H2.length [] H3) (vw 0 (B1.set H.length ⟨[.slice la ls.length ls.length, sv], 0, 0, false, true⟩)) := ((vwl_sub ((x4.trans hxc1 (zs := [H1.length]) (fun _ h _ => by cases h) (fun _ h _ => h)).trans hxs (zs := [H1.length, H.length]) (fun b hb _ => by simp only [List.mem_singleton] at hb; simp [hb]) (fun b hb _ => by simp only [List.mem_singleton] at hb; simp [hb])) (lo := H2.length) (xs := []) (lo' := H2.length) (xs' := []) (Nat.le_refl _) fun b' h1 h2 h3 => ⟨by simp; omega, by simp⟩).trans (vwl0 _ _ _))
    refine wpc_ret ⟨Or.inr rfl, .tuple #[.agg #[.slice la ls.length ls.length, sv], sli b 0 free.length], ?_, ?_⟩
    · simp [resV, resL, res1, putE_get, notT, ptr, gc_set hb2l, inBlk_some, valOf, e2, e6, sli]
    · refine ⟨d, _, sv, _, ls, l, free, rfl, ?_, r1.mono hv3, r2.mono hv3, r3, ?_, by omega⟩
      · exact (ht2.trans (x24.tr hxc1) (fun _ h _ => h) (fun b h1 h2 => by simp only [List.mem_singleton] at h1; omega)).setN (Nat.le_refl _) _
      · have ho2 := ho1.sub hxs (xs' := []) (by simp; omega) (fun b' _ h5 _ _ => ⟨by simp; omega, by simp⟩)
        exact (ho2.slR rfl (by simp)).mono (vwl0 _ _ _)
  refine seq_cond (t := true) (by simp only [go_sem, binC]; rw [decide_eq_true hlt]) ?_
  simp only [go_sem, binC]
  refine seq_skip (seq_block (wpc_reg ?_))
  simp only [go_sem, binC, e4, e6]
  refine op_draw (n := 3) hpk hc hs1 (by omega) (by omega) (by omega) (by simp only [go_sem, binC]) (by simp only [go_sem, binC]) fun H6 hl6 hx6 hs6 => ?_
  simp only [go_sem, binC]
  have ho6 := ho1.sub hx6 (xs' := []) (by simp; omega) (fun b' _ h5 _ _ => ⟨by simp; omega, by simp⟩)
  refine op_app_own (a := decide (0 < pickV code' (q + 1) 3)) ho6 (by simp only [go_sem, binC, e6]) (by simp only [go_sem, binC]) (by omega) rfl (by first | rfl | exact ⟨rfl⟩) (by omega) (by omega) (fun b' hb => by cases hb) fun H7 hx7 ho7 => ?_
  simp only [go_sem, binC]
  simp only [go_sem, binC, out_n, thenX_n]
  refine wpc_reg ?_
  simp only [go_sem, binC, e7, hw1]
  simp only [go_sem, binC, thenX_n]
  have hob6 : b < H6.length := by rw [hl6, hl1]; exact hob
  exact ih (k - 1) (by omega) (i + 1) _ H7 _ _ _ (q + 1 + 1) (by omega) (by rw [List.length_append]; simp; omega) (hs6.mono hc hx7 (fun b' hb => by simp only [List.mem_singleton] at hb; omega)) (by omega) ((hxc1.tr hx6).trans hx7 (fun _ h _ => h) (fun b' hb hlt2 => by simp only [List.mem_singleton] at hb; omega)) ho7 (by simp only [go_sem, binC, e2]) (by simp only [go_sem, binC, e4]) (by simp only [go_sem, binC, e5]) (by (simp only [go_sem, binC]) <;> (rw [List.length_append]; rfl)) (by simp only [go_sem, binC])
end Go.Proofs.YtkmghcglmjehcaaI
end
section
/- What the laws' functions say of steps and programs. -/
set_option linter.unusedVariables false
set_option linter.unusedSimpArgs false
namespace Go.Proofs.YtkmghcglmjehcaaI
open Go Go.RowKit
def lcsA : List IOper := [
    ⟨(some 17), none, .mov (.t 0)⟩,
    ⟨(some 18), none, .mov (.t 5)⟩,
    ⟨(some 19), none, .iad 8 (.t 17) (.t 18)⟩,
    ⟨(some 20), none, .fad 0 (.t 19)⟩,
    ⟨(some 21), none, .load false 1 (.t 20)⟩,
    ⟨(some 22), none, .mov (.t 1)⟩,
    ⟨(some 23), none, .mov (.t 5)⟩,
    ⟨(some 24), none, .iad 8 (.t 22) (.t 23)⟩,
    ⟨(some 25), none, .fad 0 (.t 24)⟩,
    ⟨(some 26), none, .load false 1 (.t 25)⟩,
    ⟨(some 27), none, .bin .neq (.t 21) (.t 26)⟩,
    ⟨(some 28), none, .mov (.t 27)⟩]
def lcsB : List IOper := [
    ⟨(some 29), (some (28, false)), .mov (.t 0)⟩,
    ⟨(some 30), (some (28, false)), .mov (.t 5)⟩,
    ⟨(some 31), (some (28, false)), .iad 8 (.t 29) (.t 30)⟩,
    ⟨(some 32), (some (28, false)), .fad 1 (.t 31)⟩,
    ⟨(some 33), (some (28, false)), .load false 1 (.t 32)⟩,
    ⟨(some 34), (some (28, false)), .mov (.t 1)⟩,
    ⟨(some 35), (some (28, false)), .mov (.t 5)⟩,
    ⟨(some 36), (some (28, false)), .iad 8 (.t 34) (.t 35)⟩,
    ⟨(some 37), (some (28, false)), .fad 1 (.t 36)⟩,
    ⟨(some 38), (some (28, false)), .load false 1 (.t 37)⟩,
    ⟨(some 39), (some (28, false)), .bin .neq (.t 33) (.t 38)⟩,
    ⟨(some 40), none, .pick (.t 28) (.c (.bool true)) (.t 39)⟩,
    ⟨(some 41), none, .mov (.t 40)⟩]
def lcsC : List IOper := [
    ⟨(some 42), (some (41, false)), .mov (.t 0)⟩,
    ⟨(some 43), (some (41, false)), .mov (.t 5)⟩,
    ⟨(some 44), (some (41, false)), .iad 8 (.t 42) (.t 43)⟩,
    ⟨(some 45), (some (41, false)), .fad 2 (.t 44)⟩,
    ⟨(some 46), (some (41, false)), .load true 3 (.t 45)⟩,
    ⟨(some 47), (some (41, false)), .mov (.t 1)⟩,
    ⟨(some 48), (some (41, false)), .mov (.t 5)⟩,
    ⟨(some 49), (some (41, false)), .iad 8 (.t 47) (.t 48)⟩,
    ⟨(some 50), (some (41, false)), .fad 2 (.t 49)⟩,
    ⟨(some 51), (some (41, false)), .load true 3 (.t 50)⟩,
    ⟨(some 52), (some (41, false)), .eqs true 3 (.t 46) (.t 51)⟩,
    ⟨(some 53), none, .pick (.t 41) (.c (.bool true)) (.t 52)⟩,
    ⟨(some 54), none, .mov (.t 53)⟩]
def lcsD : List IOper := [
    ⟨(some 55), (some (54, false)), .mov (.t 0)⟩,
    ⟨(some 56), (some (54, false)), .mov (.t 5)⟩,
    ⟨(some 57), (some (54, false)), .iad 8 (.t 55) (.t 56)⟩,
    ⟨(some 58), (some (54, false)), .fad 5 (.t 57)⟩,
    ⟨(some 59), (some (54, false)), .load false 1 (.t 58)⟩,
    ⟨(some 60), (some (54, false)), .mov (.t 1)⟩,
    ⟨(some 61), (some (54, false)), .mov (.t 5)⟩,
    ⟨(some 62), (some (54, false)), .iad 8 (.t 60) (.t 61)⟩,
    ⟨(some 63), (some (54, false)), .fad 5 (.t 62)⟩,
    ⟨(some 64), (some (54, false)), .load false 1 (.t 63)⟩,
    ⟨(some 65), (some (54, false)), .bin .neq (.t 59) (.t 64)⟩,
    ⟨(some 66), none, .pick (.t 54) (.c (.bool true)) (.t 65)⟩,
    ⟨(some 67), none, .mov (.t 66)⟩]
def lcsE : List IOper := [
    ⟨(some 68), (some (67, false)), .mov (.t 0)⟩,
    ⟨(some 69), (some (67, false)), .mov (.t 5)⟩,
    ⟨(some 70), (some (67, false)), .iad 8 (.t 68) (.t 69)⟩,
    ⟨(some 71), (some (67, false)), .fad 6 (.t 70)⟩,
    ⟨(some 72), (some (67, false)), .load false 1 (.t 71)⟩,
    ⟨(some 73), (some (67, false)), .mov (.t 1)⟩,
    ⟨(some 74), (some (67, false)), .mov (.t 5)⟩,
    ⟨(some 75), (some (67, false)), .iad 8 (.t 73) (.t 74)⟩,
    ⟨(some 76), (some (67, false)), .fad 6 (.t 75)⟩,
    ⟨(some 77), (some (67, false)), .load false 1 (.t 76)⟩,
    ⟨(some 78), (some (67, false)), .call .q (.f 21) [(.t 72), (.t 77)]⟩,
    ⟨(some 79), (some (67, false)), .un .not (.t 78)⟩,
    ⟨(some 80), none, .pick (.t 67) (.c (.bool true)) (.t 79)⟩,
    ⟨(some 81), none, .mov (.t 80)⟩]
def lcsF : List IOper := [
    ⟨(some 82), (some (81, false)), .mov (.t 0)⟩,
    ⟨(some 83), (some (81, false)), .mov (.t 5)⟩,
    ⟨(some 84), (some (81, false)), .iad 8 (.t 82) (.t 83)⟩,
    ⟨(some 85), (some (81, false)), .fad 7 (.t 84)⟩,
    ⟨(some 86), (some (81, false)), .load false 1 (.t 85)⟩,
    ⟨(some 87), (some (81, false)), .mov (.t 1)⟩,
    ⟨(some 88), (some (81, false)), .mov (.t 5)⟩,
    ⟨(some 89), (some (81, false)), .iad 8 (.t 87) (.t 88)⟩,
    ⟨(some 90), (some (81, false)), .fad 7 (.t 89)⟩,
    ⟨(some 91), (some (81, false)), .load false 1 (.t 90)⟩,
    ⟨(some 92), (some (81, false)), .call .q (.f 21) [(.t 86), (.t 91)]⟩,
    ⟨(some 93), (some (81, false)), .un .not (.t 92)⟩,
    ⟨(some 94), none, .pick (.t 81) (.c (.bool true)) (.t 93)⟩]
def c_lcSteps : IFn := ⟨2, 95, [.t 4],
 .seq (.reg none [
    ⟨(some 4), none, .mov (.c (.bool false))⟩])
 (.seq (.seq (.reg none [
     ⟨(some 6), none, .mov (.t 0)⟩,
     ⟨(some 7), none, .len (.t 6)⟩,
     ⟨(some 8), none, .mov (.t 1)⟩,
     ⟨(some 9), none, .len (.t 8)⟩,
     ⟨(some 10), none, .bin .neq (.t 7) (.t 9)⟩])
  (.cond (.t 10) (.seq (.reg none [
      ⟨(some 4), none, .mov (.c (.bool false))⟩])
   (.ret)) (.skip)))
 (.seq (.seq (.reg none [
     ⟨(some 5), none, .mov (.c (.int .i64 0))⟩])
  (.block 0 (.loop (.seq (.seq (.reg none [
        ⟨(some 11), none, .mov (.t 5)⟩,
        ⟨(some 12), none, .mov (.t 0)⟩,
        ⟨(some 13), none, .len (.t 12)⟩,
        ⟨(some 14), none, .bin .lss (.t 11) (.t 13)⟩])
     (.cond (.t 14) (.skip) (.exit 0)))
    (.seq (.block 1 (.seq (.reg (some 75) (lcsA ++ (lcsB ++ (lcsC ++ (lcsD ++ (lcsE ++ lcsF))))))
      (.cond (.t 94) (.seq (.reg none [
          ⟨(some 4), none, .mov (.c (.bool false))⟩])
       (.ret)) (.skip))))
    (.reg none [
      ⟨(some 15), none, .mov (.t 5)⟩,
      ⟨(some 16), none, .bin .add (.t 15) (.c (.int .i64 1))⟩,
      ⟨(some 5), none, .mov (.t 16)⟩]))))))
 (.seq (.reg none [
    ⟨(some 4), none, .mov (.c (.bool true))⟩])
 (.ret))))⟩
def c_lcProg : IFn := ⟨2, 36, [.t 4],
 .seq (.reg none [
    ⟨(some 2), none, .box (.t 0)⟩,
    ⟨(some 3), none, .box (.t 1)⟩,
    ⟨(some 4), none, .mov (.c (.bool false))⟩])
 (.seq (.seq (.reg none [
     ⟨(some 6), none, .fad 0 (.t 2)⟩,
     ⟨(some 7), none, .load false 1 (.t 6)⟩,
     ⟨(some 8), none, .len (.t 7)⟩,
     ⟨(some 9), none, .fad 0 (.t 3)⟩,
     ⟨(some 10), none, .load false 1 (.t 9)⟩,
     ⟨(some 11), none, .len (.t 10)⟩,
     ⟨(some 12), none, .bin .neq (.t 8) (.t 11)⟩])
  (.cond (.t 12) (.seq (.reg none [
      ⟨(some 4), none, .mov (.c (.bool false))⟩])
   (.ret)) (.skip)))
 (.seq (.seq (.reg none [
     ⟨(some 5), none, .mov (.c (.int .i64 0))⟩])
  (.block 0 (.loop (.seq (.seq (.reg none [
        ⟨(some 13), none, .mov (.t 5)⟩,
        ⟨(some 14), none, .fad 0 (.t 2)⟩,
        ⟨(some 15), none, .load false 1 (.t 14)⟩,
        ⟨(some 16), none, .len (.t 15)⟩,
        ⟨(some 17), none, .bin .lss (.t 13) (.t 16)⟩])
     (.cond (.t 17) (.skip) (.exit 0)))
    (.seq (.block 1 (.seq (.reg (some 10) [
         ⟨(some 20), none, .fad 0 (.t 2)⟩,
         ⟨(some 21), none, .load false 1 (.t 20)⟩,
         ⟨(some 22), none, .mov (.t 5)⟩,
         ⟨(some 23), none, .iad 2 (.t 21) (.t 22)⟩,
         ⟨(some 24), none, .load true 2 (.t 23)⟩,
         ⟨(some 25), none, .fad 0 (.t 3)⟩,
         ⟨(some 26), none, .load false 1 (.t 25)⟩,
         ⟨(some 27), none, .mov (.t 5)⟩,
         ⟨(some 28), none, .iad 2 (.t 26) (.t 27)⟩,
         ⟨(some 29), none, .load true 2 (.t 28)⟩,
         ⟨(some 30), none, .eqs true 2 (.t 24) (.t 29)⟩])
      (.cond (.t 30) (.seq (.reg none [
          ⟨(some 4), none, .mov (.c (.bool false))⟩])
       (.ret)) (.skip))))
    (.reg none [
      ⟨(some 18), none, .mov (.t 5)⟩,
      ⟨(some 19), none, .bin .add (.t 18) (.c (.int .i64 1))⟩,
      ⟨(some 5), none, .mov (.t 19)⟩]))))))
 (.seq (.reg none [
    ⟨(some 31), none, .fad 1 (.t 2)⟩,
    ⟨(some 32), none, .load false 1 (.t 31)⟩,
    ⟨(some 33), none, .fad 1 (.t 3)⟩,
    ⟨(some 34), none, .load false 1 (.t 33)⟩,
    ⟨(some 35), none, .call .q (.f 21) [(.t 32), (.t 34)]⟩,
    ⟨(some 4), none, .mov (.t 35)⟩])
 (.ret))))⟩
/-- Steps that are the same are told the same. -/
def SameSOk (F : Nat → Option IFn) (f n : Nat) : Prop := ∀ (H : Heap) (v w : Value) (l : List (TStep n)), SlR (Co.step n) (vw 0 H) v l → SlR (Co.step n) (vw 0 H) w l → (Co.sl (Co.step n)).sm l → QC F f [v, w] H (.bool true)
theorem eqsV3 (a b c : Int) : eqsV true 3 (.agg #[.int .i64 a, .int .i64 b, .int .i64 c]) (.agg #[.int .i64 a, .int .i64 b, .int .i64 c]) = some (.bool false) := by
  have h : eqCells [.int .i64 a, .int .i64 b, .int .i64 c] [.int .i64 a, .int .i64 b, .int .i64 c] = some true := by simp [eqCells]
  simp only [eqsV, List.length_cons, List.length_nil, h]
  rfl
theorem wpp_app2 {F : Nat → Option IFn} {lo p : Nat} (q : Nat) {K : Env → Heap → Prop} {l1 l2 : List IOper} {e : Env} {H : Heap} (hq : p = l1.length + q) (h : wpp F lo l1.length l1 e H fun e1 H1 => wpp F lo q l2 e1 H1 K) : wpp F lo p (l1 ++ l2) e H K := by
  rw [hq]
  exact wpp_app l1 e H h
theorem lcsA_ok {F : Nat → Option IFn} {lo : Nat} {e : Env} {H : Heap} {K : Env → Heap → Prop} {vb vo wb wo i len : Nat} {x : Int} (e0 : e 0 = .slice (some ⟨vb, vo, none⟩) len len) (e1 : e 1 = .slice (some ⟨wb, wo, none⟩) len len) (e5 : e 5 = .int .i64 i) (hi : i < len)
    (g : getCells H vb (vo + i * 8) 1 = some [.int .i64 x]) (g' : getCells H wb (wo + i * 8) 1 = some [.int .i64 x]) (k : ∀ e2 : Env, e2 0 = e 0 → e2 1 = e 1 → e2 5 = e 5 → e2 28 = .bool false → K e2 H) : wpp F lo lcsA.length lcsA e H K := by
  have hij : (0 ≤ (i : Int) ∧ (i : Int) < (len : Int)) = True := eq_true ⟨by omega, by omega⟩
  show wpp F lo 12 _ e H K
  unfold lcsA
  simp only [go_sem, binC, e0, e1, e5, hij, Int.toNat_natCast, g, g', bne_f (a := x) (b := x) rfl]
  exact k _ (by simp only [go_sem, binC]) (by simp only [go_sem, binC]) (by simp only [go_sem, binC]) (by simp only [go_sem, binC])
theorem lcsB_ok {F : Nat → Option IFn} {lo : Nat} {e : Env} {H : Heap} {K : Env → Heap → Prop} {vb vo wb wo i len : Nat} {x : Int} (e0 : e 0 = .slice (some ⟨vb, vo, none⟩) len len) (e1 : e 1 = .slice (some ⟨wb, wo, none⟩) len len) (e5 : e 5 = .int .i64 i) (eg : e 28 = .bool false) (hi : i < len)
    (g : getCells H vb (vo + i * 8 + 1) 1 = some [.int .i64 x]) (g' : getCells H wb (wo + i * 8 + 1) 1 = some [.int .i64 x]) (k : ∀ e2 : Env, e2 0 = e 0 → e2 1 = e 1 → e2 5 = e 5 → e2 41 = .bool false → K e2 H) : wpp F lo lcsB.length lcsB e H K := by
  have hij : (0 ≤ (i : Int) ∧ (i : Int) < (len : Int)) = True := eq_true ⟨by omega, by omega⟩
  show wpp F lo 13 _ e H K
  unfold lcsB
  simp only [go_sem, binC, e0, e1, e5, hij, Int.toNat_natCast, g, g', bne_f (a := x) (b := x) rfl, eg]
  exact k _ (by simp only [go_sem, binC]) (by simp only [go_sem, binC]) (by simp only [go_sem, binC]) (by simp only [go_sem, binC])
theorem lcsC_ok {F : Nat → Option IFn} {lo : Nat} {e : Env} {H : Heap} {K : Env → Heap → Prop} {vb vo wb wo i len : Nat} {x y z : Int} (e0 : e 0 = .slice (some ⟨vb, vo, none⟩) len len) (e1 : e 1 = .slice (some ⟨wb, wo, none⟩) len len) (e5 : e 5 = .int .i64 i) (eg : e 41 = .bool false) (hi : i < len)
    (g : getCells H vb (vo + i * 8 + 2) 3 = some [.int .i64 x, .int .i64 y, .int .i64 z]) (g' : getCells H wb (wo + i * 8 + 2) 3 = some [.int .i64 x, .int .i64 y, .int .i64 z]) (k : ∀ e2 : Env, e2 0 = e 0 → e2 1 = e 1 → e2 5 = e 5 → e2 54 = .bool false → K e2 H) : wpp F lo lcsC.length lcsC e H K := by
  have hij : (0 ≤ (i : Int) ∧ (i : Int) < (len : Int)) = True := eq_true ⟨by omega, by omega⟩
  show wpp F lo 13 _ e H K
  unfold lcsC
  simp only [go_sem, binC, e0, e1, e5, hij, Int.toNat_natCast, g, g', eqsV3, optP_some, eg]
  exact k _ (by simp only [go_sem, binC]) (by simp only [go_sem, binC]) (by simp only [go_sem, binC]) (by simp only [go_sem, binC])
theorem lcsD_ok {F : Nat → Option IFn} {lo : Nat} {e : Env} {H : Heap} {K : Env → Heap → Prop} {vb vo wb wo i len : Nat} {x : Int} (e0 : e 0 = .slice (some ⟨vb, vo, none⟩) len len) (e1 : e 1 = .slice (some ⟨wb, wo, none⟩) len len) (e5 : e 5 = .int .i64 i) (eg : e 54 = .bool false) (hi : i < len)
    (g : getCells H vb (vo + i * 8 + 5) 1 = some [.int .i64 x]) (g' : getCells H wb (wo + i * 8 + 5) 1 = some [.int .i64 x]) (k : ∀ e2 : Env, e2 0 = e 0 → e2 1 = e 1 → e2 5 = e 5 → e2 67 = .bool false → K e2 H) : wpp F lo lcsD.length lcsD e H K := by
  have hij : (0 ≤ (i : Int) ∧ (i : Int) < (len : Int)) = True := eq_true ⟨by omega, by omega⟩
  show wpp F lo 13 _ e H K
  unfold lcsD
  simp only [go_sem, binC, e0, e1, e5, hij, Int.toNat_natCast, g, g', bne_f (a := x) (b := x) rfl, eg]
  exact k _ (by simp only [go_sem, binC]) (by simp only [go_sem, binC]) (by simp only [go_sem, binC]) (by simp only [go_sem, binC])
theorem lcsE_ok {F : Nat → Option IFn} {lo : Nat} {e : Env} {H : Heap} {K : Env → Heap → Prop} {vb vo wb wo i len : Nat} {x y : Value} (e0 : e 0 = .slice (some ⟨vb, vo, none⟩) len len) (e1 : e 1 = .slice (some ⟨wb, wo, none⟩) len len) (e5 : e 5 = .int .i64 i) (eg : e 67 = .bool false) (hi : i < len)
    (g : getCells H vb (vo + i * 8 + 6) 1 = some [x]) (g' : getCells H wb (wo + i * 8 + 6) 1 = some [y]) (ox : one x = true) (oy : one y = true) (q : ∀ lo : Nat, QC F 21 [x, y] H (.bool true)) (k : ∀ e2 : Env, e2 0 = e 0 → e2 1 = e 1 → e2 5 = e 5 → e2 81 = .bool false → K e2 H) : wpp F lo lcsE.length lcsE e H K := by
  have hij : (0 ≤ (i : Int) ∧ (i : Int) < (len : Int)) = True := eq_true ⟨by omega, by omega⟩
  show wpp F lo 14 _ e H K
  unfold lcsE
  simp only [go_sem, binC, e0, e1, e5, eg, hij, Int.toNat_natCast, g, g', ox, oy]
  refine op_callQ (by simp only [go_sem, binC]; exact q 0) ?_
  simp only [go_sem, binC, eg]
  exact k _ (by simp only [go_sem, binC]) (by simp only [go_sem, binC]) (by simp only [go_sem, binC]) (by simp only [go_sem, binC])
theorem lcsF_ok {F : Nat → Option IFn} {lo : Nat} {e : Env} {H : Heap} {K : Env → Heap → Prop} {vb vo wb wo i len : Nat} {x y : Value} (e0 : e 0 = .slice (some ⟨vb, vo, none⟩) len len) (e1 : e 1 = .slice (some ⟨wb, wo, none⟩) len len) (e5 : e 5 = .int .i64 i) (eg : e 81 = .bool false) (hi : i < len)
    (g : getCells H vb (vo + i * 8 + 7) 1 = some [x]) (g' : getCells H wb (wo + i * 8 + 7) 1 = some [y]) (ox : one x = true) (oy : one y = true) (q : ∀ lo : Nat, QC F 21 [x, y] H (.bool true)) (k : ∀ e2 : Env, e2 0 = e 0 → e2 1 = e 1 → e2 5 = e 5 → e2 94 = .bool false → K e2 H) : wpp F lo 10 lcsF e H K := by
  have hij : (0 ≤ (i : Int) ∧ (i : Int) < (len : Int)) = True := eq_true ⟨by omega, by omega⟩
  unfold lcsF
  simp only [go_sem, binC, e0, e1, e5, eg, hij, Int.toNat_natCast, g, g', ox, oy]
  refine op_callQ (by simp only [go_sem, binC]; exact q 0) ?_
  simp only [go_sem, binC, eg]
  exact k _ (by simp only [go_sem, binC]) (by simp only [go_sem, binC]) (by simp only [go_sem, binC]) (by simp only [go_sem, binC])
theorem lcSteps_ok {F : Nat → Option IFn} {f n : Nat} (hf : F f = some c_lcSteps) (ih : ∀ m, n = m + 1 → SameSOk F 21 m) : SameSOk F f n := by
  intro H v w l hv hw hsm
  have hv0 := hv
  have hw0 := hw
  obtain ⟨h0, av, rfl, hv1⟩ := hv
  obtain ⟨_, aw, rfl, hw1⟩ := hw
  have hsm1 := hsm.1
  refine QC.mk hf rfl ?_
  refine seq_reg ?_
  simp only [go_sem, binC]
  refine seq_assoc (seq_reg ?_)
  simp only [go_sem, binC, bne_f (a := (l.length : Int)) (b := (l.length : Int)) rfl]
  refine seq_cond (t := false) rfl ?_
  simp only [go_sem, binC]
  refine seq_skip (seq_assoc (seq_reg ?_))
  simp only [go_sem, binC]
  refine seq_block (wpc_loop ?_)
  suffices h : ∀ (k i : Nat) (e : Env), i + k = l.length → e 0 = .slice av l.length l.length → e 1 = .slice aw l.length l.length → e 5 = .int .i64 i → W F H.length _ e H _ from
    h l.length 0 _ (by omega) (by simp only [go_sem, binC]) (by simp only [go_sem, binC]) (by (simp only [go_sem, binC]) <;> rfl)
  intro k
  induction k with
  | zero =>
    intro i e hi e0 e1 e5
    refine lp_step ?_
    refine seq_assoc (seq_reg ?_)
    simp only [go_sem, binC, e0, e5]
    refine seq_cond (t := false) (by simp only [go_sem, binC]; rw [decide_eq_false (by omega)]) ?_
    simp only [go_sem, binC]
    refine seq_exit ?_
    simp only [go_sem, binC, thenX_e, out_e, thenX_n]
    refine seq_reg ?_
    simp only [go_sem, binC]
    exact wpc_ret ⟨Or.inr rfl, _, (by (simp only [go_sem, binC]) <;> rfl), rfl, rfl⟩
  | succ k ihk =>
    intro i e hi e0 e1 e5
    have hil : i < l.length := by omega
    cases n with
    | zero => exact (l[i]).elim
    | succ n =>
    obtain ⟨vb, vo, sk, sx, sa, sbb, sc, sg, tv, ev, tl, el, hav, hs, rg, otv, oev, hgc, htl, hel⟩ := step_atV hv0 hil
    obtain ⟨wb, wo, sk', sx', sa', sbb', sc', sg', tv', ev', tl', el', haw, hs', rg', otv', oev', hgc', htl', hel'⟩ := step_atV hw0 hil
    rw [hs] at hs'
    replace hs' : ((sk, sx, (sa, sbb, sc), sg, tl, el) : Int × Int × (Int × Int × Int) × Int × List (TStep n) × List (TStep n)) = (sk', sx', (sa', sbb', sc'), sg', tl', el') := hs'
    simp only [Prod.mk.injEq] at hs'
    obtain ⟨rfl, rfl, ⟨rfl, rfl, rfl⟩, rfl, rfl, rfl⟩ := hs'
    simp only [Value.slice.injEq, and_true] at hav haw
    subst hav haw
    have hsmi := hsm.2 _ (List.getElem_mem hil)
    rw [hs] at hsmi
    obtain ⟨_, _, _, _, mtl, mel⟩ := hsmi
    have hw1 : IntKind.i64.wrap ((i : Int) + 1) = ((i + 1 : Nat) : Int) := by rw [wrap_id (by omega) (by omega)]; omega
    have hg := hgc H (Sub.refl _)
    have hg' := hgc' H (Sub.refl _)
    have gc0 : getCells H vb (vo + i * 8) 1 = some [.int .i64 sk] := gc_part (off := 0) (k := 1) hg (by omega)
    have gc1 : getCells H vb (vo + i * 8 + 1) 1 = some [.int .i64 sx] := gc_part (off := 1) (k := 1) hg (by omega)
    have gc2 : getCells H vb (vo + i * 8 + 2) 3 = some [.int .i64 sa, .int .i64 sbb, .int .i64 sc] := gc_part (off := 2) (k := 3) hg (by omega)
    have gc5 : getCells H vb (vo + i * 8 + 5) 1 = some [.int .i64 sg] := gc_part (off := 5) (k := 1) hg (by omega)
    have gc6 : getCells H vb (vo + i * 8 + 6) 1 = some [tv] := gc_part (off := 6) (k := 1) hg (by omega)
    have gc7 : getCells H vb (vo + i * 8 + 7) 1 = some [ev] := gc_part (off := 7) (k := 1) hg (by omega)
    have gd0 : getCells H wb (wo + i * 8) 1 = some [.int .i64 sk] := gc_part (off := 0) (k := 1) hg' (by omega)
    have gd1 : getCells H wb (wo + i * 8 + 1) 1 = some [.int .i64 sx] := gc_part (off := 1) (k := 1) hg' (by omega)
    have gd2 : getCells H wb (wo + i * 8 + 2) 3 = some [.int .i64 sa, .int .i64 sbb, .int .i64 sc] := gc_part (off := 2) (k := 3) hg' (by omega)
    have gd5 : getCells H wb (wo + i * 8 + 5) 1 = some [.int .i64 sg] := gc_part (off := 5) (k := 1) hg' (by omega)
    have gd6 : getCells H wb (wo + i * 8 + 6) 1 = some [tv'] := gc_part (off := 6) (k := 1) hg' (by omega)
    have gd7 : getCells H wb (wo + i * 8 + 7) 1 = some [ev'] := gc_part (off := 7) (k := 1) hg' (by omega)
    refine lp_step ?_
    refine seq_assoc (seq_reg ?_)
    simp only [go_sem, binC, e0, e5]
    refine seq_cond (t := true) (by simp only [go_sem, binC]; rw [decide_eq_true (by omega)]) ?_
    simp only [go_sem, binC]
    refine seq_skip (seq_block (seq_regD ?_))
    have hij : (0 ≤ (i : Int) ∧ (i : Int) < (l.length : Int)) = True := eq_true ⟨by omega, by omega⟩
    refine wpp_app2 63 rfl (lcsA_ok e0 e1 e5 hil gc0 gd0 fun ea a0 a1 a5 ag => ?_)
    refine wpp_app2 50 rfl (lcsB_ok (a0.trans e0) (a1.trans e1) (a5.trans e5) ag hil gc1 gd1 fun eb b0 b1 b5 bg => ?_)
    refine wpp_app2 37 rfl (lcsC_ok (b0.trans (a0.trans e0)) (b1.trans (a1.trans e1)) (b5.trans (a5.trans e5)) bg hil gc2 gd2 fun ec c0 c1 c5 cg => ?_)
    refine wpp_app2 24 rfl (lcsD_ok (c0.trans (b0.trans (a0.trans e0))) (c1.trans (b1.trans (a1.trans e1))) (c5.trans (b5.trans (a5.trans e5))) cg hil gc5 gd5 fun e2 d0 d1 d5 f67 => ?_)
    have f0 := d0.trans (c0.trans (b0.trans (a0.trans e0)))
    have f1 := d1.trans (c1.trans (b1.trans (a1.trans e1)))
    have f5 := d5.trans (c5.trans (b5.trans (a5.trans e5)))
    clear d0 d1 d5 c0 c1 c5 b0 b1 b5 a0 a1 a5 ag bg cg
    refine wpp_app2 10 rfl (lcsE_ok f0 f1 f5 f67 hil gc6 gd6 otv otv' (fun lo => ih n rfl H tv tv' tl htl htl' mtl) fun e3 k0 k1 k5 f81 => ?_)
    refine lcsF_ok (k0.trans f0) (k1.trans f1) (k5.trans f5) f81 hil gc7 gd7 oev oev' (fun lo => ih n rfl H ev ev' el hel hel' mel) fun e4 j0 j1 j5 f94 => ?_
    replace j0 := j0.trans (k0.trans f0)
    replace j1 := j1.trans (k1.trans f1)
    replace j5 := j5.trans (k5.trans f5)
    clear k0 k1 k5 f81 f67
    refine wpc_cond (t := false) (by simp only [go_sem, binC, f94]) ?_
    simp only [go_sem, binC, out_n, thenX_n]
    refine wpc_skip ?_
    simp only [go_sem, binC, out_n, thenX_n]
    refine wpc_reg ?_
    simp only [go_sem, binC, j5, hw1]
    simp only [go_sem, binC, thenX_n]
    exact ihk (i + 1) _ (by omega) (by simp only [go_sem, binC, j0]) (by simp only [go_sem, binC, j1]) (by simp only [go_sem, binC])
theorem lcSteps_all {F : Nat → Option IFn} (hf : F 21 = some c_lcSteps) : ∀ n, SameSOk F 21 n
  | 0 => lcSteps_ok hf fun m h => by cases h
  | n + 1 => lcSteps_ok hf fun m h => by cases h; exact lcSteps_all hf n
/-- Programs that are the same are told the same. -/
def SamePOk (F : Nat → Option IFn) (f : Nat) : Prop := ∀ (H : Heap) (n : Nat) (lv sv lw sw : Value) (ls : List (Int × Int)) (l : List (TStep n)), SlR Co.p2 (vw 0 H) lv ls → SlR (Co.step n) (vw 0 H) sv l → SlR Co.p2 (vw 0 H) lw ls → SlR (Co.step n) (vw 0 H) sw l → (Co.prog n).sm (ls, l) → QC F f [.agg #[lv, sv], .agg #[lw, sw]] H (.bool true)
theorem lcProg_ok {F : Nat → Option IFn} {f : Nat} (hf : F f = some c_lcProg) (gs : ∀ n, SameSOk F 21 n) : SamePOk F f := by
  intro H n lv sv lw sw ls l r1 r2 r3 r4 hsm
  have osv : one sv = true := by obtain ⟨_, a, rfl, _⟩ := r2; rfl
  have osw : one sw = true := by obtain ⟨_, a, rfl, _⟩ := r4; rfl
  obtain ⟨_, la, rfl, _⟩ := id r1
  obtain ⟨_, lb, rfl, _⟩ := id r3
  have hls0 : ls.length ≤ 1048576 := hsm.1.1
  refine QC.mk hf rfl ?_
  refine seq_reg ?_
  simp only [go_sem, binC, osv, osw]
  refine wpc_gen fun H1 hH1 => ?_
  have hx1 : AgX [] H H1 := hH1 ▸ AgX.app [] _ _
  have hb2 : H1[H.length]? = some ⟨[.slice la ls.length ls.length, sv], 0, 0, false, true⟩ := hH1 ▸ get_new0 _ _
  have hb3 : H1[H.length + 1]? = some ⟨[.slice lb ls.length ls.length, sw], 0, 0, false, true⟩ := hH1 ▸ get_new _ _ 1
  clear hH1
  have r1' := r1.mono (agx_sub hx1)
  have r2' := r2.mono (agx_sub hx1)
  have r3' := r3.mono (agx_sub hx1)
  have r4' := r4.mono (agx_sub hx1)
  have hl1 := hx1.1
  refine seq_assoc (seq_reg ?_)
  simp only [go_sem, binC, gc_of hb2, gc_of hb3, inBlk_some, bne_f (a := (ls.length : Int)) (b := (ls.length : Int)) rfl]
  refine seq_cond (t := false) rfl ?_
  simp only [go_sem, binC]
  refine seq_skip (seq_assoc (seq_reg ?_))
  simp only [go_sem, binC]
  refine seq_block (wpc_loop ?_)
  suffices h : ∀ (k i : Nat) (e : Env), i + k = ls.length → e 2 = ptr H.length 0 → e 3 = ptr (H.length + 1) 0 → e 5 = .int .i64 i → W F H.length _ e H1 _ from
    h ls.length 0 _ (by omega) (by simp only [go_sem, binC]) (by simp only [go_sem, binC]) (by (simp only [go_sem, binC]) <;> rfl)
  intro k
  induction k with
  | zero =>
    intro i e hi e2 e3 e5
    refine lp_step ?_
    refine seq_assoc (seq_reg ?_)
    simp only [go_sem, binC, e2, e5, gc_of hb2, inBlk_some]
    refine seq_cond (t := false) (by simp only [go_sem, binC]; rw [decide_eq_false (by omega)]) ?_
    simp only [go_sem, binC]
    refine seq_exit ?_
    simp only [go_sem, binC, thenX_e, out_e, thenX_n]
    refine seq_reg ?_
    simp only [go_sem, binC, e2, e3, gc_of hb2, gc_of hb3, inBlk_some, osv, osw]
    refine op_callQ (by simp only [go_sem, binC]; exact gs n H1 sv sw l r2' r4' hsm.2) ?_
    simp only [go_sem, binC]
    exact wpc_ret ⟨Or.inr rfl, _, (by (simp only [go_sem, binC]) <;> rfl), rfl, rfl⟩
  | succ k ih =>
    intro i e hi e2 e3 e5
    have hil : i < ls.length := by omega
    obtain ⟨b, o, hv1, hg⟩ := gcP r1' hil
    obtain ⟨b', o', hv2, hg'⟩ := gcP r3' hil
    simp only [Value.slice.injEq, and_true] at hv1 hv2
    subst hv1 hv2
    have hw1 : IntKind.i64.wrap ((i : Int) + 1) = ((i + 1 : Nat) : Int) := by rw [wrap_id (by omega) (by omega)]; omega
    refine lp_step ?_
    refine seq_assoc (seq_reg ?_)
    simp only [go_sem, binC, e2, e5, gc_of hb2, inBlk_some]
    refine seq_cond (t := true) (by simp only [go_sem, binC]; rw [decide_eq_true (by omega)]) ?_
    simp only [go_sem, binC]
    refine seq_skip (seq_block (seq_regD ?_))
    simp only [go_sem, binC, e2, e3, e5, gc_of hb2, gc_of hb3, inBlk_some]
    refine ⟨⟨by omega, by omega⟩, ?_⟩
    simp only [go_sem, binC, Int.toNat_natCast, hg]
    refine ⟨⟨by omega, by omega⟩, ?_⟩
    simp only [go_sem, binC, Int.toNat_natCast, hg', eqsV2, decide_true]
    refine wpc_cond (t := false) rfl ?_
    simp only [go_sem, binC]
    refine wpc_skip ?_
    simp only [go_sem, binC, out_n, thenX_n]
    refine wpc_reg ?_
    simp only [go_sem, binC, e5, hw1]
    simp only [go_sem, binC, thenX_n]
    exact ih (i + 1) _ (by omega) (by simp only [go_sem, binC, e2]) (by simp only [go_sem, binC, e3]) (by simp only [go_sem, binC])
end Go.Proofs.YtkmghcglmjehcaaI
end
section
/- The laws FnInferOf, FnInferTwice on the ideal machine. -/
set_option linter.unusedVariables false
set_option linter.unusedSimpArgs false
namespace Go.Proofs.YtkmghcglmjehcaaI
open Go Go.RowKit
attribute [local irreducible] infL
def c_lawIO : IFn := ⟨1, 84, [.t 2],
 .seq (.reg none [
    ⟨(some 2), none, .mov (.c (.bool false))⟩])
 (.seq (.seq (.reg none [
     ⟨(some 10), none, .mov (.t 0)⟩,
     ⟨(some 11), none, .len (.t 10)⟩,
     ⟨(some 12), none, .bin .gtr (.t 11) (.c (.int .i64 1048576))⟩])
  (.cond (.t 12) (.seq (.reg none [
      ⟨(some 2), none, .mov (.c (.bool true))⟩])
   (.ret)) (.skip)))
 (.seq (.reg none [
    ⟨(some 14), none, .mov (.t 0)⟩,
    ⟨(some 15), none, .call .k (.f 15) [(.t 14)]⟩,
    ⟨(some 13), none, .mov (.t 15)⟩,
    ⟨(some 16), none, .ext (.t 13) 0⟩,
    ⟨(some 17), none, .ext (.t 13) 1⟩,
    ⟨(some 3), none, .new [(.slice none 0 0), (.slice none 0 0)]⟩,
    ⟨none, none, .store 2 (.t 3) (.t 16)⟩,
    ⟨(some 4), none, .mov (.t 17)⟩])
 (.seq (.reg none [
    ⟨(some 19), none, .load true 2 (.t 3)⟩,
    ⟨(some 20), none, .mov (.t 4)⟩,
    ⟨(some 21), none, .call .k (.f 16) [(.t 19), (.t 20)]⟩,
    ⟨(some 18), none, .mov (.t 21)⟩,
    ⟨(some 22), none, .ext (.t 18) 0⟩,
    ⟨(some 23), none, .ext (.t 18) 1⟩,
    ⟨(some 5), none, .new [(.slice none 0 0), (.slice none 0 0)]⟩,
    ⟨none, none, .store 2 (.t 5) (.t 22)⟩,
    ⟨(some 6), none, .mov (.t 23)⟩])
 (.seq (.reg none [
    ⟨(some 25), none, .load true 2 (.t 3)⟩,
    ⟨(some 26), none, .mov (.t 4)⟩,
    ⟨(some 27), none, .call .k (.f 17) [(.t 25), (.t 26)]⟩,
    ⟨(some 24), none, .mov (.t 27)⟩,
    ⟨(some 28), none, .ext (.t 24) 0⟩,
    ⟨(some 29), none, .ext (.t 24) 1⟩,
    ⟨(some 7), none, .new [(.slice none 0 0), (.slice none 0 0)]⟩,
    ⟨none, none, .store 2 (.t 7) (.t 28)⟩,
    ⟨(some 8), none, .mov (.t 29)⟩])
 (.seq (.seq (.reg none [
     ⟨(some 30), none, .mov (.t 8)⟩,
     ⟨(some 31), none, .mov (.t 6)⟩,
     ⟨(some 32), none, .beq true (.t 30) (.t 31)⟩,
     ⟨(some 33), none, .mov (.t 32)⟩,
     ⟨(some 34), (some (33, false)), .load true 2 (.t 7)⟩,
     ⟨(some 35), (some (33, false)), .load true 2 (.t 5)⟩,
     ⟨(some 36), (some (33, false)), .call .q (.f 18) [(.t 34), (.t 35)]⟩,
     ⟨(some 37), (some (33, false)), .un .not (.t 36)⟩,
     ⟨(some 38), none, .pick (.t 33) (.c (.bool true)) (.t 37)⟩,
     ⟨(some 39), none, .mov (.t 38)⟩,
     ⟨(some 40), (some (39, false)), .mov (.t 8)⟩,
     ⟨(some 41), (some (39, false)), .un .not (.t 40)⟩,
     ⟨(some 42), none, .pick (.t 39) (.c (.bool true)) (.t 41)⟩])
  (.cond (.t 42) (.seq (.reg none [
      ⟨(some 43), none, .mov (.t 8)⟩,
      ⟨(some 44), none, .mov (.t 6)⟩,
      ⟨(some 45), none, .beq false (.t 43) (.t 44)⟩,
      ⟨(some 46), none, .mov (.t 45)⟩,
      ⟨(some 47), (some (46, true)), .load true 2 (.t 7)⟩,
      ⟨(some 48), (some (46, true)), .load true 2 (.t 5)⟩,
      ⟨(some 49), (some (46, true)), .call .q (.f 18) [(.t 47), (.t 48)]⟩,
      ⟨(some 50), none, .pick (.t 46) (.t 49) (.c (.bool false))⟩,
      ⟨(some 2), none, .mov (.t 50)⟩])
   (.ret)) (.skip)))
 (.seq (.seq (.reg none [
     ⟨(some 9), none, .mov (.c (.int .i64 0))⟩])
  (.block 0 (.loop (.seq (.seq (.reg none [
        ⟨(some 51), none, .mov (.t 9)⟩,
        ⟨(some 52), none, .mov (.t 4)⟩,
        ⟨(some 53), none, .len (.t 52)⟩,
        ⟨(some 54), none, .bin .lss (.t 51) (.t 53)⟩])
     (.cond (.t 54) (.skip) (.exit 0)))
    (.seq (.block 1 (.seq (.reg (some 16) [
         ⟨(some 57), none, .mov (.t 4)⟩,
         ⟨(some 58), none, .mov (.t 9)⟩,
         ⟨(some 59), none, .iad 1 (.t 57) (.t 58)⟩,
         ⟨(some 60), none, .load false 1 (.t 59)⟩,
         ⟨(some 61), none, .un .not (.t 60)⟩,
         ⟨(some 62), none, .mov (.t 61)⟩,
         ⟨(some 63), (some (62, true)), .fad 0 (.t 7)⟩,
         ⟨(some 64), (some (62, true)), .load false 1 (.t 63)⟩,
         ⟨(some 65), (some (62, true)), .mov (.t 9)⟩,
         ⟨(some 66), (some (62, true)), .iad 2 (.t 64) (.t 65)⟩,
         ⟨(some 67), (some (62, true)), .load true 2 (.t 66)⟩,
         ⟨(some 68), (some (62, true)), .fad 0 (.t 3)⟩,
         ⟨(some 69), (some (62, true)), .load false 1 (.t 68)⟩,
         ⟨(some 70), (some (62, true)), .mov (.t 9)⟩,
         ⟨(some 71), (some (62, true)), .iad 2 (.t 69) (.t 70)⟩,
         ⟨(some 72), (some (62, true)), .load true 2 (.t 71)⟩,
         ⟨(some 73), (some (62, true)), .eqs true 2 (.t 67) (.t 72)⟩,
         ⟨(some 74), none, .pick (.t 62) (.t 73) (.c (.bool false))⟩])
      (.cond (.t 74) (.seq (.reg none [
          ⟨(some 2), none, .mov (.c (.bool false))⟩])
       (.ret)) (.skip))))
    (.reg none [
      ⟨(some 55), none, .mov (.t 9)⟩,
      ⟨(some 56), none, .bin .add (.t 55) (.c (.int .i64 1))⟩,
      ⟨(some 9), none, .mov (.t 56)⟩]))))))
 (.seq (.reg none [
    ⟨(some 75), none, .load true 2 (.t 7)⟩,
    ⟨(some 76), none, .call .q (.f 20) [(.t 75)]⟩,
    ⟨(some 77), none, .mov (.t 76)⟩,
    ⟨(some 78), (some (77, true)), .fad 1 (.t 7)⟩,
    ⟨(some 79), (some (77, true)), .load false 1 (.t 78)⟩,
    ⟨(some 80), (some (77, true)), .fad 1 (.t 3)⟩,
    ⟨(some 81), (some (77, true)), .load false 1 (.t 80)⟩,
    ⟨(some 82), (some (77, true)), .call .q (.f 21) [(.t 79), (.t 81)]⟩,
    ⟨(some 83), none, .pick (.t 77) (.t 82) (.c (.bool false))⟩,
    ⟨(some 2), none, .mov (.t 83)⟩])
 (.ret))))))))⟩
theorem lawIO_ok {F : Nat → Option IFn} {f : Nat} (hf : F f = some c_lawIO) (gd : DrawInfer F 15) (gsp : InferOk F 16) (gim : InferOk F 17) (glp : SamePOk F 18) (gty : TypeP F 20) (gss : ∀ n, SameSOk F 21 n) : LawB F f := by
  intro H v code hv
  obtain ⟨_, av, rfl, _⟩ := id hv
  refine QC.mk hf rfl ?_
  refine seq_reg ?_
  simp only [go_sem, binC]
  refine seq_assoc (seq_reg ?_)
  simp only [go_sem, binC]
  by_cases hbig : 1048576 < (code.length : Int)
  · refine seq_cond (t := true) (by simp only [go_sem, binC]; rw [decide_eq_true hbig]) ?_
    simp only [go_sem, binC]
    refine seq_assoc (seq_reg ?_)
    simp only [go_sem, binC]
    exact seq_ret ⟨Or.inr rfl, .bool true, by simp only [go_sem, binC], rfl, rfl⟩
  refine seq_cond (t := false) (by simp only [go_sem, binC]; rw [decide_eq_false hbig]) ?_
  simp only [go_sem, binC]
  refine seq_skip (seq_reg ?_)
  simp only [go_sem, binC]
  obtain ⟨d, lv, sv, fv, ls, l, free, H1, k1, x1, r1, r2, hsm, r3, hfn⟩ := gd H _ code hv
  refine op_callK (by simp only [go_sem, binC]; exact k1) ?_
  obtain ⟨hlsn, la, rfl, _⟩ := id r1
  have osv : one sv = true := by obtain ⟨_, a, rfl, _⟩ := r2; rfl
  obtain ⟨_, fa, rfl, _⟩ := id r3
  have hn1 := x1.1
  simp only [go_sem, binC, osv]
  refine ⟨by omega, ?_⟩
  refine wpc_gen fun Ha hHa => ?_
  have xa : AgX [] H1 Ha := hHa ▸ AgX.app [] _ _
  have hpa : Ha[H1.length]? = some ⟨[.slice la ls.length ls.length, sv], 0, 0, false, true⟩ := hHa ▸ get_new0 _ _
  clear hHa k1
  have hna := xa.1
  refine seq_reg ?_
  simp only [go_sem, binC, gc_of hpa, inBlk_some, osv]
  obtain ⟨wl, ws, H2, k2, x2, w1, w2⟩ := gsp Ha d _ sv _ ls l free (r1.mono (agx_sub xa)) (r2.mono (agx_sub xa)) hsm (r3.mono (agx_sub xa))
  refine op_callK (by simp only [go_sem, binC]; exact k2) ?_
  have owl : one wl = true := by obtain ⟨_, a, rfl, _⟩ := w1; rfl
  have ows : one ws = true := by obtain ⟨_, a, rfl, _⟩ := w2; rfl
  have hn2 := x2.1
  simp only [go_sem, binC, owl, ows]
  refine ⟨by omega, ?_⟩
  refine wpc_gen fun Hb hHb => ?_
  have xb : AgX [] H2 Hb := hHb ▸ AgX.app [] _ _
  have hwb : Hb[H2.length]? = some ⟨[wl, ws], 0, 0, false, true⟩ := hHb ▸ get_new0 _ _
  clear hHb k2
  have hnb := xb.1
  have xab := x2.tr xb
  have hpb := xab.get hpa (by simp)
  have x1b := xa.tr xab
  refine seq_reg ?_
  simp only [go_sem, binC, gc_of hpb, inBlk_some, osv]
  obtain ⟨xl, xs, H3, k3, x3, y1, y2⟩ := gim Hb d _ sv _ ls l free (r1.mono (agx_sub x1b)) (r2.mono (agx_sub x1b)) hsm (r3.mono (agx_sub x1b))
  refine op_callK (by simp only [go_sem, binC]; exact k3) ?_
  obtain ⟨_, xa_, rfl, _⟩ := id y1
  have oxs : one xs = true := by obtain ⟨_, a, rfl, _⟩ := y2; rfl
  have hn3 := x3.1
  simp only [go_sem, binC, oxs]
  refine ⟨by omega, ?_⟩
  refine wpc_gen fun Hc hHc => ?_
  have xc : AgX [] H3 Hc := hHc ▸ AgX.app [] _ _
  have hxc : Hc[H3.length]? = some ⟨[.slice xa_ (inferO d (ls, l) free).1.length (inferO d (ls, l) free).1.length, xs], 0, 0, false, true⟩ := hHc ▸ get_new0 _ _
  clear hHc k3
  have hnc := xc.1
  have xbc := x3.tr xc
  have hpc := xbc.get hpb (by simp)
  have hwc := xbc.get hwb (by simp)
  have x1c := x1b.tr xbc
  have r1c := r1.mono (agx_sub x1c)
  have r2c := r2.mono (agx_sub x1c)
  have r3c := r3.mono (agx_sub x1c)
  have y1c := y1.mono (agx_sub xc)
  have y2c := y2.mono (agx_sub xc)
  have w1c := w1.mono (agx_sub (xb.tr xbc))
  have w2c := w2.mono (agx_sub (xb.tr xbc))
  have hsmO : (Co.prog d).sm ((inferO d (ls, l) free).1, (inferO d (ls, l) free).2) := by
    unfold inferO
    cases hN : inferV d (ls, l) free with
    | none => exact ⟨⟨by simp, fun _ h => by cases h⟩, ⟨by simp, fun _ h => by cases h⟩⟩
    | some r =>
      obtain ⟨q1, _, _, q4⟩ := inferV_some hN
      exact sm_ls hsm (by rw [q4]; exact infL_len q1)
  have hsame : QC F 18 [.agg #[.slice xa_ (inferO d (ls, l) free).1.length (inferO d (ls, l) free).1.length, xs], .agg #[wl, ws]] Hc (.bool true) := glp Hc d _ _ _ _ _ _ y1c y2c w1c w2c hsmO
  refine seq_assoc (seq_reg ?_)
  generalize hbs : (inferV d (ls, l) free).isSome = bs
  simp only [go_sem, binC, beq_self_eq_true, bne_self_eq_false, Bool.not_true, gc_of hxc, gc_of hwc, inBlk_some, oxs, owl, ows]
  refine op_callQ (by simp only [go_sem, binC]; exact hsame) ?_
  simp only [go_sem, binC, Bool.not_true, gc_of hpc, inBlk_some, osv]
  cases bs with
  | false =>
    simp only [go_sem, binC]
    refine seq_cond (t := true) rfl ?_
    simp only [go_sem, binC]
    refine seq_assoc (seq_reg ?_)
    simp only [go_sem, binC, beq_self_eq_true, gc_of hxc, gc_of hwc, inBlk_some, oxs, owl, ows]
    refine op_callQ (by simp only [go_sem, binC]; exact hsame) ?_
    simp only [go_sem, binC]
    exact seq_ret ⟨Or.inr rfl, .bool true, by simp only [go_sem, binC], rfl, rfl⟩
  | true =>
  obtain ⟨r, hN⟩ := Option.isSome_iff_exists.1 hbs
  obtain ⟨hP, hfl, hT, hr⟩ := inferV_some hN
  simp only at hP hfl hT hr
  have hO : inferO d (ls, l) free = (r, l) := by unfold inferO; rw [hN]
  have hrl : r.length = ls.length := by rw [hr]; exact infL_len hP
  have hls4 := progB_le4 hP
  rw [hO] at y1c y2c w1c w2c hxc hsame hsmO
  simp only at y1c y2c w1c w2c hxc hsame hsmO
  rw [hrl] at y1c hxc hsame
  simp only [go_sem, binC]
  refine seq_cond (t := false) rfl ?_
  simp only [go_sem, binC]
  refine seq_skip (seq_assoc (seq_reg ?_))
  simp only [go_sem, binC]
  refine seq_block (wpc_loop ?_)
  suffices h : ∀ (k i : Nat) (e : Env), i + k = free.length → e 3 = ptr H1.length 0 → e 4 = .slice fa free.length free.length → e 7 = ptr H3.length 0 → e 9 = .int .i64 i → Go.Proofs.YtkmghcglmjehcaaI.W F H.length _ e Hc _ from
    h free.length 0 _ (by omega) (by simp only [go_sem, binC]) (by simp only [go_sem, binC]) (by simp only [go_sem, binC]) (by (simp only [go_sem, binC]) <;> rfl)
  intro k
  induction k with
  | zero =>
    intro i e hi e3 e4 e7 e9
    refine lp_step ?_
    refine seq_assoc (seq_reg ?_)
    simp only [go_sem, binC, e4, e9]
    refine seq_cond (t := false) (by simp only [go_sem, binC]; rw [decide_eq_false (by omega)]) ?_
    simp only [go_sem, binC]
    refine seq_exit ?_
    simp only [go_sem, binC, thenX_e, out_e, thenX_n]
    refine seq_reg ?_
    simp only [go_sem, binC, e7, gc_of hxc, inBlk_some, oxs]
    refine op_callQ (by simp only [go_sem, binC]; exact gty Hc d _ _ r l y1c y2c hsmO) ?_
    rw [hT]
    simp only [go_sem, binC, e3, e7, gc_of hxc, gc_of hpc, inBlk_some, oxs, osv]
    refine op_callQ (by simp only [go_sem, binC]; exact gss d Hc _ _ l y2c r2c hsm.2) ?_
    simp only [go_sem, binC]
    exact wpc_ret ⟨Or.inr rfl, .bool true, by simp only [go_sem, binC], rfl, rfl⟩
  | succ k ih =>
    intro i e hi e3 e4 e7 e9
    have hif : i < free.length := by omega
    have hw1 : IntKind.i64.wrap ((i : Int) + 1) = ((i + 1 : Nat) : Int) := by rw [wrap_id (by omega) (by omega)]; omega
    obtain ⟨fb, fo, hfw, hgf⟩ := gcB r3c hif
    simp only [Value.slice.injEq, and_true] at hfw
    subst hfw
    refine lp_step ?_
    refine seq_assoc (seq_reg ?_)
    simp only [go_sem, binC, e4, e9]
    refine seq_cond (t := true) (by simp only [go_sem, binC]; rw [decide_eq_true (by omega)]) ?_
    simp only [go_sem, binC]
    refine seq_skip (seq_block (seq_regD ?_))
    simp only [go_sem, binC, e4, e9]
    refine ⟨⟨by omega, by omega⟩, ?_⟩
    simp only [go_sem, binC, Int.toNat_natCast, Nat.mul_one, hgf]
    by_cases hfr : free[i] = true
    · simp only [go_sem, binC, hfr, Bool.not_true]
      refine wpc_cond (t := false) rfl ?_
      simp only [go_sem, binC]
      refine wpc_skip ?_
      simp only [go_sem, binC, out_n, thenX_n]
      refine wpc_reg ?_
      simp only [go_sem, binC, e9, hw1]
      simp only [go_sem, binC, thenX_n]
      exact ih (i + 1) _ (by omega) (by simp only [go_sem, binC, e3]) (by simp only [go_sem, binC, e4]) (by simp only [go_sem, binC, e7]) (by simp only [go_sem, binC])
    · have hfr' : free[i] = false := by simpa using hfr
      have hkeep : r.getD i (0, 0) = ls.getD i (0, 0) := by rw [hr]; exact infL_keep hP (by omega) (by simp [List.getD, hif, hfr'])
      obtain ⟨b1, o1, h1, g1⟩ := gcP y1c (show i < r.length by omega)
      obtain ⟨b2, o2, h2, g2⟩ := gcP r1c (show i < ls.length by omega)
      simp only [hrl, Value.slice.injEq, and_true] at h1 h2
      subst h1 h2
      have hii : r[i]'(by omega) = ls[i]'(by omega) := by
        have h3 : i < r.length := by omega
        have h4 : i < ls.length := by omega
        simpa [List.getD, h3, h4] using hkeep
      rw [hii] at g1
      simp only [go_sem, binC, hfr', Bool.not_false, e3, e7, e9, gc_of hxc, gc_of hpc, inBlk_some]
      refine ⟨⟨by omega, by omega⟩, ?_⟩
      simp only [go_sem, binC, Int.toNat_natCast, g1, e3, e9, gc_of hpc, inBlk_some]
      refine ⟨⟨by omega, by omega⟩, ?_⟩
      simp only [go_sem, binC, Int.toNat_natCast, g2, eqsV2, decide_true, Bool.not_true]
      refine wpc_cond (t := false) rfl ?_
      simp only [go_sem, binC]
      refine wpc_skip ?_
      simp only [go_sem, binC, out_n, thenX_n]
      refine wpc_reg ?_
      simp only [go_sem, binC, e9, hw1]
      simp only [go_sem, binC, thenX_n]
      exact ih (i + 1) _ (by omega) (by simp only [go_sem, binC, e3]) (by simp only [go_sem, binC, e4]) (by simp only [go_sem, binC, e7]) (by simp only [go_sem, binC])
def c_lawIT : IFn := ⟨1, 64, [.t 2],
 .seq (.reg none [
    ⟨(some 2), none, .mov (.c (.bool false))⟩])
 (.seq (.seq (.reg none [
     ⟨(some 11), none, .mov (.t 0)⟩,
     ⟨(some 12), none, .len (.t 11)⟩,
     ⟨(some 13), none, .bin .gtr (.t 12) (.c (.int .i64 1048576))⟩])
  (.cond (.t 13) (.seq (.reg none [
      ⟨(some 2), none, .mov (.c (.bool true))⟩])
   (.ret)) (.skip)))
 (.seq (.reg none [
    ⟨(some 15), none, .mov (.t 0)⟩,
    ⟨(some 16), none, .call .k (.f 15) [(.t 15)]⟩,
    ⟨(some 14), none, .mov (.t 16)⟩,
    ⟨(some 17), none, .ext (.t 14) 0⟩,
    ⟨(some 18), none, .ext (.t 14) 1⟩,
    ⟨(some 3), none, .new [(.slice none 0 0), (.slice none 0 0)]⟩,
    ⟨none, none, .store 2 (.t 3) (.t 17)⟩,
    ⟨(some 4), none, .mov (.t 18)⟩])
 (.seq (.reg none [
    ⟨(some 20), none, .load true 2 (.t 3)⟩,
    ⟨(some 21), none, .mov (.t 4)⟩,
    ⟨(some 22), none, .call .k (.f 16) [(.t 20), (.t 21)]⟩,
    ⟨(some 19), none, .mov (.t 22)⟩,
    ⟨(some 23), none, .ext (.t 19) 0⟩,
    ⟨(some 24), none, .ext (.t 19) 1⟩,
    ⟨(some 5), none, .new [(.slice none 0 0), (.slice none 0 0)]⟩,
    ⟨none, none, .store 2 (.t 5) (.t 23)⟩,
    ⟨(some 6), none, .mov (.t 24)⟩])
 (.seq (.reg none [
    ⟨(some 26), none, .load true 2 (.t 3)⟩,
    ⟨(some 27), none, .mov (.t 4)⟩,
    ⟨(some 28), none, .call .k (.f 17) [(.t 26), (.t 27)]⟩,
    ⟨(some 25), none, .mov (.t 28)⟩,
    ⟨(some 29), none, .ext (.t 25) 0⟩,
    ⟨(some 30), none, .ext (.t 25) 1⟩,
    ⟨(some 7), none, .new [(.slice none 0 0), (.slice none 0 0)]⟩,
    ⟨none, none, .store 2 (.t 7) (.t 29)⟩,
    ⟨(some 8), none, .mov (.t 30)⟩])
 (.seq (.seq (.reg none [
     ⟨(some 31), none, .mov (.t 8)⟩,
     ⟨(some 32), none, .mov (.t 6)⟩,
     ⟨(some 33), none, .beq true (.t 31) (.t 32)⟩,
     ⟨(some 34), none, .mov (.t 33)⟩,
     ⟨(some 35), (some (34, false)), .load true 2 (.t 7)⟩,
     ⟨(some 36), (some (34, false)), .load true 2 (.t 5)⟩,
     ⟨(some 37), (some (34, false)), .call .q (.f 18) [(.t 35), (.t 36)]⟩,
     ⟨(some 38), (some (34, false)), .un .not (.t 37)⟩,
     ⟨(some 39), none, .pick (.t 34) (.c (.bool true)) (.t 38)⟩,
     ⟨(some 40), none, .mov (.t 39)⟩,
     ⟨(some 41), (some (40, false)), .mov (.t 8)⟩,
     ⟨(some 42), (some (40, false)), .un .not (.t 41)⟩,
     ⟨(some 43), none, .pick (.t 40) (.c (.bool true)) (.t 42)⟩])
  (.cond (.t 43) (.seq (.reg none [
      ⟨(some 44), none, .mov (.t 8)⟩,
      ⟨(some 45), none, .mov (.t 6)⟩,
      ⟨(some 46), none, .beq false (.t 44) (.t 45)⟩,
      ⟨(some 47), none, .mov (.t 46)⟩,
      ⟨(some 48), (some (47, true)), .load true 2 (.t 7)⟩,
      ⟨(some 49), (some (47, true)), .load true 2 (.t 5)⟩,
      ⟨(some 50), (some (47, true)), .call .q (.f 18) [(.t 48), (.t 49)]⟩,
      ⟨(some 51), none, .pick (.t 47) (.t 50) (.c (.bool false))⟩,
      ⟨(some 2), none, .mov (.t 51)⟩])
   (.ret)) (.skip)))
 (.seq (.reg none [
    ⟨(some 53), none, .load true 2 (.t 7)⟩,
    ⟨(some 54), none, .mov (.t 4)⟩,
    ⟨(some 55), none, .call .k (.f 17) [(.t 53), (.t 54)]⟩,
    ⟨(some 52), none, .mov (.t 55)⟩,
    ⟨(some 56), none, .ext (.t 52) 0⟩,
    ⟨(some 57), none, .ext (.t 52) 1⟩,
    ⟨(some 9), none, .new [(.slice none 0 0), (.slice none 0 0)]⟩,
    ⟨none, none, .store 2 (.t 9) (.t 56)⟩,
    ⟨(some 10), none, .mov (.t 57)⟩])
 (.seq (.reg none [
    ⟨(some 58), none, .mov (.t 10)⟩,
    ⟨(some 59), none, .mov (.t 58)⟩,
    ⟨(some 60), (some (59, true)), .load true 2 (.t 9)⟩,
    ⟨(some 61), (some (59, true)), .load true 2 (.t 7)⟩,
    ⟨(some 62), (some (59, true)), .call .q (.f 18) [(.t 60), (.t 61)]⟩,
    ⟨(some 63), none, .pick (.t 59) (.t 62) (.c (.bool false))⟩,
    ⟨(some 2), none, .mov (.t 63)⟩])
 (.ret))))))))⟩
theorem lawIT_ok {F : Nat → Option IFn} {f : Nat} (hf : F f = some c_lawIT) (gd : DrawInfer F 15) (gsp : InferOk F 16) (gim : InferOk F 17) (glp : SamePOk F 18)  : LawB F f := by
  intro H v code hv
  obtain ⟨_, av, rfl, _⟩ := id hv
  refine QC.mk hf rfl ?_
  refine seq_reg ?_
  simp only [go_sem, binC]
  refine seq_assoc (seq_reg ?_)
  simp only [go_sem, binC]
  by_cases hbig : 1048576 < (code.length : Int)
  · refine seq_cond (t := true) (by simp only [go_sem, binC]; rw [decide_eq_true hbig]) ?_
    simp only [go_sem, binC]
    refine seq_assoc (seq_reg ?_)
    simp only [go_sem, binC]
    exact seq_ret ⟨Or.inr rfl, .bool true, by simp only [go_sem, binC], rfl, rfl⟩
  refine seq_cond (t := false) (by simp only [go_sem, binC]; rw [decide_eq_false hbig]) ?_
  simp only [go_sem, binC]
  refine seq_skip (seq_reg ?_)
  simp only [go_sem, binC]
  obtain ⟨d, lv, sv, fv, ls, l, free, H1, k1, x1, r1, r2, hsm, r3, hfn⟩ := gd H _ code hv
  refine op_callK (by simp only [go_sem, binC]; exact k1) ?_
  obtain ⟨hlsn, la, rfl, _⟩ := id r1
  have osv : one sv = true := by obtain ⟨_, a, rfl, _⟩ := r2; rfl
  obtain ⟨_, fa, rfl, _⟩ := id r3
  have hn1 := x1.1
  simp only [go_sem, binC, osv]
  refine ⟨by omega, ?_⟩
  refine wpc_gen fun Ha hHa => ?_
  have xa : AgX [] H1 Ha := hHa ▸ AgX.app [] _ _
  have hpa : Ha[H1.length]? = some ⟨[.slice la ls.length ls.length, sv], 0, 0, false, true⟩ := hHa ▸ get_new0 _ _
  clear hHa k1
  have hna := xa.1
  refine seq_reg ?_
  simp only [go_sem, binC, gc_of hpa, inBlk_some, osv]
  obtain ⟨wl, ws, H2, k2, x2, w1, w2⟩ := gsp Ha d _ sv _ ls l free (r1.mono (agx_sub xa)) (r2.mono (agx_sub xa)) hsm (r3.mono (agx_sub xa))
  refine op_callK (by simp only [go_sem, binC]; exact k2) ?_
  have owl : one wl = true := by obtain ⟨_, a, rfl, _⟩ := w1; rfl
  have ows : one ws = true := by obtain ⟨_, a, rfl, _⟩ := w2; rfl
  have hn2 := x2.1
  simp only [go_sem, binC, owl, ows]
  refine ⟨by omega, ?_⟩
  refine wpc_gen fun Hb hHb => ?_
  have xb : AgX [] H2 Hb := hHb ▸ AgX.app [] _ _
  have hwb : Hb[H2.length]? = some ⟨[wl, ws], 0, 0, false, true⟩ := hHb ▸ get_new0 _ _
  clear hHb k2
  have hnb := xb.1
  have xab := x2.tr xb
  have hpb := xab.get hpa (by simp)
  have x1b := xa.tr xab
  refine seq_reg ?_
  simp only [go_sem, binC, gc_of hpb, inBlk_some, osv]
  obtain ⟨xl, xs, H3, k3, x3, y1, y2⟩ := gim Hb d _ sv _ ls l free (r1.mono (agx_sub x1b)) (r2.mono (agx_sub x1b)) hsm (r3.mono (agx_sub x1b))
  refine op_callK (by simp only [go_sem, binC]; exact k3) ?_
  obtain ⟨_, xa_, rfl, _⟩ := id y1
  have oxs : one xs = true := by obtain ⟨_, a, rfl, _⟩ := y2; rfl
  have hn3 := x3.1
  simp only [go_sem, binC, oxs]
  refine ⟨by omega, ?_⟩
  refine wpc_gen fun Hc hHc => ?_
  have xc : AgX [] H3 Hc := hHc ▸ AgX.app [] _ _
  have hxc : Hc[H3.length]? = some ⟨[.slice xa_ (inferO d (ls, l) free).1.length (inferO d (ls, l) free).1.length, xs], 0, 0, false, true⟩ := hHc ▸ get_new0 _ _
  clear hHc k3
  have hnc := xc.1
  have xbc := x3.tr xc
  have hpc := xbc.get hpb (by simp)
  have hwc := xbc.get hwb (by simp)
  have x1c := x1b.tr xbc
  have r1c := r1.mono (agx_sub x1c)
  have r2c := r2.mono (agx_sub x1c)
  have r3c := r3.mono (agx_sub x1c)
  have y1c := y1.mono (agx_sub xc)
  have y2c := y2.mono (agx_sub xc)
  have w1c := w1.mono (agx_sub (xb.tr xbc))
  have w2c := w2.mono (agx_sub (xb.tr xbc))
  have hsmO : (Co.prog d).sm ((inferO d (ls, l) free).1, (inferO d (ls, l) free).2) := by
    unfold inferO
    cases hN : inferV d (ls, l) free with
    | none => exact ⟨⟨by simp, fun _ h => by cases h⟩, ⟨by simp, fun _ h => by cases h⟩⟩
    | some r =>
      obtain ⟨q1, _, _, q4⟩ := inferV_some hN
      exact sm_ls hsm (by rw [q4]; exact infL_len q1)
  have hsame : QC F 18 [.agg #[.slice xa_ (inferO d (ls, l) free).1.length (inferO d (ls, l) free).1.length, xs], .agg #[wl, ws]] Hc (.bool true) := glp Hc d _ _ _ _ _ _ y1c y2c w1c w2c hsmO
  refine seq_assoc (seq_reg ?_)
  generalize hbs : (inferV d (ls, l) free).isSome = bs
  simp only [go_sem, binC, beq_self_eq_true, bne_self_eq_false, Bool.not_true, gc_of hxc, gc_of hwc, inBlk_some, oxs, owl, ows]
  refine op_callQ (by simp only [go_sem, binC]; exact hsame) ?_
  simp only [go_sem, binC, Bool.not_true, gc_of hpc, inBlk_some, osv]
  cases bs with
  | false =>
    simp only [go_sem, binC]
    refine seq_cond (t := true) rfl ?_
    simp only [go_sem, binC]
    refine seq_assoc (seq_reg ?_)
    simp only [go_sem, binC, beq_self_eq_true, gc_of hxc, gc_of hwc, inBlk_some, oxs, owl, ows]
    refine op_callQ (by simp only [go_sem, binC]; exact hsame) ?_
    simp only [go_sem, binC]
    exact seq_ret ⟨Or.inr rfl, .bool true, by simp only [go_sem, binC], rfl, rfl⟩
  | true =>
  obtain ⟨r, hN⟩ := Option.isSome_iff_exists.1 hbs
  obtain ⟨hP, hfl, hT, hr⟩ := inferV_some hN
  simp only at hP hfl hT hr
  have hO : inferO d (ls, l) free = (r, l) := by unfold inferO; rw [hN]
  have hrl : r.length = ls.length := by rw [hr]; exact infL_len hP
  have hls4 := progB_le4 hP
  rw [hO] at y1c y2c w1c w2c hxc hsame hsmO
  simp only at y1c y2c w1c w2c hxc hsame hsmO
  rw [hrl] at y1c hxc hsame
  simp only [go_sem, binC]
  refine seq_cond (t := false) rfl ?_
  simp only [go_sem, binC]
  refine seq_skip (seq_reg ?_)
  simp only [go_sem, binC, gc_of hxc, inBlk_some, oxs]
  obtain ⟨zl, zs, H4, k4, x4, z1, z2⟩ := gim Hc d _ xs _ r l free y1c y2c hsmO r3c
  have hN2 := inferV_twice hN
  rw [hN2] at k4
  have hO2 : inferO d (r, l) free = (r, l) := by unfold inferO; rw [hN2]
  rw [hO2] at z1 z2
  simp only at z1 z2
  refine op_callK (by simp only [go_sem, binC]; exact k4) ?_
  have ozl : one zl = true := by obtain ⟨_, a, rfl, _⟩ := z1; rfl
  have ozs : one zs = true := by obtain ⟨_, a, rfl, _⟩ := z2; rfl
  have hn4 := x4.1
  simp only [go_sem, binC, ozl, ozs, Option.isSome_some]
  refine ⟨by omega, ?_⟩
  refine wpc_gen fun Hd hHd => ?_
  have xd : AgX [] H4 Hd := hHd ▸ AgX.app [] _ _
  have hzd : Hd[H4.length]? = some ⟨[zl, zs], 0, 0, false, true⟩ := hHd ▸ get_new0 _ _
  clear hHd k4
  have xcd := x4.tr xd
  have hxd := xcd.get hxc (by simp)
  refine seq_reg ?_
  simp only [go_sem, binC, gc_of hzd, gc_of hxd, inBlk_some, oxs, ozl, ozs]
  refine op_callQ (by simp only [go_sem, binC]; exact glp Hd d _ _ _ _ r l (z1.mono (agx_sub xd)) (z2.mono (agx_sub xd)) (y1c.mono (agx_sub xcd)) (y2c.mono (agx_sub xcd)) hsmO) ?_
  simp only [go_sem, binC]
  exact wpc_ret ⟨Or.inr rfl, .bool true, by simp only [go_sem, binC], rfl, rfl⟩
end Go.Proofs.YtkmghcglmjehcaaI
end
section
/- The laws FnInferNone, FnInferAll on the ideal machine. -/
set_option linter.unusedVariables false
set_option linter.unusedSimpArgs false
namespace Go.Proofs.YtkmghcglmjehcaaI
open Go Go.RowKit
attribute [local irreducible] infL
def bls (l : List Bool) : List Value := l.map Value.bool
theorem bls_len (l : List Bool) : (bls l).length = l.length := by simp [bls]
theorem rep_bls (n : Nat) (b : Bool) : (List.replicate n [Value.bool b]).flatten = bls (List.replicate n b) := by
  induction n with
  | zero => rfl
  | succ n ih => rw [List.replicate_succ, List.replicate_succ, List.flatten_cons, ih]; rfl
theorem bls_sl {es et b : Nat} {ap so : Bool} {H : Heap} {l : List Bool} (h : H[b]? = some ⟨bls l, es, et, ap, so⟩) (hl : l.length ≤ 1048576) : SlR Co.bool (vw 0 H) (sli b 0 l.length) l := by
  refine ⟨by omega, _, rfl, .inr ⟨b, 0, rfl, fun i hi => ⟨[.bool l[i]], ?_, rfl⟩⟩⟩
  unfold rng vw
  rw [if_pos (Nat.zero_le _), h]
  simp only [Option.map_some, Nat.zero_add, show Co.bool.w = 1 from rfl, Nat.mul_one]
  rw [if_pos (by rw [bls_len]; omega), List.drop_eq_getElem_cons (by rw [bls_len]; exact hi)]
  simp [bls]
def c_iLabFlows : IFn := ⟨2, 16, [.t 4],
 .seq (.reg none [
    ⟨(some 2), none, .box (.t 0)⟩,
    ⟨(some 3), none, .box (.t 1)⟩,
    ⟨(some 4), none, .mov (.c (.bool false))⟩])
 (.seq (.reg none [
    ⟨(some 5), none, .load true 2 (.t 2)⟩,
    ⟨(some 6), none, .call .q (.f 65) [(.t 5)]⟩,
    ⟨(some 7), none, .mov (.t 6)⟩,
    ⟨(some 8), (some (7, true)), .load true 2 (.t 3)⟩,
    ⟨(some 9), (some (7, true)), .call .q (.f 65) [(.t 8)]⟩,
    ⟨(some 10), none, .pick (.t 7) (.t 9) (.c (.bool false))⟩,
    ⟨(some 11), none, .mov (.t 10)⟩,
    ⟨(some 12), (some (11, true)), .load true 2 (.t 2)⟩,
    ⟨(some 13), (some (11, true)), .load true 2 (.t 3)⟩,
    ⟨(some 14), (some (11, true)), .call .q (.f 66) [(.t 12), (.t 13)]⟩,
    ⟨(some 15), none, .pick (.t 11) (.t 14) (.c (.bool false))⟩,
    ⟨(some 4), none, .mov (.t 15)⟩])
 (.ret))⟩
def FlowsI (F : Nat → Option IFn) (f : Nat) : Prop := ∀ (H : Heap) (a b : Int × Int), labB a = true → labB b = true → QC F f [.agg #[.int .i64 a.1, .int .i64 a.2], .agg #[.int .i64 b.1, .int .i64 b.2]] H (.bool (flowsB a b))
theorem p2_mk {V : Vw} {a : Int × Int} (h1 : RgI a.1) (h2 : RgI a.2) : Rd Co.p2 true V (.agg #[.int .i64 a.1, .int .i64 a.2]) a := ⟨_, rfl, [.int .i64 a.1], [.int .i64 a.2], rfl, ⟨rfl, h1⟩, ⟨rfl, h2⟩⟩
theorem iLabFlows_ok {F : Nat → Option IFn} {f : Nat} (hf : F f = some c_iLabFlows) (gl : LabOk F 65) (gf : IFlows F 66) : FlowsI F f := by
  intro H a b ha hb
  have qa := lab_rg1 ha
  have qb := lab_rg1 hb
  refine QC.mk hf rfl ?_
  refine seq_reg ?_
  simp only [go_sem, binC]
  refine seq_reg ?_
  simp only [go_sem, binC, inBlk_some]
  refine op_callQ (by simp only [go_sem, binC]; exact gl _ _ a (p2_mk qa.1 qa.2)) ?_
  rw [ha]
  simp only [go_sem, binC, inBlk_some]
  refine op_callQ (by simp only [go_sem, binC]; exact gl _ _ b (p2_mk qb.1 qb.2)) ?_
  rw [hb]
  simp only [go_sem, binC, inBlk_some]
  refine op_callQ (by simp only [go_sem, binC]; exact gf _ a b ha hb) ?_
  simp only [go_sem, binC]
  exact wpc_ret ⟨Or.inr rfl, .bool (flowsB a b), by simp only [go_sem, binC], rfl, rfl⟩
def c_lawIN : IFn := ⟨1, 75, [.t 2],
 .seq (.reg none [
    ⟨(some 2), none, .mov (.c (.bool false))⟩])
 (.seq (.seq (.reg none [
     ⟨(some 11), none, .mov (.t 0)⟩,
     ⟨(some 12), none, .len (.t 11)⟩,
     ⟨(some 13), none, .bin .gtr (.t 12) (.c (.int .i64 1048576))⟩])
  (.cond (.t 13) (.seq (.reg none [
      ⟨(some 2), none, .mov (.c (.bool true))⟩])
   (.ret)) (.skip)))
 (.seq (.reg none [
    ⟨(some 15), none, .mov (.t 0)⟩,
    ⟨(some 16), none, .call .k (.f 15) [(.t 15)]⟩,
    ⟨(some 14), none, .mov (.t 16)⟩,
    ⟨(some 17), none, .ext (.t 14) 0⟩,
    ⟨(some 18), none, .ext (.t 14) 1⟩,
    ⟨(some 3), none, .new [(.slice none 0 0), (.slice none 0 0)]⟩,
    ⟨none, none, .store 2 (.t 3) (.t 17)⟩,
    ⟨(some 4), none, .mov (.t 18)⟩])
 (.seq (.reg none [
    ⟨(some 20), none, .load true 2 (.t 3)⟩,
    ⟨(some 21), none, .mov (.t 4)⟩,
    ⟨(some 22), none, .call .k (.f 16) [(.t 20), (.t 21)]⟩,
    ⟨(some 19), none, .mov (.t 22)⟩,
    ⟨(some 23), none, .ext (.t 19) 0⟩,
    ⟨(some 24), none, .ext (.t 19) 1⟩,
    ⟨(some 5), none, .new [(.slice none 0 0), (.slice none 0 0)]⟩,
    ⟨none, none, .store 2 (.t 5) (.t 23)⟩,
    ⟨(some 6), none, .mov (.t 24)⟩])
 (.seq (.reg none [
    ⟨(some 26), none, .load true 2 (.t 3)⟩,
    ⟨(some 27), none, .mov (.t 4)⟩,
    ⟨(some 28), none, .call .k (.f 17) [(.t 26), (.t 27)]⟩,
    ⟨(some 25), none, .mov (.t 28)⟩,
    ⟨(some 29), none, .ext (.t 25) 0⟩,
    ⟨(some 30), none, .ext (.t 25) 1⟩,
    ⟨(some 7), none, .new [(.slice none 0 0), (.slice none 0 0)]⟩,
    ⟨none, none, .store 2 (.t 7) (.t 29)⟩,
    ⟨(some 8), none, .mov (.t 30)⟩])
 (.seq (.seq (.reg none [
     ⟨(some 31), none, .mov (.t 8)⟩,
     ⟨(some 32), none, .mov (.t 6)⟩,
     ⟨(some 33), none, .beq true (.t 31) (.t 32)⟩,
     ⟨(some 34), none, .mov (.t 33)⟩,
     ⟨(some 35), (some (34, false)), .load true 2 (.t 7)⟩,
     ⟨(some 36), (some (34, false)), .load true 2 (.t 5)⟩,
     ⟨(some 37), (some (34, false)), .call .q (.f 18) [(.t 35), (.t 36)]⟩,
     ⟨(some 38), (some (34, false)), .un .not (.t 37)⟩,
     ⟨(some 39), none, .pick (.t 34) (.c (.bool true)) (.t 38)⟩,
     ⟨(some 40), none, .mov (.t 39)⟩,
     ⟨(some 41), (some (40, false)), .load true 2 (.t 3)⟩,
     ⟨(some 42), (some (40, false)), .call .q (.f 19) [(.t 41)]⟩,
     ⟨(some 43), (some (40, false)), .un .not (.t 42)⟩,
     ⟨(some 44), none, .pick (.t 40) (.c (.bool true)) (.t 43)⟩])
  (.cond (.t 44) (.seq (.reg none [
      ⟨(some 45), none, .mov (.t 8)⟩,
      ⟨(some 46), none, .mov (.t 6)⟩,
      ⟨(some 47), none, .beq false (.t 45) (.t 46)⟩,
      ⟨(some 48), none, .mov (.t 47)⟩,
      ⟨(some 49), (some (48, true)), .load true 2 (.t 7)⟩,
      ⟨(some 50), (some (48, true)), .load true 2 (.t 5)⟩,
      ⟨(some 51), (some (48, true)), .call .q (.f 18) [(.t 49), (.t 50)]⟩,
      ⟨(some 52), none, .pick (.t 48) (.t 51) (.c (.bool false))⟩,
      ⟨(some 2), none, .mov (.t 52)⟩])
   (.ret)) (.skip)))
 (.seq (.regW 10 [
    ⟨(some 54), none, .load true 2 (.t 3)⟩,
    ⟨(some 55), none, .fad 0 (.t 3)⟩,
    ⟨(some 56), none, .load false 1 (.t 55)⟩,
    ⟨(some 57), none, .len (.t 56)⟩,
    ⟨(some 58), none, .mks 1 4 1 [(.bool false)] (.t 57) (.t 57)⟩,
    ⟨(some 59), none, .call .k (.f 17) [(.t 54), (.t 58)]⟩,
    ⟨(some 53), none, .mov (.t 59)⟩,
    ⟨(some 60), none, .ext (.t 53) 0⟩,
    ⟨(some 61), none, .ext (.t 53) 1⟩,
    ⟨(some 9), none, .new [(.slice none 0 0), (.slice none 0 0)]⟩,
    ⟨none, none, .store 2 (.t 9) (.t 60)⟩,
    ⟨(some 10), none, .mov (.t 61)⟩])
 (.seq (.reg none [
    ⟨(some 62), none, .mov (.t 10)⟩,
    ⟨(some 63), none, .load true 2 (.t 3)⟩,
    ⟨(some 64), none, .call .q (.f 20) [(.t 63)]⟩,
    ⟨(some 65), none, .beq false (.t 62) (.t 64)⟩,
    ⟨(some 66), none, .mov (.t 65)⟩,
    ⟨(some 67), (some (66, true)), .mov (.t 10)⟩,
    ⟨(some 68), (some (66, true)), .un .not (.t 67)⟩,
    ⟨(some 69), (some (66, true)), .mov (.t 68)⟩,
    ⟨(some 70), (some (69, false)), .load true 2 (.t 9)⟩,
    ⟨(some 71), (some (69, false)), .load true 2 (.t 3)⟩,
    ⟨(some 72), (some (69, false)), .call .q (.f 18) [(.t 70), (.t 71)]⟩,
    ⟨(some 73), (some (66, true)), .pick (.t 69) (.c (.bool true)) (.t 72)⟩,
    ⟨(some 74), none, .pick (.t 66) (.t 73) (.c (.bool false))⟩,
    ⟨(some 2), none, .mov (.t 74)⟩])
 (.ret))))))))⟩
theorem lawIN_ok {F : Nat → Option IFn} {f : Nat} (hf : F f = some c_lawIN) (gd : DrawInfer F 15) (gsp : InferOk F 16) (gim : InferOk F 17) (glp : SamePOk F 18) (gps : ProgOk F 19) (gty : TypeP F 20) : LawB F f := by
  intro H v code hv
  obtain ⟨_, av, rfl, _⟩ := id hv
  refine QC.mk hf rfl ?_
  refine seq_reg ?_
  simp only [go_sem, binC]
  refine seq_assoc (seq_reg ?_)
  simp only [go_sem, binC]
  by_cases hbig : 1048576 < (code.length : Int)
  · refine seq_cond (t := true) (by simp only [go_sem, binC]; rw [decide_eq_true hbig]) ?_
    simp only [go_sem, binC]
    refine seq_assoc (seq_reg ?_)
    simp only [go_sem, binC]
    exact seq_ret ⟨Or.inr rfl, .bool true, by simp only [go_sem, binC], rfl, rfl⟩
  refine seq_cond (t := false) (by simp only [go_sem, binC]; rw [decide_eq_false hbig]) ?_
  simp only [go_sem, binC]
  refine seq_skip (seq_reg ?_)
  simp only [go_sem, binC]
  obtain ⟨d, lv, sv, fv, ls, l, free, H1, k1, x1, r1, r2, hsm, r3, hfn⟩ := gd H _ code hv
  refine op_callK (by simp only [go_sem, binC]; exact k1) ?_
  obtain ⟨hlsn, la, rfl, _⟩ := id r1
  have osv : one sv = true := by obtain ⟨_, a, rfl, _⟩ := r2; rfl
  obtain ⟨_, fa, rfl, _⟩ := id r3
  have hn1 := x1.1
  simp only [go_sem, binC, osv]
  refine ⟨by omega, ?_⟩
  refine wpc_gen fun Ha hHa => ?_
  have xa : AgX [] H1 Ha := hHa ▸ AgX.app [] _ _
  have hpa : Ha[H1.length]? = some ⟨[.slice la ls.length ls.length, sv], 0, 0, false, true⟩ := hHa ▸ get_new0 _ _
  clear hHa k1
  have hna := xa.1
  refine seq_reg ?_
  simp only [go_sem, binC, gc_of hpa, inBlk_some, osv]
  obtain ⟨wl, ws, H2, k2, x2, w1, w2⟩ := gsp Ha d _ sv _ ls l free (r1.mono (agx_sub xa)) (r2.mono (agx_sub xa)) hsm (r3.mono (agx_sub xa))
  refine op_callK (by simp only [go_sem, binC]; exact k2) ?_
  have owl : one wl = true := by obtain ⟨_, a, rfl, _⟩ := w1; rfl
  have ows : one ws = true := by obtain ⟨_, a, rfl, _⟩ := w2; rfl
  have hn2 := x2.1
  simp only [go_sem, binC, owl, ows]
  refine ⟨by omega, ?_⟩
  refine wpc_gen fun Hb hHb => ?_
  have xb : AgX [] H2 Hb := hHb ▸ AgX.app [] _ _
  have hwb : Hb[H2.length]? = some ⟨[wl, ws], 0, 0, false, true⟩ := hHb ▸ get_new0 _ _
  clear hHb k2
  have hnb := xb.1
  have xab := x2.tr xb
  have hpb := xab.get hpa (by simp)
  have x1b := xa.tr xab
  refine seq_reg ?_
  simp only [go_sem, binC, gc_of hpb, inBlk_some, osv]
  obtain ⟨xl, xs, H3, k3, x3, y1, y2⟩ := gim Hb d _ sv _ ls l free (r1.mono (agx_sub x1b)) (r2.mono (agx_sub x1b)) hsm (r3.mono (agx_sub x1b))
  refine op_callK (by simp only [go_sem, binC]; exact k3) ?_
  obtain ⟨_, xa_, rfl, _⟩ := id y1
  have oxs : one xs = true := by obtain ⟨_, a, rfl, _⟩ := y2; rfl
  have hn3 := x3.1
  simp only [go_sem, binC, oxs]
  refine ⟨by omega, ?_⟩
  refine wpc_gen fun Hc hHc => ?_
  have xc : AgX [] H3 Hc := hHc ▸ AgX.app [] _ _
  have hxc : Hc[H3.length]? = some ⟨[.slice xa_ (inferO d (ls, l) free).1.length (inferO d (ls, l) free).1.length, xs], 0, 0, false, true⟩ := hHc ▸ get_new0 _ _
  clear hHc k3
  have hnc := xc.1
  have xbc := x3.tr xc
  have hpc := xbc.get hpb (by simp)
  have hwc := xbc.get hwb (by simp)
  have x1c := x1b.tr xbc
  have r1c := r1.mono (agx_sub x1c)
  have r2c := r2.mono (agx_sub x1c)
  have r3c := r3.mono (agx_sub x1c)
  have y1c := y1.mono (agx_sub xc)
  have y2c := y2.mono (agx_sub xc)
  have w1c := w1.mono (agx_sub (xb.tr xbc))
  have w2c := w2.mono (agx_sub (xb.tr xbc))
  have hsmO : (Co.prog d).sm ((inferO d (ls, l) free).1, (inferO d (ls, l) free).2) := by
    unfold inferO
    cases hN : inferV d (ls, l) free with
    | none => exact ⟨⟨by simp, fun _ h => by cases h⟩, ⟨by simp, fun _ h => by cases h⟩⟩
    | some r =>
      obtain ⟨q1, _, _, q4⟩ := inferV_some hN
      exact sm_ls hsm (by rw [q4]; exact infL_len q1)
  have hsame : QC F 18 [.agg #[.slice xa_ (inferO d (ls, l) free).1.length (inferO d (ls, l) free).1.length, xs], .agg #[wl, ws]] Hc (.bool true) := glp Hc d _ _ _ _ _ _ y1c y2c w1c w2c hsmO
  refine seq_assoc (seq_reg ?_)
  generalize hbs : (inferV d (ls, l) free).isSome = bs
  simp only [go_sem, binC, beq_self_eq_true, bne_self_eq_false, Bool.not_true, gc_of hxc, gc_of hwc, inBlk_some, oxs, owl, ows]
  refine op_callQ (by simp only [go_sem, binC]; exact hsame) ?_
  simp only [go_sem, binC, Bool.not_true, gc_of hpc, inBlk_some, osv]
  refine op_callQ (by simp only [go_sem, binC]; exact gps Hc d _ (ls, l) (prog_rd r1c r2c) hsm) ?_
  cases hP : progB d (ls, l) with
  | false =>
    simp only [go_sem, binC]
    refine seq_cond (t := true) rfl ?_
    simp only [go_sem, binC]
    refine seq_assoc (seq_reg ?_)
    simp only [go_sem, binC, beq_self_eq_true, gc_of hxc, gc_of hwc, inBlk_some, oxs, owl, ows]
    refine op_callQ (by simp only [go_sem, binC]; exact hsame) ?_
    simp only [go_sem, binC]
    exact seq_ret ⟨Or.inr rfl, .bool true, by simp only [go_sem, binC], rfl, rfl⟩
  | true =>
  simp only [go_sem, binC]
  refine seq_cond (t := false) rfl ?_
  simp only [go_sem, binC]
  have hls4 := progB_le4 hP
  refine seq_skip (seq_regW ?_)
  simp only [go_sem, binC, gc_of hpc, inBlk_some, osv]
  refine ⟨by omega, ?_⟩
  simp only [go_sem, binC, Int.toNat_natCast, rep_bls]
  generalize hHd : Hc ++ [(⟨bls (List.replicate ls.length false), 1, 4, true, true⟩ : Blk)] = Hd
  have xd : AgX [] Hc Hd := hHd ▸ AgX.app [] _ _
  have hbd : Hd[Hc.length]? = some ⟨bls (List.replicate ls.length false), 1, 4, true, true⟩ := hHd ▸ get_new0 _ _
  clear hHd
  have hfd := bls_sl hbd (by rw [List.length_replicate]; omega)
  rw [List.length_replicate] at hfd
  have x1d := x1c.tr xd
  have hnd := xd.1
  obtain ⟨zl, zs, H4, k4, x4, z1, z2⟩ := gim Hd d _ sv _ ls l (List.replicate ls.length false) (r1.mono (agx_sub x1d)) (r2.mono (agx_sub x1d)) hsm hfd
  have hN2 := inferV_none (free := List.replicate ls.length false) (ls := ls) (l := l) (by simp) (fun i => by
    rw [List.getD_eq_getElem?_getD, List.getElem?_replicate]
    split <;> rfl)
  refine op_callK (by simp only [go_sem, binC]; exact k4) ?_
  have ozl : one zl = true := by obtain ⟨_, a, rfl, _⟩ := z1; rfl
  have ozs : one zs = true := by obtain ⟨_, a, rfl, _⟩ := z2; rfl
  have hn4 := x4.1
  simp only [go_sem, binC, ozl, ozs]
  refine ⟨by omega, ?_⟩
  refine wpc_gen fun He hHe => ?_
  have xe : AgX [] H4 He := hHe ▸ AgX.app [] _ _
  have hze : He[H4.length]? = some ⟨[zl, zs], 0, 0, false, true⟩ := hHe ▸ get_new0 _ _
  clear hHe k4
  have xde := x4.tr xe
  have x1e := x1d.tr xde
  have hpe := (xd.tr xde).get hpc (by simp)
  refine seq_reg ?_
  simp only [go_sem, binC, gc_of hpe, inBlk_some, osv]
  refine op_callQ (by simp only [go_sem, binC]; exact gty He d _ _ ls l (r1.mono (agx_sub x1e)) (r2.mono (agx_sub x1e)) hsm) ?_
  cases hT : typeP d (ls, l) with
  | false =>
    rw [if_neg (by rw [hT]; simp)] at hN2
    rw [hN2]
    simp only [go_sem, binC, Option.isSome_none, beq_self_eq_true, Bool.not_false]
    exact wpc_ret ⟨Or.inr rfl, .bool true, by simp only [go_sem, binC], rfl, rfl⟩
  | true =>
    rw [if_pos hT] at hN2
    have hO2 : inferO d (ls, l) (List.replicate ls.length false) = (ls, l) := by unfold inferO; rw [hN2]
    rw [hO2] at z1 z2
    simp only at z1 z2
    rw [hN2]
    simp only [go_sem, binC, Option.isSome_some, beq_self_eq_true, Bool.not_true, gc_of hze, gc_of hpe, inBlk_some, osv, ozl, ozs]
    refine op_callQ (by simp only [go_sem, binC]; exact glp He d _ _ _ _ ls l (z1.mono (agx_sub xe)) (z2.mono (agx_sub xe)) (r1.mono (agx_sub x1e)) (r2.mono (agx_sub x1e)) hsm) ?_
    simp only [go_sem, binC]
    exact wpc_ret ⟨Or.inr rfl, .bool true, by simp only [go_sem, binC], rfl, rfl⟩
def c_lawIA : IFn := ⟨1, 80, [.t 2],
 .seq (.reg none [
    ⟨(some 2), none, .mov (.c (.bool false))⟩])
 (.seq (.seq (.reg none [
     ⟨(some 10), none, .mov (.t 0)⟩,
     ⟨(some 11), none, .len (.t 10)⟩,
     ⟨(some 12), none, .bin .gtr (.t 11) (.c (.int .i64 1048576))⟩])
  (.cond (.t 12) (.seq (.reg none [
      ⟨(some 2), none, .mov (.c (.bool true))⟩])
   (.ret)) (.skip)))
 (.seq (.reg none [
    ⟨(some 14), none, .mov (.t 0)⟩,
    ⟨(some 15), none, .call .k (.f 15) [(.t 14)]⟩,
    ⟨(some 13), none, .mov (.t 15)⟩,
    ⟨(some 16), none, .ext (.t 13) 0⟩,
    ⟨(some 17), none, .ext (.t 13) 1⟩,
    ⟨(some 3), none, .new [(.slice none 0 0), (.slice none 0 0)]⟩,
    ⟨none, none, .store 2 (.t 3) (.t 16)⟩,
    ⟨(some 4), none, .mov (.t 17)⟩])
 (.seq (.reg none [
    ⟨(some 19), none, .load true 2 (.t 3)⟩,
    ⟨(some 20), none, .mov (.t 4)⟩,
    ⟨(some 21), none, .call .k (.f 16) [(.t 19), (.t 20)]⟩,
    ⟨(some 18), none, .mov (.t 21)⟩,
    ⟨(some 22), none, .ext (.t 18) 0⟩,
    ⟨(some 23), none, .ext (.t 18) 1⟩,
    ⟨(some 5), none, .new [(.slice none 0 0), (.slice none 0 0)]⟩,
    ⟨none, none, .store 2 (.t 5) (.t 22)⟩,
    ⟨(some 6), none, .mov (.t 23)⟩])
 (.seq (.reg none [
    ⟨(some 25), none, .load true 2 (.t 3)⟩,
    ⟨(some 26), none, .mov (.t 4)⟩,
    ⟨(some 27), none, .call .k (.f 17) [(.t 25), (.t 26)]⟩,
    ⟨(some 24), none, .mov (.t 27)⟩,
    ⟨(some 28), none, .ext (.t 24) 0⟩,
    ⟨(some 29), none, .ext (.t 24) 1⟩,
    ⟨(some 7), none, .new [(.slice none 0 0), (.slice none 0 0)]⟩,
    ⟨none, none, .store 2 (.t 7) (.t 28)⟩,
    ⟨(some 8), none, .mov (.t 29)⟩])
 (.seq (.seq (.reg none [
     ⟨(some 30), none, .mov (.t 8)⟩,
     ⟨(some 31), none, .mov (.t 6)⟩,
     ⟨(some 32), none, .beq true (.t 30) (.t 31)⟩,
     ⟨(some 33), none, .mov (.t 32)⟩,
     ⟨(some 34), (some (33, false)), .load true 2 (.t 7)⟩,
     ⟨(some 35), (some (33, false)), .load true 2 (.t 5)⟩,
     ⟨(some 36), (some (33, false)), .call .q (.f 18) [(.t 34), (.t 35)]⟩,
     ⟨(some 37), (some (33, false)), .un .not (.t 36)⟩,
     ⟨(some 38), none, .pick (.t 33) (.c (.bool true)) (.t 37)⟩,
     ⟨(some 39), none, .mov (.t 38)⟩,
     ⟨(some 40), (some (39, false)), .load true 2 (.t 3)⟩,
     ⟨(some 41), (some (39, false)), .call .q (.f 22) [(.t 40)]⟩,
     ⟨(some 42), (some (39, false)), .un .not (.t 41)⟩,
     ⟨(some 43), none, .pick (.t 39) (.c (.bool true)) (.t 42)⟩,
     ⟨(some 44), none, .mov (.t 43)⟩,
     ⟨(some 45), (some (44, false)), .mov (.t 4)⟩,
     ⟨(some 46), (some (44, false)), .len (.t 45)⟩,
     ⟨(some 47), (some (44, false)), .fad 0 (.t 3)⟩,
     ⟨(some 48), (some (44, false)), .load false 1 (.t 47)⟩,
     ⟨(some 49), (some (44, false)), .len (.t 48)⟩,
     ⟨(some 50), (some (44, false)), .bin .neq (.t 46) (.t 49)⟩,
     ⟨(some 51), none, .pick (.t 44) (.c (.bool true)) (.t 50)⟩])
  (.cond (.t 51) (.seq (.reg none [
      ⟨(some 52), none, .mov (.t 8)⟩,
      ⟨(some 53), none, .mov (.t 6)⟩,
      ⟨(some 54), none, .beq false (.t 52) (.t 53)⟩,
      ⟨(some 55), none, .mov (.t 54)⟩,
      ⟨(some 56), (some (55, true)), .load true 2 (.t 7)⟩,
      ⟨(some 57), (some (55, true)), .load true 2 (.t 5)⟩,
      ⟨(some 58), (some (55, true)), .call .q (.f 18) [(.t 56), (.t 57)]⟩,
      ⟨(some 59), none, .pick (.t 55) (.t 58) (.c (.bool false))⟩,
      ⟨(some 2), none, .mov (.t 59)⟩])
   (.ret)) (.skip)))
 (.seq (.seq (.reg none [
     ⟨(some 9), none, .mov (.c (.int .i64 0))⟩])
  (.block 0 (.loop (.seq (.seq (.reg none [
        ⟨(some 60), none, .mov (.t 9)⟩,
        ⟨(some 61), none, .fad 0 (.t 7)⟩,
        ⟨(some 62), none, .load false 1 (.t 61)⟩,
        ⟨(some 63), none, .len (.t 62)⟩,
        ⟨(some 64), none, .bin .lss (.t 60) (.t 63)⟩])
     (.cond (.t 64) (.skip) (.exit 0)))
    (.seq (.block 1 (.seq (.reg (some 10) [
         ⟨(some 67), none, .fad 0 (.t 7)⟩,
         ⟨(some 68), none, .load false 1 (.t 67)⟩,
         ⟨(some 69), none, .mov (.t 9)⟩,
         ⟨(some 70), none, .iad 2 (.t 68) (.t 69)⟩,
         ⟨(some 71), none, .load true 2 (.t 70)⟩,
         ⟨(some 72), none, .fad 0 (.t 3)⟩,
         ⟨(some 73), none, .load false 1 (.t 72)⟩,
         ⟨(some 74), none, .mov (.t 9)⟩,
         ⟨(some 75), none, .iad 2 (.t 73) (.t 74)⟩,
         ⟨(some 76), none, .load true 2 (.t 75)⟩,
         ⟨(some 77), none, .call .q (.f 23) [(.t 71), (.t 76)]⟩,
         ⟨(some 78), none, .un .not (.t 77)⟩])
      (.cond (.t 78) (.seq (.reg none [
          ⟨(some 2), none, .mov (.c (.bool false))⟩])
       (.ret)) (.skip))))
    (.reg none [
      ⟨(some 65), none, .mov (.t 9)⟩,
      ⟨(some 66), none, .bin .add (.t 65) (.c (.int .i64 1))⟩,
      ⟨(some 9), none, .mov (.t 66)⟩]))))))
 (.seq (.reg none [
    ⟨(some 79), none, .mov (.t 8)⟩,
    ⟨(some 2), none, .mov (.t 79)⟩])
 (.ret))))))))⟩
theorem lawIA_ok {F : Nat → Option IFn} {f : Nat} (hf : F f = some c_lawIA) (gd : DrawInfer F 15) (gsp : InferOk F 16) (gim : InferOk F 17) (glp : SamePOk F 18) (gts : TypeP F 22) (gfl : FlowsI F 23) : LawB F f := by
  intro H v code hv
  obtain ⟨_, av, rfl, _⟩ := id hv
  refine QC.mk hf rfl ?_
  refine seq_reg ?_
  simp only [go_sem, binC]
  refine seq_assoc (seq_reg ?_)
  simp only [go_sem, binC]
  by_cases hbig : 1048576 < (code.length : Int)
  · refine seq_cond (t := true) (by simp only [go_sem, binC]; rw [decide_eq_true hbig]) ?_
    simp only [go_sem, binC]
    refine seq_assoc (seq_reg ?_)
    simp only [go_sem, binC]
    exact seq_ret ⟨Or.inr rfl, .bool true, by simp only [go_sem, binC], rfl, rfl⟩
  refine seq_cond (t := false) (by simp only [go_sem, binC]; rw [decide_eq_false hbig]) ?_
  simp only [go_sem, binC]
  refine seq_skip (seq_reg ?_)
  simp only [go_sem, binC]
  obtain ⟨d, lv, sv, fv, ls, l, free, H1, k1, x1, r1, r2, hsm, r3, hfn⟩ := gd H _ code hv
  refine op_callK (by simp only [go_sem, binC]; exact k1) ?_
  obtain ⟨hlsn, la, rfl, _⟩ := id r1
  have osv : one sv = true := by obtain ⟨_, a, rfl, _⟩ := r2; rfl
  obtain ⟨_, fa, rfl, _⟩ := id r3
  have hn1 := x1.1
  simp only [go_sem, binC, osv]
  refine ⟨by omega, ?_⟩
  refine wpc_gen fun Ha hHa => ?_
  have xa : AgX [] H1 Ha := hHa ▸ AgX.app [] _ _
  have hpa : Ha[H1.length]? = some ⟨[.slice la ls.length ls.length, sv], 0, 0, false, true⟩ := hHa ▸ get_new0 _ _
  clear hHa k1
  have hna := xa.1
  refine seq_reg ?_
  simp only [go_sem, binC, gc_of hpa, inBlk_some, osv]
  obtain ⟨wl, ws, H2, k2, x2, w1, w2⟩ := gsp Ha d _ sv _ ls l free (r1.mono (agx_sub xa)) (r2.mono (agx_sub xa)) hsm (r3.mono (agx_sub xa))
  refine op_callK (by simp only [go_sem, binC]; exact k2) ?_
  have owl : one wl = true := by obtain ⟨_, a, rfl, _⟩ := w1; rfl
  have ows : one ws = true := by obtain ⟨_, a, rfl, _⟩ := w2; rfl
  have hn2 := x2.1
  simp only [go_sem, binC, owl, ows]
  refine ⟨by omega, ?_⟩
  refine wpc_gen fun Hb hHb => ?_
  have xb : AgX [] H2 Hb := hHb ▸ AgX.app [] _ _
  have hwb : Hb[H2.length]? = some ⟨[wl, ws], 0, 0, false, true⟩ := hHb ▸ get_new0 _ _
  clear hHb k2
  have hnb := xb.1
  have xab := x2.tr xb
  have hpb := xab.get hpa (by simp)
  have x1b := xa.tr xab
  refine seq_reg ?_
  simp only [go_sem, binC, gc_of hpb, inBlk_some, osv]
  obtain ⟨xl, xs, H3, k3, x3, y1, y2⟩ := gim Hb d _ sv _ ls l free (r1.mono (agx_sub x1b)) (r2.mono (agx_sub x1b)) hsm (r3.mono (agx_sub x1b))
  refine op_callK (by simp only [go_sem, binC]; exact k3) ?_
  obtain ⟨_, xa_, rfl, _⟩ := id y1
  have oxs : one xs = true := by obtain ⟨_, a, rfl, _⟩ := y2; rfl
  have hn3 := x3.1
  simp only [go_sem, binC, oxs]
  refine ⟨by omega, ?_⟩
  refine wpc_gen fun Hc hHc => ?_
  have xc : AgX [] H3 Hc := hHc ▸ AgX.app [] _ _
  have hxc : Hc[H3.length]? = some ⟨[.slice xa_ (inferO d (ls, l) free).1.length (inferO d (ls, l) free).1.length, xs], 0, 0, false, true⟩ := hHc ▸ get_new0 _ _
  clear hHc k3
  have hnc := xc.1
  have xbc := x3.tr xc
  have hpc := xbc.get hpb (by simp)
  have hwc := xbc.get hwb (by simp)
  have x1c := x1b.tr xbc
  have r1c := r1.mono (agx_sub x1c)
  have r2c := r2.mono (agx_sub x1c)
  have r3c := r3.mono (agx_sub x1c)
  have y1c := y1.mono (agx_sub xc)
  have y2c := y2.mono (agx_sub xc)
  have w1c := w1.mono (agx_sub (xb.tr xbc))
  have w2c := w2.mono (agx_sub (xb.tr xbc))
  have hsmO : (Co.prog d).sm ((inferO d (ls, l) free).1, (inferO d (ls, l) free).2) := by
    unfold inferO
    cases hN : inferV d (ls, l) free with
    | none => exact ⟨⟨by simp, fun _ h => by cases h⟩, ⟨by simp, fun _ h => by cases h⟩⟩
    | some r =>
      obtain ⟨q1, _, _, q4⟩ := inferV_some hN
      exact sm_ls hsm (by rw [q4]; exact infL_len q1)
  have hsame : QC F 18 [.agg #[.slice xa_ (inferO d (ls, l) free).1.length (inferO d (ls, l) free).1.length, xs], .agg #[wl, ws]] Hc (.bool true) := glp Hc d _ _ _ _ _ _ y1c y2c w1c w2c hsmO
  refine seq_assoc (seq_reg ?_)
  generalize hbs : (inferV d (ls, l) free).isSome = bs
  simp only [go_sem, binC, beq_self_eq_true, bne_self_eq_false, Bool.not_true, gc_of hxc, gc_of hwc, inBlk_some, oxs, owl, ows]
  refine op_callQ (by simp only [go_sem, binC]; exact hsame) ?_
  simp only [go_sem, binC, Bool.not_true, gc_of hpc, inBlk_some, osv]
  refine op_callQ (by simp only [go_sem, binC]; exact gts Hc d _ _ ls l r1c r2c hsm) ?_
  cases hT : typeP d (ls, l) with
  | false =>
    simp only [go_sem, binC]
    refine seq_cond (t := true) rfl ?_
    simp only [go_sem, binC]
    refine seq_assoc (seq_reg ?_)
    simp only [go_sem, binC, beq_self_eq_true, gc_of hxc, gc_of hwc, inBlk_some, oxs, owl, ows]
    refine op_callQ (by simp only [go_sem, binC]; exact hsame) ?_
    simp only [go_sem, binC]
    exact seq_ret ⟨Or.inr rfl, .bool true, by simp only [go_sem, binC], rfl, rfl⟩
  | true =>
  have hP := (typeP_iff.1 hT).1
  simp only [go_sem, binC, gc_of hpc, inBlk_some]
  by_cases hfl : free.length = ls.length
  case neg =>
    simp only [go_sem, binC, bne_t (show ¬ ((free.length : Int) = ls.length) by omega)]
    refine seq_cond (t := true) rfl ?_
    simp only [go_sem, binC]
    refine seq_assoc (seq_reg ?_)
    simp only [go_sem, binC, beq_self_eq_true, gc_of hxc, gc_of hwc, inBlk_some, oxs, owl, ows]
    refine op_callQ (by simp only [go_sem, binC]; exact hsame) ?_
    simp only [go_sem, binC]
    exact seq_ret ⟨Or.inr rfl, .bool true, by simp only [go_sem, binC], rfl, rfl⟩
  simp only [go_sem, binC, bne_f (show ((free.length : Int) = ls.length) by omega)]
  refine seq_cond (t := false) rfl ?_
  simp only [go_sem, binC]
  obtain ⟨r, hN, hle⟩ := inferV_above hP hfl rfl (fun _ _ _ => rfl) hT
  have hrl : r.length = ls.length := by rw [← hle.1]
  have hls4 := progB_le4 hP
  rw [hN] at hbs
  simp only [Option.isSome_some] at hbs
  subst hbs
  have hO : inferO d (ls, l) free = (r, l) := by unfold inferO; rw [hN]
  rw [hO] at y1c y2c w1c w2c hxc hsame hsmO
  simp only at y1c y2c w1c w2c hxc hsame hsmO
  rw [hrl] at y1c hxc hsame
  refine seq_skip (seq_assoc (seq_reg ?_))
  simp only [go_sem, binC]
  refine seq_block (wpc_loop ?_)
  suffices h : ∀ (k i : Nat) (e : Env), i + k = ls.length → e 3 = ptr H1.length 0 → e 7 = ptr H3.length 0 → e 8 = .bool true → e 9 = .int .i64 i → Go.Proofs.YtkmghcglmjehcaaI.W F H.length _ e Hc _ from
    h ls.length 0 _ (by omega) (by simp only [go_sem, binC]) (by simp only [go_sem, binC]) (by simp only [go_sem, binC]) (by (simp only [go_sem, binC]) <;> rfl)
  intro k
  induction k with
  | zero =>
    intro i e hi e3 e7 e8 e9
    refine lp_step ?_
    refine seq_assoc (seq_reg ?_)
    simp only [go_sem, binC, e7, e9, gc_of hxc, inBlk_some]
    refine seq_cond (t := false) (by simp only [go_sem, binC]; rw [decide_eq_false (by omega)]) ?_
    simp only [go_sem, binC]
    refine seq_exit ?_
    simp only [go_sem, binC, thenX_e, out_e, thenX_n]
    refine seq_reg ?_
    simp only [go_sem, binC, e8]
    exact wpc_ret ⟨Or.inr rfl, .bool true, by simp only [go_sem, binC], rfl, rfl⟩
  | succ k ih =>
    intro i e hi e3 e7 e8 e9
    have hil : i < ls.length := by omega
    have hir : i < r.length := by omega
    have hw1 : IntKind.i64.wrap ((i : Int) + 1) = ((i + 1 : Nat) : Int) := by rw [wrap_id (by omega) (by omega)]; omega
    obtain ⟨b1, o1, h1, g1⟩ := gcP y1c hir
    obtain ⟨b2, o2, h2, g2⟩ := gcP r1c hil
    simp only [hrl, Value.slice.injEq, and_true] at h1 h2
    subst h1 h2
    have hlei : Le ls[i] r[i] := by
      have := hle.2 i
      simpa [List.getD, hil, hir] using this
    have hfb : flowsB r[i] ls[i] = true := flows_le.2 hlei
    refine lp_step ?_
    refine seq_assoc (seq_reg ?_)
    simp only [go_sem, binC, e7, e9, gc_of hxc, inBlk_some]
    refine seq_cond (t := true) (by simp only [go_sem, binC]; rw [decide_eq_true (by omega)]) ?_
    simp only [go_sem, binC]
    refine seq_skip (seq_block (seq_regD ?_))
    simp only [go_sem, binC, e3, e7, e9, gc_of hxc, gc_of hpc, inBlk_some]
    refine ⟨⟨by omega, by omega⟩, ?_⟩
    simp only [go_sem, binC, Int.toNat_natCast, g1, e3, e9, gc_of hpc, inBlk_some]
    refine ⟨⟨by omega, by omega⟩, ?_⟩
    simp only [go_sem, binC, Int.toNat_natCast, g2]
    refine op_callQ (by simp only [go_sem, binC]; exact gfl Hc _ _ hlei.lb hlei.la) ?_
    rw [hfb]
    simp only [go_sem, binC]
    refine wpc_cond (t := false) rfl ?_
    simp only [go_sem, binC]
    refine wpc_skip ?_
    simp only [go_sem, binC, out_n, thenX_n]
    refine wpc_reg ?_
    simp only [go_sem, binC, e9, hw1]
    simp only [go_sem, binC, thenX_n]
    exact ih (i + 1) _ (by omega) (by simp only [go_sem, binC, e3]) (by simp only [go_sem, binC, e7]) (by simp only [go_sem, binC, e8]) (by simp only [go_sem, binC])
end Go.Proofs.YtkmghcglmjehcaaI
end
