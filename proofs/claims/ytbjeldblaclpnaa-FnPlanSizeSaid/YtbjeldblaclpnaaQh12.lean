/- Texts of this proof, merged: K21, H24, X0, H32, GL56, BL56. -/
import Derived.Test.YtbjeldblaclpnaaQh8
import Derived.Test.YtbjeldblaclpnaaQh11
import Derived.Test.YtbjeldblaclpnaaRows
section
/- Whether a plan is as it may be (the program's). -/
set_option linter.unusedVariables false
set_option linter.unusedSimpArgs false
namespace Go.Proofs.YtbjeldblaclpnaaI
open Go Go.RowKit
def c_iPlanOk : IFn := ⟨2, 82, [.t 4],
 .seq (.reg none [
    ⟨(some 2), none, .box (.t 0)⟩,
    ⟨(some 3), none, .box (.t 1)⟩,
    ⟨(some 4), none, .mov (.c (.bool false))⟩])
 (.seq (.seq (.reg (some 24) [
     ⟨(some 10), none, .load true 2 (.t 2)⟩,
     ⟨(some 11), none, .call .q (.f 43) [(.t 10)]⟩,
     ⟨(some 12), none, .un .not (.t 11)⟩,
     ⟨(some 13), none, .mov (.t 12)⟩,
     ⟨(some 14), (some (13, false)), .fad 0 (.t 3)⟩,
     ⟨(some 15), (some (13, false)), .load false 1 (.t 14)⟩,
     ⟨(some 16), (some (13, false)), .call .q (.f 52) [(.t 15)]⟩,
     ⟨(some 17), (some (13, false)), .un .not (.t 16)⟩,
     ⟨(some 18), none, .pick (.t 13) (.c (.bool true)) (.t 17)⟩,
     ⟨(some 19), none, .mov (.t 18)⟩,
     ⟨(some 20), (some (19, false)), .fad 1 (.t 3)⟩,
     ⟨(some 21), (some (19, false)), .load false 1 (.t 20)⟩,
     ⟨(some 22), (some (19, false)), .fad 0 (.t 2)⟩,
     ⟨(some 23), (some (19, false)), .load false 1 (.t 22)⟩,
     ⟨(some 24), (some (19, false)), .len (.t 23)⟩,
     ⟨(some 25), (some (19, false)), .call .q (.f 63) [(.t 21), (.t 24)]⟩,
     ⟨(some 26), (some (19, false)), .un .not (.t 25)⟩,
     ⟨(some 27), none, .pick (.t 19) (.c (.bool true)) (.t 26)⟩,
     ⟨(some 28), none, .mov (.t 27)⟩,
     ⟨(some 29), (some (28, false)), .fad 2 (.t 3)⟩,
     ⟨(some 30), (some (28, false)), .load false 1 (.t 29)⟩,
     ⟨(some 31), (some (28, false)), .fad 1 (.t 2)⟩,
     ⟨(some 32), (some (28, false)), .load false 1 (.t 31)⟩,
     ⟨(some 33), (some (28, false)), .call .q (.f 62) [(.t 32)]⟩,
     ⟨(some 34), (some (28, false)), .call .q (.f 63) [(.t 30), (.t 33)]⟩,
     ⟨(some 35), (some (28, false)), .un .not (.t 34)⟩,
     ⟨(some 36), none, .pick (.t 28) (.c (.bool true)) (.t 35)⟩])
  (.cond (.t 36) (.seq (.reg none [
      ⟨(some 4), none, .mov (.c (.bool false))⟩])
   (.ret)) (.skip)))
 (.seq (.seq (.reg none [
     ⟨(some 37), none, .fad 1 (.t 3)⟩,
     ⟨(some 38), none, .load false 1 (.t 37)⟩,
     ⟨(some 39), none, .len (.t 38)⟩,
     ⟨(some 40), none, .mov (.c (.int .i64 0))⟩])
  (.block 0 (.loop (.seq (.reg none [
       ⟨(some 41), none, .bin .lss (.t 40) (.t 39)⟩])
    (.seq (.cond (.t 41) (.skip) (.exit 0))
    (.seq (.block 1 (.seq (.reg none [
         ⟨(some 42), none, .mov (.t 40)⟩,
         ⟨(some 43), none, .iad 1 (.t 38) (.t 40)⟩,
         ⟨(some 44), none, .load false 1 (.t 43)⟩,
         ⟨(some 5), none, .mov (.t 42)⟩,
         ⟨(some 6), none, .mov (.t 44)⟩])
      (.seq (.reg none [
         ⟨(some 45), none, .load true 2 (.t 2)⟩,
         ⟨(some 46), none, .fad 0 (.t 3)⟩,
         ⟨(some 47), none, .load false 1 (.t 46)⟩,
         ⟨(some 48), none, .mov (.t 5)⟩,
         ⟨(some 49), none, .mov (.t 6)⟩,
         ⟨(some 50), none, .call .q (.f 64) [(.t 45), (.t 47), (.t 48), (.t 49)]⟩,
         ⟨(some 51), none, .un .not (.t 50)⟩])
      (.cond (.t 51) (.seq (.reg none [
          ⟨(some 4), none, .mov (.c (.bool false))⟩])
       (.ret)) (.skip)))))
    (.reg none [
      ⟨(some 52), none, .bin .add (.t 40) (.c (.int .i64 1))⟩,
      ⟨(some 40), none, .mov (.t 52)⟩])))))))
 (.seq (.reg none [
    ⟨(some 53), none, .load true 2 (.t 2)⟩,
    ⟨(some 54), none, .call .k (.f 53) [(.t 53)]⟩,
    ⟨(some 7), none, .mov (.t 54)⟩])
 (.seq (.seq (.reg none [
     ⟨(some 55), none, .fad 1 (.t 2)⟩,
     ⟨(some 56), none, .load false 1 (.t 55)⟩,
     ⟨(some 57), none, .call .k (.f 55) [(.t 56)]⟩,
     ⟨(some 58), none, .len (.t 57)⟩,
     ⟨(some 59), none, .mov (.c (.int .i64 0))⟩])
  (.block 2 (.loop (.seq (.reg none [
       ⟨(some 60), none, .bin .lss (.t 59) (.t 58)⟩])
    (.seq (.cond (.t 60) (.skip) (.exit 2))
    (.seq (.block 3 (.seq (.reg none [
         ⟨(some 61), none, .mov (.t 59)⟩,
         ⟨(some 62), none, .iad 8 (.t 57) (.t 59)⟩,
         ⟨(some 63), none, .load true 8 (.t 62)⟩,
         ⟨(some 9), none, .new [(.int .i64 0), (.int .i64 0), (.int .i64 0), (.int .i64 0), (.int .i64 0), (.int .i64 0), (.slice none 0 0), (.slice none 0 0)]⟩,
         ⟨(some 8), none, .mov (.t 61)⟩,
         ⟨none, none, .store 8 (.t 9) (.t 63)⟩])
      (.seq (.reg (some 15) [
         ⟨(some 64), none, .load true 2 (.t 2)⟩,
         ⟨(some 65), none, .fad 0 (.t 3)⟩,
         ⟨(some 66), none, .load false 1 (.t 65)⟩,
         ⟨(some 67), none, .fad 1 (.t 3)⟩,
         ⟨(some 68), none, .load false 1 (.t 67)⟩,
         ⟨(some 69), none, .load true 8 (.t 9)⟩,
         ⟨(some 70), none, .mov (.t 7)⟩,
         ⟨(some 71), none, .mov (.t 8)⟩,
         ⟨(some 72), none, .iad 2 (.t 70) (.t 71)⟩,
         ⟨(some 73), none, .load true 2 (.t 72)⟩,
         ⟨(some 74), none, .fad 2 (.t 3)⟩,
         ⟨(some 75), none, .load false 1 (.t 74)⟩,
         ⟨(some 76), none, .mov (.t 8)⟩,
         ⟨(some 77), none, .iad 1 (.t 75) (.t 76)⟩,
         ⟨(some 78), none, .load false 1 (.t 77)⟩,
         ⟨(some 79), none, .call .q (.f 65) [(.t 64), (.t 66), (.t 68), (.t 69), (.t 73), (.t 78)]⟩,
         ⟨(some 80), none, .un .not (.t 79)⟩])
      (.cond (.t 80) (.seq (.reg none [
          ⟨(some 4), none, .mov (.c (.bool false))⟩])
       (.ret)) (.skip)))))
    (.reg none [
      ⟨(some 81), none, .bin .add (.t 59) (.c (.int .i64 1))⟩,
      ⟨(some 59), none, .mov (.t 81)⟩])))))))
 (.seq (.reg none [
    ⟨(some 4), none, .mov (.c (.bool true))⟩])
 (.ret))))))⟩
theorem hosts_all {l : List Int} : hostsB l = (List.range l.length).all fun j => inB (l.getD j 0) 0 2 := by
  rw [Bool.eq_iff_iff]
  unfold hostsB
  rw [List.all_eq_true, List.all_eq_true]
  constructor
  · intro h i hi
    have hil : i < l.length := by simpa using hi
    have := h l[i] (List.getElem_mem hil)
    simpa [List.getD, hil] using this
  · intro h x hx
    obtain ⟨i, hi, rfl⟩ := List.getElem_of_mem hx
    have := h i (by simpa using hi)
    simpa [List.getD, hi] using this
theorem allDo_hosts {n : Nat} {ls : List (Int × Int)} {l : List (TStep n)} {ts homes does : List Int} (h : hostsB does = false) : allDo n ls l ts homes does = false := by
  rw [Bool.eq_false_iff] at h ⊢
  intro h'
  refine h ?_
  rw [hosts_all]
  unfold allDo at h'
  rw [List.all_eq_true] at h' ⊢
  intro i hi
  have := h' i hi
  rw [Bool.and_eq_true] at this
  exact this.1
theorem iPlanOk_ok {F : Nat → Option IFn} {f : Nat} (hf : F f = some c_iPlanOk) (gty : TypeP F 43) (gt : TrOk F 52) (ghk : HostsI F 63) (gc : ∀ n, CntOk F 62 n) (ghm : HomeI F 64) (ga : AtP F 53) (gl : ∀ n, AllP F 55 n) (gd : DoesOk F 65) : PlanOkV F f := by
  intro H n lv sv tw hw dw ls l ts homes does r1 r2 hsm r3 r4 r5
  have osv : one sv = true := by obtain ⟨_, a, rfl, _⟩ := r2; rfl
  obtain ⟨_, la, rfl, _⟩ := id r1
  obtain ⟨_, ta, rfl, _⟩ := id r3
  obtain ⟨_, ha, rfl, _⟩ := id r4
  obtain ⟨hd0, da, rfl, _⟩ := id r5
  refine QC.mk hf rfl ?_
  refine seq_reg ?_
  simp only [go_sem, binC, osv]
  refine wpc_gen fun H1 hH1 => ?_
  have hx1 : AgX [] H H1 := hH1 ▸ AgX.app [] _ _
  have hb : H1[H.length]? = some ⟨[.slice la ls.length ls.length, sv], 0, 0, false, true⟩ := hH1 ▸ get_new0 _ _
  have hb3 : H1[H.length + 1]? = some ⟨[.slice ta ts.length ts.length, .slice ha homes.length homes.length, .slice da does.length does.length], 0, 0, false, true⟩ := hH1 ▸ get_new _ _ 1
  clear hH1
  have hS := agx_sub hx1
  have hl1 := (List.getElem?_eq_some_iff.1 hb3).1
  have hcntz : progB n (ls, l) = true → sizeV n (ls, l) = ((allL n l).length : Int) := sizeV_yes
  unfold planOkV
  show wpc F H.length _ _ _ (fin _ fun w _ => w = .bool (typeP n (ls, l) && (trK ts && (homesB ls.length homes && (decide ((does.length : Int) = sizeV n (ls, l)) && (allHome ls ts homes && allDo n ls l ts homes does))))) ∧ scal w = true)
  generalize sizeV n (ls, l) = z at *
  refine seq_assoc (seq_regD ?_)
  simp only [go_sem, binC, gc_of hb, inBlk_some, osv]
  refine op_callQ (by simp only [go_sem, binC]; exact gty H1 n _ _ ls l (r1.mono hS) (r2.mono hS) hsm) ?_
  cases hT : typeP n (ls, l) with
  | false =>
    simp only [go_sem, binC]
    refine seq_cond (t := true) rfl ?_
    simp only [go_sem, binC]
    refine seq_assoc (seq_reg ?_)
    simp only [go_sem, binC]
    exact seq_ret ⟨Or.inr rfl, .bool false, (by (simp only [go_sem, binC]) <;> rfl), rfl, rfl⟩
  | true =>
  have hP : progB n (ls, l) = true := by
    unfold typeP at hT
    simp only [Bool.and_eq_true] at hT
    exact hT.1
  simp only [go_sem, binC, gc_of hb3, inBlk_some]
  refine op_callQ (by simp only [go_sem, binC]; exact gt.k H1 _ ts (r3.mono hS)) ?_
  cases hk : trK ts with
  | false =>
    simp only [go_sem, binC]
    refine seq_cond (t := true) rfl ?_
    simp only [go_sem, binC]
    refine seq_assoc (seq_reg ?_)
    simp only [go_sem, binC]
    exact seq_ret ⟨Or.inr rfl, .bool false, (by (simp only [go_sem, binC]) <;> rfl), rfl, rfl⟩
  | true =>
  simp only [go_sem, binC, gc_of hb, gc_of hb3, inBlk_some]
  refine op_callQ (by simp only [go_sem, binC]; exact ghk H1 _ homes ls.length (r4.mono hS)) ?_
  have hhB : (decide ((homes.length : Int) = ls.length) && hostsB homes) = homesB ls.length homes := by
    unfold homesB
    congr 1
    exact decide_eq_decide.2 (by omega)
  rw [hhB]
  cases hh : homesB ls.length homes with
  | false =>
    simp only [go_sem, binC]
    refine seq_cond (t := true) rfl ?_
    simp only [go_sem, binC]
    refine seq_assoc (seq_reg ?_)
    simp only [go_sem, binC]
    exact seq_ret ⟨Or.inr rfl, .bool false, (by (simp only [go_sem, binC]) <;> rfl), rfl, rfl⟩
  | true =>
  simp only [go_sem, binC, gc_of hb, gc_of hb3, inBlk_some]
  have hsz := hcntz hP
  have hlab : ls.all labB = true := progB_lab hP
  have hls4 : ls.length ≤ 4 := progB_len hP
  have hcnt : (allL n l).length ≤ 8 := progB_cnt hP hsm
  have hsl := allSL_len l
  have hho := homesB_iff.1 hh
  have hcw : Wr (cntL n l) = z := by
    rw [cntL_len]
    unfold Wr
    rw [wrap_id (by omega) (by omega), hsz]
  refine op_callQ (by simp only [go_sem, binC]; exact gc n H1 sv l (r2.mono hS)) ?_
  rw [hcw]
  simp only [go_sem, binC]
  refine op_callQ (by simp only [go_sem, binC]; exact ghk H1 _ does z (r5.mono hS)) ?_
  cases hhd : (decide ((does.length : Int) = z) && hostsB does) with
  | false =>
    have hfin : (decide ((does.length : Int) = z) && (allHome ls ts homes && allDo n ls l ts homes does)) = false := by
      rcases Bool.and_eq_false_iff.1 hhd with h | h
      · rw [h]; rfl
      · rw [allDo_hosts h, Bool.and_false, Bool.and_false]
    rw [hfin]
    simp only [go_sem, binC]
    refine seq_cond (t := true) rfl ?_
    simp only [go_sem, binC]
    refine seq_assoc (seq_reg ?_)
    simp only [go_sem, binC]
    exact seq_ret ⟨Or.inr rfl, .bool false, (by (simp only [go_sem, binC]) <;> rfl), rfl, rfl⟩
  | true =>
  rw [Bool.and_eq_true, decide_eq_true_eq] at hhd
  obtain ⟨hz, hdB⟩ := hhd
  rw [decide_eq_true hz]
  simp only [go_sem, binC]
  refine seq_cond (t := false) rfl ?_
  simp only [go_sem, binC]
  refine seq_skip (seq_assoc (seq_reg ?_))
  simp only [go_sem, binC, gc_of hb3, inBlk_some]
  refine seq_block (wpc_loop ?_)
  have r41 := r4.mono hS
  suffices hh : ∀ (k v : Nat) (e : Env), v + k = homes.length → (∀ q, q < v → hmB ls ts q (homes.getD q 0) = true) → e 2 = ptr H.length 0 → e 3 = ptr (H.length + 1) 0 → e 38 = .slice ha homes.length homes.length → e 39 = .int .i64 homes.length → e 40 = .int .i64 v → Go.Proofs.YtbjeldblaclpnaaI.W F H.length _ e H1 _ from
    hh homes.length 0 _ (by omega) (fun q h => by omega) (by simp only [go_sem, binC]) (by simp only [go_sem, binC]) (by simp only [go_sem, binC]) (by simp only [go_sem, binC]) (by (simp only [go_sem, binC]) <;> rfl)
  intro k
  induction k with
  | zero =>
    intro v e hv hall e2 e3 e38 e39 e40
    have hAH : allHome ls ts homes = true := all_yes fun q hq => hall q (by have := hho.1; omega)
    rw [hAH]
    refine lp_step ?_
    refine seq_reg ?_
    simp only [go_sem, binC, e39, e40]
    refine seq_cond (t := false) (by simp only [go_sem, binC]; rw [decide_eq_false (by omega)]) ?_
    simp only [go_sem, binC]
    refine seq_exit ?_
    simp only [go_sem, binC, thenX_e, out_e, thenX_n]
    refine seq_reg ?_
    simp only [go_sem, binC, e2, gc_of hb, inBlk_some, osv]
    obtain ⟨wa, H2, k2, hx2, oa⟩ := ga H1 n _ sv ls l (r1.mono hS) (r2.mono hS) hsm hP
    refine op_callK (by simp only [go_sem, binC]; exact k2) ?_
    obtain ⟨aa, haa⟩ := oa.shape
    have hatl := atL_len ls (7, 7) l
    rw [hatl] at haa
    subst haa
    simp only [go_sem, binC]
    have hb2 := hx2.get hb (by simp)
    have hb32 := hx2.get hb3 (by simp)
    have hx02 := hx1.tr hx2
    refine seq_assoc (seq_reg ?_)
    simp only [go_sem, binC, e2, gc_of hb2, inBlk_some]
    obtain ⟨wl, H4, k4, hx4, ol⟩ := gl n (vw 0 H) H2 sv l (agx_sub hx02) r2 (by omega)
    refine op_callK (by simp only [go_sem, binC]; exact k4) ?_
    obtain ⟨al, hal⟩ := ol.shape
    rw [hsl] at hal
    subst hal
    simp only [go_sem, binC]
    have oa4 := oa.keep (Nat.le_refl _) hx4 (fun _ _ => by simp)
    have hallat : (atL n ls (7, 7) l).all labB = true := atL_lab hlab rfl l
    have hx14 := hx2.tr hx4
    have hl4 := hx14.1
    refine seq_block (wpc_loop ?_)
    suffices hh : ∀ (m j : Nat) (e : Env) (Hd : Heap), j + m = (allL n l).length → AgX [] H4 Hd → (∀ q, q < j → (inB (does.getD q 0) 0 2 && doN n ls l ts homes q (does.getD q 0)) = true) → e 2 = ptr H.length 0 → e 3 = ptr (H.length + 1) 0 → e 7 = .slice aa (allL n l).length (allL n l).length → e 57 = .slice al (allL n l).length (allL n l).length → e 58 = .int .i64 (allL n l).length → e 59 = .int .i64 j → Go.Proofs.YtbjeldblaclpnaaI.W F H.length _ e Hd _ from
      hh (allL n l).length 0 _ H4 (by omega) (AgX.refl _ _) (fun q h => by omega) (by simp only [go_sem, binC, e2]) (by simp only [go_sem, binC, e3]) (by simp only [go_sem, binC]) (by simp only [go_sem, binC]) (by simp only [go_sem, binC]) (by (simp only [go_sem, binC]) <;> rfl)
    clear e2 e3 e38 e39 e40
    intro m
    induction m with
    | zero =>
      intro j e Hd hj hxd hdo e2 e3 e7 e57 e58 e59
      have hAD : allDo n ls l ts homes does = true := all_yes fun q hq => hdo q (by omega)
      refine lp_step ?_
      refine seq_reg ?_
      simp only [go_sem, binC, e58, e59]
      refine seq_cond (t := false) (by simp only [go_sem, binC]; rw [decide_eq_false (by omega)]) ?_
      simp only [go_sem, binC]
      refine seq_exit ?_
      simp only [go_sem, binC, thenX_e, out_e, thenX_n]
      refine seq_reg ?_
      simp only [go_sem, binC]
      rw [hAD]
      exact wpc_ret ⟨Or.inr rfl, .bool true, (by (simp only [go_sem, binC]) <;> rfl), rfl, rfl⟩
    | succ m ih2 =>
      intro j e Hd hj hxd hdo e2 e3 e7 e57 e58 e59
      have hjl : j < (allL n l).length := by omega
      have hja : j < (atL n ls (7, 7) l).length := by omega
      have hjs : j < (allSL n l).length := by omega
      have hjd : j < does.length := by omega
      have hw2 : IntKind.i64.wrap ((j : Int) + 1) = ((j + 1 : Nat) : Int) := by rw [wrap_id (by omega) (by omega)]; omega
      have hx1d := hx14.tr hxd
      have hx0d := hx1.tr hx1d
      have hb2d := hx1d.get hb (by simp)
      have hb3d := hx1d.get hb3 (by simp)
      have hno : (inB (does.getD j 0) 0 2 && doN n ls l ts homes j (does.getD j 0)) = false → allDo n ls l ts homes does = false := fun h => all_no hjd h
      have hin : inB (does.getD j 0) 0 2 = true := by
        rw [hosts_all] at hdB
        exact List.all_eq_true.1 hdB j (by simpa using hjd)
      have qd := inB_iff.1 hin
      have hdoe := doN_eq (ts := ts) (homes := homes) (h := does.getD j 0) hjs hja
      obtain ⟨db, do_, hdv, hdg⟩ := gcD (r5.mono (agx_sub hx0d)) hjd
      simp only [Value.slice.injEq, and_true] at hdv
      subst hdv
      obtain ⟨ba, ca, hwa, gca, rda⟩ := (oa4.keep (Nat.le_refl _) hxd (fun _ _ => by simp)).at hja
      rw [hatl] at hwa
      simp only [Value.slice.injEq, and_true] at hwa
      subst hwa
      obtain ⟨bs, cs, hws, gcs, rds⟩ := (ol.keep (Nat.le_refl _) hxd (fun _ _ => by simp)).at hjs
      rw [hsl] at hws
      simp only [Value.slice.injEq, and_true] at hws
      subst hws
      have hokj := progB_okA hP (List.getElem_mem hjs)
      have hoj : labB (atL n ls (7, 7) l)[j] = true := List.all_eq_true.1 hallat _ (List.getElem_mem hja)
      generalize (atL n ls (7, 7) l)[j] = hr at rda hoj hdoe
      generalize (allSL n l)[j] = sj at rds hokj hdoe
      obtain ⟨ra, rb⟩ := hr
      obtain ⟨_, _, rfl, ⟨hq1, _⟩, ⟨hq2, _⟩⟩ := rda
      simp only at hq1 hq2
      subst hq1 hq2
      have rdsc := rds
      obtain ⟨sk, sx, sa, sbb, sc, sg, tv, ev, tl, el, hs2, hcs, rg, otv, oev, _, _⟩ := anyS_rd rds
      subst hcs
      have hldd := hx0d.1
      refine lp_step ?_
      refine seq_reg ?_
      simp only [go_sem, binC, e58, e59]
      refine seq_cond (t := true) (by simp only [go_sem, binC]; rw [decide_eq_true (by omega)]) ?_
      simp only [go_sem, binC]
      refine seq_skip (seq_block (seq_reg ?_))
      simp only [go_sem, binC, e57, e59]
      refine ⟨⟨by omega, by omega⟩, ?_⟩
      simp only [go_sem, binC, Int.toNat_natCast, Nat.zero_add, gcs, otv, oev]
      refine ⟨by omega, ?_⟩
      refine wpc_gen fun H5 hH5 => ?_
      have hx5 : AgX [] Hd H5 := hH5 ▸ AgX.app [] _ _
      have hs5 : H5[Hd.length]? = some ⟨[.int .i64 sk, .int .i64 sx, .int .i64 sa, .int .i64 sbb, .int .i64 sc, .int .i64 sg, tv, ev], 0, 0, false, true⟩ := hH5 ▸ get_new0 _ _
      clear hH5
      have hb25 := hx5.get hb2d (by simp)
      have hb35 := hx5.get hb3d (by simp)
      have gca5 := gcK gca hx5
      have hdg5 := gcK hdg hx5
      have hx05 := hx0d.tr hx5
      refine seq_regD ?_
      simp only [go_sem, binC, e2, e3, e7, gc_of hb25, gc_of hb35, gc_of hs5, inBlk_some, osv, otv, oev]
      refine ⟨⟨by omega, by omega⟩, ?_⟩
      simp only [go_sem, binC, Int.toNat_natCast, Nat.zero_add, gca5, e3, gc_of hb35, inBlk_some]
      refine ⟨⟨by omega, by omega⟩, ?_⟩
      simp only [go_sem, binC, Int.toNat_natCast, Nat.mul_one, hdg5]
      refine op_callQ (by simp only [go_sem, binC]; exact gd H5 _ sv _ _ _ ls ts homes sj (ra, rb) (does.getD j 0) osv (r1.mono (agx_sub hx05)) hlab (r3.mono (agx_sub hx05)) (trK_iff.1 hk) (r4.mono (agx_sub hx05)) hho (Co.anyS.mono (agx_sub hx05) rdsc) hokj hoj qd.1 qd.2) ?_
      rw [← hdoe]
      cases hst : doN n ls l ts homes j (does.getD j 0) with
      | false =>
        simp only [go_sem, binC]
        refine wpc_cond (t := true) rfl ?_
        simp only [go_sem, binC]
        refine seq_reg ?_
        simp only [go_sem, binC]
        refine wpc_ret ?_
        simp only [go_sem, binC, out_r, thenX_r]
        refine ⟨Or.inr rfl, .bool false, (by (simp only [go_sem, binC]) <;> rfl), ?_, rfl⟩
        rw [hno (by rw [hin, hst]; rfl)]
      | true =>
        simp only [go_sem, binC]
        refine wpc_cond (t := false) rfl ?_
        simp only [go_sem, binC]
        refine wpc_skip ?_
        simp only [go_sem, binC, out_n, thenX_n]
        refine wpc_reg ?_
        simp only [go_sem, binC, e59, hw2]
        simp only [go_sem, binC, thenX_n]
        refine ih2 (j + 1) _ H5 (by omega) (hxd.tr hx5) (fun q hq => ?_) (by simp only [go_sem, binC, e2]) (by simp only [go_sem, binC, e3]) (by simp only [go_sem, binC, e7]) (by simp only [go_sem, binC, e57]) (by simp only [go_sem, binC, e58]) (by simp only [go_sem, binC])
        by_cases hqj : q = j
        · subst hqj; rw [hin, hst]; rfl
        · exact hdo q (by omega)
  | succ k ih =>
    intro v e hv hall e2 e3 e38 e39 e40
    have hvh : v < homes.length := by omega
    have hvl : v < ls.length := by have := hho.1; omega
    have hw1 : IntKind.i64.wrap ((v : Int) + 1) = ((v + 1 : Nat) : Int) := by rw [wrap_id (by omega) (by omega)]; omega
    obtain ⟨hb', ho', hhv, hhg⟩ := gcD r41 hvh
    simp only [Value.slice.injEq, and_true] at hhv
    subst hhv
    have hrg : 0 ≤ homes.getD v 0 ∧ homes.getD v 0 ≤ 2 := by
      have := hho.2 homes[v] (List.getElem_mem hvh)
      simpa [List.getD, hvh] using this
    refine lp_step ?_
    refine seq_reg ?_
    simp only [go_sem, binC, e39, e40]
    refine seq_cond (t := true) (by simp only [go_sem, binC]; rw [decide_eq_true (by omega)]) ?_
    simp only [go_sem, binC]
    refine seq_skip (seq_block (seq_reg ?_))
    simp only [go_sem, binC, e38, e40]
    refine ⟨⟨by omega, by omega⟩, ?_⟩
    simp only [go_sem, binC, Int.toNat_natCast, Nat.mul_one, hhg]
    refine seq_reg ?_
    simp only [go_sem, binC, e2, e3, gc_of hb, gc_of hb3, inBlk_some, osv]
    refine op_callQ (by simp only [go_sem, binC]; exact ghm H1 _ _ _ ls ts v (homes.getD v 0) osv (r1.mono hS) hlab (r3.mono hS) (trK_iff.1 hk) (by omega) (by omega) hrg.1 hrg.2) ?_
    cases hp : hmB ls ts v (homes.getD v 0) with
    | false =>
      have hAH : allHome ls ts homes = false := all_no hvl hp
      simp only [go_sem, binC]
      refine wpc_cond (t := true) rfl ?_
      simp only [go_sem, binC]
      refine seq_reg ?_
      simp only [go_sem, binC]
      refine wpc_ret ?_
      simp only [go_sem, binC, out_r, thenX_r]
      refine ⟨Or.inr rfl, .bool false, (by (simp only [go_sem, binC]) <;> rfl), ?_, rfl⟩
      rw [hAH]
      rfl
    | true =>
      simp only [go_sem, binC]
      refine wpc_cond (t := false) rfl ?_
      simp only [go_sem, binC]
      refine wpc_skip ?_
      simp only [go_sem, binC, out_n, thenX_n]
      refine wpc_reg ?_
      simp only [go_sem, binC, e40, hw1]
      simp only [go_sem, binC, thenX_n]
      refine ih (v + 1) _ (by omega) (fun q hq => ?_) (by simp only [go_sem, binC, e2]) (by simp only [go_sem, binC, e3]) (by simp only [go_sem, binC, e38]) (by simp only [go_sem, binC, e39]) (by simp only [go_sem, binC])
      by_cases hqv : q = v
      · subst hqv; exact hp
      · exact hall q (by omega)
end Go.Proofs.YtbjeldblaclpnaaI
end
section
/- The law FnPlanMore on the ideal machine. -/
set_option linter.unusedVariables false
set_option linter.unusedSimpArgs false
namespace Go.Proofs.YtbjeldblaclpnaaI
open Go Go.RowKit
theorem planOkV_iff {n : Nat} {p : TProg n} {ts homes does : List Int} : planOkV n p ts homes does = true ↔ typeP n p = true ∧ trK ts = true ∧ homesB p.1.length homes = true ∧ (does.length : Int) = sizeV n p ∧ (∀ v, v < p.1.length → hmB p.1 ts v (homes.getD v 0) = true) ∧ (∀ j, j < does.length → (0 ≤ does.getD j 0 ∧ does.getD j 0 ≤ 2) ∧ doN n p.1 p.2 ts homes j (does.getD j 0) = true) := by
  unfold planOkV allHome allDo
  simp only [Bool.and_eq_true, decide_eq_true_eq, List.all_eq_true, List.mem_range, inB_iff]
end Go.Proofs.YtbjeldblaclpnaaI
end
section
/- Heads of regions that append to what they have made themselves. -/
set_option linter.unusedVariables false
set_option linter.unusedSimpArgs false
namespace Go.Proofs.YtbjeldblaclpnaaI
open Go Go.RowKit
section
variable {α : Type} {A : Co α} {fl : α → List Value} {es et : Nat} {H : Heap} {p d : Nat} {r : List IOper} {e : Env} {S : List (Nat × Blk)} {Q : Env → Heap → Prop}
/-- A head ends so that Q holds. -/
def Wh (p : Nat) (l : List IOper) (e : Env) (H : Heap) (S : List (Nat × Blk)) (Q : Env → Heap → Prop) : Prop := ∃ em Hm, heads p l e H S em Hm ∧ Q em Hm
theorem Wh.step {dd : Option Nat} {o : IOp} {v : Value} {S' : List (Nat × Blk)} {H' : Heap} (hs : headS o e H S S' v H') (k : Wh p r (putE e dd v) H' S' Q) : Wh (p + 1) (⟨dd, none, o⟩ :: r) e H S Q := by
  obtain ⟨em, Hm, h1, h2⟩ := k
  exact ⟨em, Hm, ⟨rfl, v, S', H', hs, h1⟩, h2⟩
theorem heads_plain {dd : Option Nat} {o : IOp} {v : Value} {L : List Blk} (h : iop H.length o e H = some (v, H ++ L)) (k : Wh p r (putE e dd v) (H ++ L) S Q) : Wh (p + 1) (⟨dd, none, o⟩ :: r) e H S Q := Wh.step (.inl ⟨rfl, ⟨L, rfl⟩, h⟩) k
theorem heads_pure {dd : Option Nat} {o : IOp} {v : Value} (h : iop H.length o e H = some (v, H)) (k : Wh p r (putE e dd v) H S Q) : Wh (p + 1) (⟨dd, none, o⟩ :: r) e H S Q := Wh.step (.inl ⟨rfl, ⟨[], by rw [List.append_nil]⟩, h⟩) k
theorem flat_at (hw : ∀ a, (fl a).length = es) (l : List α) {i : Nat} (hi : i < l.length) : ((l.flatMap fl).drop (i * es)).take es = fl l[i] := by
  have : l.flatMap fl = (l.take i).flatMap fl ++ (fl l[i] ++ (l.drop (i + 1)).flatMap fl) := by
    conv => lhs; rw [← List.take_append_drop i l, List.drop_eq_getElem_cons hi]
    rw [List.flatMap_append, List.flatMap_cons]
  rw [this]
  have hlt : ((l.take i).flatMap fl).length = i * es := by rw [flat_len hw, List.length_take, Nat.min_eq_left (by omega)]
  rw [List.drop_append, List.drop_of_length_le (by omega), hlt, Nat.sub_self, List.nil_append, List.drop_zero, List.take_append_of_le_length (by rw [hw]; omega), List.take_of_length_le (by rw [hw]; omega)]
theorem blk_slF {b : Nat} {ap so : Bool} {l : List α} (hA : A.w = es) (hw : ∀ a, (fl a).length = es) (h : H[b]? = some ⟨l.flatMap fl, es, et, ap, so⟩) (hr : ∀ a ∈ l, A.rd (vw 0 H) (fl a) a) (hl : l.length ≤ 9223372036854775807) : SlR A (vw 0 H) (sli b 0 l.length) l := by
  by_cases h0 : l = []
  · subst h0; exact ⟨by simp, _, rfl, .inl rfl⟩
  · have hfl := flat_len hw l
    refine ⟨hl, _, rfl, .inr ⟨b, 0, rfl, fun i hi => ⟨fl l[i], ?_, hr _ (List.getElem_mem hi)⟩⟩⟩
    have hi2 : i * es + es ≤ l.length * es := by rw [← Nat.succ_mul]; exact Nat.mul_le_mul_right _ hi
    unfold rng vw
    rw [if_pos (Nat.zero_le _), h, hA]
    simp only [Option.map_some, Nat.zero_add]
    rw [if_pos (by omega), flat_at hw l hi]
/-- The cells of a list of flat elements. -/
theorem sl_flat (hA : A.w = es) (hw : ∀ a, (fl a).length = es) (hes : es ≠ 0) (hfl : ∀ {V : Vw} {cs : List Value} {a : α}, A.rd V cs a → cs = fl a) {v : Value} {l : List α} (h : SlR A (vw 0 H) v l) (hl : l ≠ []) : ∃ b o, v = .slice (some ⟨b, o, none⟩) l.length l.length ∧ getCells H b o (l.length * es) = some (l.flatMap fl) ∧ b < H.length ∧ ∀ a ∈ l, A.rd (vw 0 H) (fl a) a := by
  obtain ⟨b, o, ys, h1, h2, h3, h4⟩ := sl_cells hA h hl
  have hrd : ∀ a ∈ l, A.rd (vw 0 H) (fl a) a := fun a ha => by
    obtain ⟨i, hi, rfl⟩ := List.getElem_of_mem ha
    have := h4 i hi
    rwa [hfl this] at this
  have hys : ys = l.flatMap fl := by
    refine List.ext_getElem (by rw [h3, flat_len hw]) fun j hj hj' => ?_
    have hjl : j < l.length * es := by omega
    have hi : j / es < l.length := Nat.div_lt_of_lt_mul (by rw [Nat.mul_comm]; exact hjl)
    have hj2 : j / es * es + j % es = j := by rw [Nat.mul_comm]; exact Nat.div_add_mod j es
    have hm : j % es < es := Nat.mod_lt _ (Nat.pos_of_ne_zero hes)
    have e1 := hfl (h4 _ hi)
    have e2 := flat_at hw l hi
    have e3 : ((ys.drop (j / es * es)).take es)[j % es]? = (((l.flatMap fl).drop (j / es * es)).take es)[j % es]? := by rw [e1, e2]
    rw [List.getElem?_take, List.getElem?_take, if_pos hm, if_pos hm, List.getElem?_drop, List.getElem?_drop, hj2, List.getElem?_eq_getElem hj, List.getElem?_eq_getElem hj', Option.some.injEq] at e3
    exact e3
  refine ⟨b, o, h1, by rw [h2, hys], ?_, hrd⟩
  unfold getCells at h2
  cases hx : H[b]? with
  | none => rw [hx] at h2; cases h2
  | some k => exact (List.getElem?_eq_some_iff.1 hx).1
/-- What an append to a literal has made, to be appended to once. -/
def TmpL (A : Co α) (fl : α → List Value) (es et lo : Nat) (H : Heap) (S : List (Nat × Blk)) (v : Value) (l : List α) : Prop := l.length ≤ 1048576 ∧ (∀ a ∈ l, A.rd (vw 0 H) (fl a) a) ∧
  ((l = [] ∧ ∃ b, v = sli b 0 0 ∧ H[b]? = some ⟨[], es, et, true, true⟩) ∨ (∃ b kb, l ≠ [] ∧ v = sli b 0 l.length ∧ lo ≤ b ∧ (b, kb) ∈ S ∧ kb = ⟨l.flatMap fl, es, et, true, true⟩ ∧ H[b]? = some (sealB kb)))
theorem TmpL.more {lo : Nat} {v : Value} {l : List α} (h : TmpL A fl es et lo H S v l) (L : List Blk) : TmpL A fl es et lo (H ++ L) S v l := by
  obtain ⟨h0, h1, h2⟩ := h
  refine ⟨h0, fun a ha => A.mono (agx_sub (AgX.app [] H L)) (h1 a ha), ?_⟩
  rcases h2 with ⟨h2, b, h3, h4⟩ | ⟨b, kb, h2, h3, h4, h5, h6, h7⟩
  · exact .inl ⟨h2, b, h3, by rw [List.getElem?_append_left (List.getElem?_eq_some_iff.1 h4).1]; exact h4⟩
  · exact .inr ⟨b, kb, h2, h3, h4, h5, h6, by rw [List.getElem?_append_left (List.getElem?_eq_some_iff.1 h7).1]; exact h7⟩
theorem heads_appA {lo bytes b tx ty : Nat} {l : List α} (hA : A.w = es) (hw : ∀ a, (fl a).length = es) (hes : es ≠ 0) (hfl : ∀ {V : Vw} {cs : List Value} {a : α}, A.rd V cs a → cs = fl a) (hsc : ∀ a, (fl a).all scal1 = true)
    (hx : e tx = sli b 0 0) (hb : H[b]? = some ⟨[], es, et, true, true⟩) (hy : SlR A (vw 0 H) (e ty) l) (hl : l.length ≤ 1048576) (hby : bytes ≤ 1048576) (hlo : lo ≤ H.length)
    (k : ∀ S' L v, TmpL A fl es et lo (H ++ L) S' v l → Wh p r (putE e (some d) v) (H ++ L) S' Q) : Wh (p + 1) (⟨some d, none, .app es et bytes false (.t tx) (.t ty)⟩ :: r) e H S Q := by
  have hbl := (List.getElem?_eq_some_iff.1 hb).1
  by_cases h0 : l = []
  · subst h0
    obtain ⟨_, a, ha, _⟩ := hy
    have hk := k S [] (sli b 0 0) ⟨by simp, (fun a ha => by cases ha), .inl ⟨rfl, b, rfl, by rw [List.append_nil]; exact hb⟩⟩
    rw [List.append_nil] at hk
    refine heads_pure ?_ hk
    simp only [iop, Opd.ev, hx, ha, sli, List.length_nil]
    rfl
  · obtain ⟨b2, o2, hv, hg, hb2, hrd⟩ := sl_flat hA hw hes hfl hy h0
    have hne : l.length ≠ 0 := fun h => h0 (List.eq_nil_of_length_eq_zero h)
    have hbytes : l.length * bytes ≤ 1048576 * 1048576 := Nat.mul_le_mul hl hby
    refine Wh.step (v := sli H.length 0 l.length) (S' := (H.length, ⟨l.flatMap fl, es, et, true, true⟩) :: S) (H' := H ++ [sealB ⟨l.flatMap fl, es, et, true, true⟩]) (.inr (.inl ⟨⟨l.flatMap fl, es, et, true, true⟩, rfl, rfl, rfl, ?_, ?_, l.length, hne, rfl⟩)) ?_
    · rw [List.all_eq_true]
      intro v hvm
      obtain ⟨a, _, ha⟩ := List.mem_flatMap.1 hvm
      exact List.all_eq_true.1 (hsc a) v ha
    · simp only [iop, Opd.ev, hx, hv, sli, if_neg hne, hg, hb]
      rw [if_neg (by omega), if_pos (by refine ⟨by trivial, by trivial, by trivial, by trivial, by trivial, by trivial, ?_, ?_⟩ <;> omega)]
    · refine k _ [_] _ ⟨hl, fun a ha => A.mono (agx_sub (AgX.app [] H _)) (hrd a ha), .inr ⟨H.length, _, h0, rfl, hlo, List.mem_cons_self, rfl, ?_⟩⟩
      simp
theorem heads_appB {lo bytes tx ty : Nat} {l l3 : List α} (hA : A.w = es) (hw : ∀ a, (fl a).length = es) (hes : es ≠ 0) (hfl : ∀ {V : Vw} {cs : List Value} {a : α}, A.rd V cs a → cs = fl a) (hsc : ∀ a, (fl a).all scal1 = true)
    (hT : TmpL A fl es et lo H S (e tx) l) (htt : tx ≠ ty) (hy : SlR A (vw 0 H) (e ty) l3) (hd : ∀ b o n c b' n', e ty = .slice (some ⟨b, o, none⟩) n c → e tx = sli b' 0 n' → lo ≤ b' → b ≠ b') (hl : l3.length ≤ 1048576) (hby : bytes ≤ 1048576)
    (k : ∀ S' L v, SlR A (vw 0 (H ++ L)) v (l ++ l3) → Wh p r (putE e (some d) v) (H ++ L) S' Q) : Wh (p + 1) (⟨some d, none, .app es et bytes false (.t tx) (.t ty)⟩ :: r) e H S Q := by
  obtain ⟨hl0, hrd, hT⟩ := hT
  by_cases h3 : l3 = []
  · subst h3
    obtain ⟨_, a, ha, _⟩ := hy
    rw [List.append_nil] at k
    rcases hT with ⟨rfl, b, hx, hb⟩ | ⟨b, kb, hne, hx, hlo, hm, rfl, hb⟩
    · have hk := k S [] (sli b 0 0) ⟨by simp, _, rfl, .inl rfl⟩
      rw [List.append_nil] at hk
      refine heads_pure ?_ hk
      simp only [iop, Opd.ev, hx, ha, sli, List.length_nil]
      rfl
    · have hk := k S [] (sli b 0 l.length) (by rw [List.append_nil]; exact blk_slF hA hw hb hrd (by omega))
      rw [List.append_nil] at hk
      refine heads_pure ?_ hk
      simp only [iop, Opd.ev, hx, ha, sli, List.length_nil]
      rfl
  · obtain ⟨b2, o2, hv, hg, hb2, hrd3⟩ := sl_flat hA hw hes hfl hy h3
    have hne3 : l3.length ≠ 0 := fun h => h3 (List.eq_nil_of_length_eq_zero h)
    have hbytes : (l.length + l3.length) * bytes ≤ 2097152 * 1048576 := Nat.mul_le_mul (by omega) hby
    have hbytes3 : l3.length * bytes ≤ 1048576 * 1048576 := Nat.mul_le_mul hl hby
    have hnew : ∀ (ap so : Bool), SlR A (vw 0 (H ++ [⟨l.flatMap fl ++ l3.flatMap fl, es, et, ap, so⟩])) (sli H.length 0 (l.length + l3.length)) (l ++ l3) := fun ap so => by
      have := blk_slF (A := A) (fl := fl) (l := l ++ l3) (b := H.length) (H := H ++ [⟨l.flatMap fl ++ l3.flatMap fl, es, et, ap, so⟩]) hA hw (et := et) (ap := ap) (so := so) (by simp) (fun a ha => by
        rcases List.mem_append.1 ha with h | h
        · exact A.mono (agx_sub (AgX.app [] H _)) (hrd a h)
        · exact A.mono (agx_sub (AgX.app [] H _)) (hrd3 a h)) (by rw [List.length_append]; omega)
      rwa [List.length_append] at this
    rcases hT with ⟨rfl, b, hx, hb⟩ | ⟨b, kb, hne, hx, hlo, hm, rfl, hb⟩
    · have hbl := (List.getElem?_eq_some_iff.1 hb).1
      have hk := k S [⟨l3.flatMap fl, es, et, true, true⟩] (sli H.length 0 l3.length) (by simpa using hnew true true)
      refine heads_plain ?_ hk
      simp only [iop, Opd.ev, hx, hv, sli, if_neg hne3, hg, hb]
      rw [if_neg (by omega), if_pos (by refine ⟨by trivial, by trivial, by trivial, by trivial, by trivial, by trivial, ?_, ?_⟩ <;> omega)]
    · have hnel : l.length ≠ 0 := fun h => hne (List.eq_nil_of_length_eq_zero h)
      refine Wh.step (v := sli H.length 0 (l.length + l3.length)) (H' := H ++ [⟨l.flatMap fl ++ l3.flatMap fl, es, et, true, false⟩]) (.inr (.inr ⟨es, et, bytes, tx, ty, b, l.length, l3.length, ⟨b2, o2, none⟩, l3.length, _, l3.flatMap fl, rfl, htt, hx, hv, hnel, hne3, hes, hm, rfl, rfl, rfl, flat_len hw l, hd _ _ _ _ _ _ hv hx hlo, hg, ?_, by omega, by omega, rfl, rfl⟩)) ?_
      · rw [List.all_eq_true]
        intro v hvm
        obtain ⟨a, _, ha⟩ := List.mem_flatMap.1 hvm
        exact List.all_eq_true.1 (hsc a) v ha
      · exact k _ [_] _ (hnew true false)
end
theorem wpc_head {F : Nat → Option IFn} {lo p : Nat} {l : List IOper} {e : Env} {H : Heap} {K : X → Env → Heap → Prop} (h : Wh p l e H [] fun em Hm => wpo F lo (l.drop p) em Hm (K .n)) : wpc F lo (.reg (some p) l) e H K := by
  obtain ⟨em, Hm, h1, h2⟩ := h
  exact wpc_regA h1 h2
theorem seq_head {F : Nat → Option IFn} {lo p : Nat} {l : List IOper} {b : ICode} {e : Env} {H : Heap} {K : X → Env → Heap → Prop} (h : Wh p l e H [] fun em Hm => wpo F lo (l.drop p) em Hm fun e1 H1 => wpc F lo b e1 H1 K) : wpc F lo (.seq (.reg (some p) l) b) e H K := wpc_seq (wpc_head h)
theorem Wh.end {Q : Env → Heap → Prop} {l : List IOper} {e : Env} {H : Heap} {S : List (Nat × Blk)} (h : Q e H) : Wh 0 l e H S Q := ⟨e, H, ⟨rfl, rfl⟩, h⟩
end Go.Proofs.YtbjeldblaclpnaaI
end
section
/- The law FnPlanSize on the ideal machine. -/
set_option linter.unusedVariables false
set_option linter.unusedSimpArgs false
namespace Go.Proofs.YtbjeldblaclpnaaI
open Go Go.RowKit
def c_lawPZ : IFn := ⟨1, 80, [.t 2],
 .seq (.reg none [
    ⟨(some 2), none, .mov (.c (.bool false))⟩])
 (.seq (.seq (.reg none [
     ⟨(some 9), none, .mov (.t 0)⟩,
     ⟨(some 10), none, .len (.t 9)⟩,
     ⟨(some 11), none, .bin .gtr (.t 10) (.c (.int .i64 1048576))⟩])
  (.cond (.t 11) (.seq (.reg none [
      ⟨(some 2), none, .mov (.c (.bool true))⟩])
   (.ret)) (.skip)))
 (.seq (.reg none [
    ⟨(some 13), none, .mov (.t 0)⟩,
    ⟨(some 14), none, .call .k (.f 32) [(.t 13)]⟩,
    ⟨(some 12), none, .mov (.t 14)⟩,
    ⟨(some 15), none, .ext (.t 12) 0⟩,
    ⟨(some 16), none, .ext (.t 12) 1⟩,
    ⟨(some 3), none, .new [(.slice none 0 0), (.slice none 0 0)]⟩,
    ⟨(some 4), none, .new [(.slice none 0 0), (.slice none 0 0), (.slice none 0 0)]⟩,
    ⟨none, none, .store 2 (.t 3) (.t 15)⟩,
    ⟨none, none, .store 3 (.t 4) (.t 16)⟩])
 (.seq (.reg none [
    ⟨(some 17), none, .load true 2 (.t 3)⟩,
    ⟨(some 18), none, .load true 3 (.t 4)⟩,
    ⟨(some 19), none, .call .q (.f 21) [(.t 17), (.t 18)]⟩,
    ⟨(some 5), none, .mov (.t 19)⟩])
 (.seq (.seq (.reg none [
     ⟨(some 20), none, .mov (.t 5)⟩,
     ⟨(some 21), none, .load true 2 (.t 3)⟩,
     ⟨(some 22), none, .load true 3 (.t 4)⟩,
     ⟨(some 23), none, .call .q (.f 33) [(.t 21), (.t 22)]⟩,
     ⟨(some 24), none, .beq true (.t 20) (.t 23)⟩,
     ⟨(some 25), none, .mov (.t 24)⟩,
     ⟨(some 26), (some (25, false)), .mov (.t 5)⟩,
     ⟨(some 27), (some (25, false)), .un .not (.t 26)⟩,
     ⟨(some 28), none, .pick (.t 25) (.c (.bool true)) (.t 27)⟩])
  (.cond (.t 28) (.seq (.reg none [
      ⟨(some 29), none, .mov (.t 5)⟩,
      ⟨(some 30), none, .load true 2 (.t 3)⟩,
      ⟨(some 31), none, .load true 3 (.t 4)⟩,
      ⟨(some 32), none, .call .q (.f 33) [(.t 30), (.t 31)]⟩,
      ⟨(some 33), none, .beq false (.t 29) (.t 32)⟩,
      ⟨(some 2), none, .mov (.t 33)⟩])
   (.ret)) (.skip)))
 (.seq (.reg (some 12) [
    ⟨(some 34), none, .fad 0 (.t 4)⟩,
    ⟨(some 35), none, .load false 1 (.t 34)⟩,
    ⟨(some 36), none, .fad 1 (.t 4)⟩,
    ⟨(some 37), none, .load false 1 (.t 36)⟩,
    ⟨(some 38), none, .lit 1 3 0 [] []⟩,
    ⟨(some 39), none, .fad 2 (.t 4)⟩,
    ⟨(some 40), none, .load false 1 (.t 39)⟩,
    ⟨(some 41), none, .app 1 3 8 false (.t 38) (.t 40)⟩,
    ⟨(some 42), none, .lit 1 3 1 [(.int .i64 0)] [(0, 1, (.c (.int .i64 0)))]⟩,
    ⟨(some 43), none, .app 1 3 8 false (.t 41) (.t 42)⟩,
    ⟨(some 44), none, .build [(.slice none 0 0), (.slice none 0 0), (.slice none 0 0)] [(0, 1, (.t 35)), (1, 1, (.t 37)), (2, 1, (.t 43))]⟩,
    ⟨(some 6), none, .new [(.slice none 0 0), (.slice none 0 0), (.slice none 0 0)]⟩,
    ⟨none, none, .store 3 (.t 6) (.t 44)⟩])
 (.seq (.reg (some 12) [
    ⟨(some 45), none, .fad 0 (.t 4)⟩,
    ⟨(some 46), none, .load false 1 (.t 45)⟩,
    ⟨(some 47), none, .lit 1 3 0 [] []⟩,
    ⟨(some 48), none, .fad 1 (.t 4)⟩,
    ⟨(some 49), none, .load false 1 (.t 48)⟩,
    ⟨(some 50), none, .app 1 3 8 false (.t 47) (.t 49)⟩,
    ⟨(some 51), none, .lit 1 3 1 [(.int .i64 0)] [(0, 1, (.c (.int .i64 0)))]⟩,
    ⟨(some 52), none, .app 1 3 8 false (.t 50) (.t 51)⟩,
    ⟨(some 53), none, .fad 2 (.t 4)⟩,
    ⟨(some 54), none, .load false 1 (.t 53)⟩,
    ⟨(some 55), none, .build [(.slice none 0 0), (.slice none 0 0), (.slice none 0 0)] [(0, 1, (.t 46)), (1, 1, (.t 52)), (2, 1, (.t 54))]⟩,
    ⟨(some 7), none, .new [(.slice none 0 0), (.slice none 0 0), (.slice none 0 0)]⟩,
    ⟨none, none, .store 3 (.t 7) (.t 55)⟩])
 (.seq (.reg (some 9) [
    ⟨(some 56), none, .fad 0 (.t 4)⟩,
    ⟨(some 57), none, .load false 1 (.t 56)⟩,
    ⟨(some 58), none, .sub 1 (.t 57) (some (.c (.int .i64 1))) none⟩,
    ⟨(some 59), none, .fad 1 (.t 4)⟩,
    ⟨(some 60), none, .load false 1 (.t 59)⟩,
    ⟨(some 61), none, .fad 2 (.t 4)⟩,
    ⟨(some 62), none, .load false 1 (.t 61)⟩,
    ⟨(some 63), none, .build [(.slice none 0 0), (.slice none 0 0), (.slice none 0 0)] [(0, 1, (.t 58)), (1, 1, (.t 60)), (2, 1, (.t 62))]⟩,
    ⟨(some 8), none, .new [(.slice none 0 0), (.slice none 0 0), (.slice none 0 0)]⟩,
    ⟨none, none, .store 3 (.t 8) (.t 63)⟩])
 (.seq (.reg none [
    ⟨(some 64), none, .load true 2 (.t 3)⟩,
    ⟨(some 65), none, .load true 3 (.t 6)⟩,
    ⟨(some 66), none, .call .q (.f 21) [(.t 64), (.t 65)]⟩,
    ⟨(some 67), none, .un .not (.t 66)⟩,
    ⟨(some 68), none, .mov (.t 67)⟩,
    ⟨(some 69), (some (68, true)), .load true 2 (.t 3)⟩,
    ⟨(some 70), (some (68, true)), .load true 3 (.t 7)⟩,
    ⟨(some 71), (some (68, true)), .call .q (.f 21) [(.t 69), (.t 70)]⟩,
    ⟨(some 72), (some (68, true)), .un .not (.t 71)⟩,
    ⟨(some 73), none, .pick (.t 68) (.t 72) (.c (.bool false))⟩,
    ⟨(some 74), none, .mov (.t 73)⟩,
    ⟨(some 75), (some (74, true)), .load true 2 (.t 3)⟩,
    ⟨(some 76), (some (74, true)), .load true 3 (.t 8)⟩,
    ⟨(some 77), (some (74, true)), .call .q (.f 21) [(.t 75), (.t 76)]⟩,
    ⟨(some 78), (some (74, true)), .un .not (.t 77)⟩,
    ⟨(some 79), none, .pick (.t 74) (.t 78) (.c (.bool false))⟩,
    ⟨(some 2), none, .mov (.t 79)⟩])
 (.ret)))))))))⟩
theorem sl_drop1 {α : Type} {A : Co α} {V : Vw} {a : Option Addr} {l : List α} (h : SlR A V (.slice a l.length l.length) l) : SlR A V (.slice (a.map fun a => ⟨a.block, a.off + 1 * A.w, none⟩) (l.drop 1).length (l.drop 1).length) (l.drop 1) := by
  obtain ⟨h0, a', e, h1⟩ := h
  simp only [Value.slice.injEq] at e
  obtain ⟨rfl, _⟩ := e
  refine ⟨by rw [List.length_drop]; omega, _, rfl, ?_⟩
  rcases h1 with rfl | ⟨b, o, rfl, h1⟩
  · exact .inl rfl
  · refine .inr ⟨b, o + 1 * A.w, rfl, fun i hi => ?_⟩
    rw [List.length_drop] at hi
    obtain ⟨cs, h2, h3⟩ := h1 (i + 1) (by omega)
    refine ⟨cs, ?_, by rw [List.getElem_drop]; simpa [Nat.add_comm] using h3⟩
    rw [show o + 1 * A.w + i * A.w = o + (i + 1) * A.w by rw [Nat.add_mul]; omega]
    exact h2
theorem lawPZ_ok {F : Nat → Option IFn} {f : Nat} (hf : F f = some c_lawPZ) (gd : DrawPl F 32) (gi : PlanOkV F 21) (gs : PlanOkV F 33) : LawB F f := by
  intro H v code hv
  have hv0 := hv
  obtain ⟨h0, a, rfl, _⟩ := hv
  refine QC.mk hf rfl ?_
  refine seq_reg ?_
  simp only [go_sem, binC]
  refine seq_assoc (seq_reg ?_)
  simp only [go_sem, binC]
  by_cases hbig : 1048576 < (code.length : Int)
  · refine seq_cond (t := true) (by simp only [go_sem, binC]; rw [decide_eq_true hbig]) ?_
    simp only [go_sem, binC]
    refine seq_assoc (seq_reg ?_)
    simp only [go_sem, binC]
    exact seq_ret ⟨Or.inr rfl, .bool true, by simp only [go_sem, binC], rfl, rfl⟩
  refine seq_cond (t := false) (by simp only [go_sem, binC]; rw [decide_eq_false hbig]) ?_
  simp only [go_sem, binC]
  refine seq_skip (seq_reg ?_)
  simp only [go_sem, binC]
  obtain ⟨d, lv, sv, tv, hw, dw, ls, l, ts, homes, does, H1, k, hx, r1, r2, r3, r4, r5, r6, htl, hhl, hdl⟩ := gd H _ code hv0
  have hl1 := hx.1
  obtain ⟨hls0, la, rfl, _⟩ := id r1
  obtain ⟨hsl0, sa, rfl, _⟩ := id r2
  obtain ⟨_, ta, rfl, _⟩ := id r4
  obtain ⟨_, ha, rfl, _⟩ := id r5
  obtain ⟨_, da, rfl, _⟩ := id r6
  refine op_callK (by simp only [go_sem, binC]; exact k) ?_
  simp only [go_sem, binC]
  refine ⟨by omega, by omega, ?_⟩
  refine wpc_gen fun H2 hH2 => ?_
  have hb : H2[H1.length]? = some ⟨[.slice la ls.length ls.length, .slice sa l.length l.length], 0, 0, false, true⟩ := hH2 ▸ get_new0 _ _
  have hbp : H2[H1.length + 1]? = some ⟨[.slice ta ts.length ts.length, .slice ha homes.length homes.length, .slice da does.length does.length], 0, 0, false, true⟩ := hH2 ▸ get_new _ _ 1
  have hy : AgX [] H1 H2 := hH2 ▸ AgX.app [] _ _
  have hl2 : H2.length = H1.length + 2 := by rw [hH2, List.length_append]; rfl
  replace r1 := r1.mono (agx_sub hy)
  replace r2 := r2.mono (agx_sub hy)
  replace r4 := r4.mono (agx_sub hy)
  replace r5 := r5.mono (agx_sub hy)
  replace r6 := r6.mono (agx_sub hy)
  clear hH2 k
  have hk1 := gi H2 d _ _ _ _ _ ls l ts homes does r1 r2 r3 r4 r5 r6
  have hk2 := gs H2 d _ _ _ _ _ ls l ts homes does r1 r2 r3 r4 r5 r6
  refine seq_reg ?_
  simp only [go_sem, binC, gc_of hb, gc_of hbp, inBlk_some]
  refine op_callQ (by simp only [go_sem, binC]; exact hk1) ?_
  simp only [go_sem, binC]
  refine seq_assoc (seq_reg ?_)
  simp only [go_sem, binC, gc_of hb, gc_of hbp, inBlk_some]
  refine op_callQ (by simp only [go_sem, binC]; exact hk2) ?_
  cases hok : planOkV d (ls, l) ts homes does with
  | false =>
    simp only [go_sem, binC, bne_self_eq_false, beq_self_eq_true]
    refine seq_cond (t := true) rfl ?_
    simp only [go_sem, binC]
    refine seq_assoc (seq_reg ?_)
    simp only [go_sem, binC, gc_of hb, gc_of hbp, inBlk_some]
    refine op_callQ (by simp only [go_sem, binC]; exact hk2) ?_
    rw [hok]
    simp only [go_sem, binC, beq_self_eq_true]
    exact seq_ret ⟨Or.inr rfl, .bool true, by simp only [go_sem, binC], rfl, rfl⟩
  | true =>
  simp only [go_sem, binC, bne_self_eq_false, beq_self_eq_true]
  refine seq_cond (t := false) rfl ?_
  simp only [go_sem, binC]
  obtain ⟨a1, a2, a3, a4, a5, a6⟩ := planOkV_iff.1 hok
  have n1 : planOkV d (ls, l) ts homes (does ++ [0]) = false := Bool.eq_false_iff.2 fun h => by
    have := (planOkV_iff.1 h).2.2.2.1
    rw [List.length_append] at this
    simp at this
    omega
  have n2 : planOkV d (ls, l) ts (homes ++ [0]) does = false := Bool.eq_false_iff.2 fun h => by
    have h1 := (planOkV_iff.1 h).2.2.1
    unfold homesB at h1 a3
    simp only [Bool.and_eq_true, decide_eq_true_eq, List.length_append, List.length_cons, List.length_nil] at h1 a3
    omega
  have ht3 : ts.length = 3 := by
    unfold trK at a2
    simp only [Bool.and_eq_true, decide_eq_true_eq] at a2
    exact a2.1
  have n3 : planOkV d (ls, l) (ts.drop 1) homes does = false := Bool.eq_false_iff.2 fun h => by
    have h1 := (planOkV_iff.1 h).2.1
    unfold trK at h1
    simp only [Bool.and_eq_true, decide_eq_true_eq, List.length_drop] at h1
    omega
  refine seq_skip ?_
  refine wpc_genE fun e0 he => ?_
  have f3 : e0 3 = ptr H1.length 0 := by rw [he]; simp only [go_sem, binC]
  have f4 : e0 4 = ptr (H1.length + 1) 0 := by rw [he]; simp only [go_sem, binC]
  clear he
  refine seq_head ?_
  refine heads_pure (v := ptr (H1.length + 1) 0) (by simp [iop, Opd.ev, putE_get, ptr, sli, inBlk_some, valOf, fillL, Value.cells, one, setL, nilS, f4]) ?_
  refine heads_pure (v := .slice ta ts.length ts.length) (by simp [iop, Opd.ev, putE_get, ptr, sli, inBlk_some, valOf, fillL, Value.cells, one, setL, nilS, gc_of hbp]) ?_
  refine heads_pure (v := ptr (H1.length + 1) 1) (by simp [iop, Opd.ev, putE_get, ptr, sli, inBlk_some, valOf, fillL, Value.cells, one, setL, nilS, f4]) ?_
  refine heads_pure (v := .slice ha homes.length homes.length) (by simp [iop, Opd.ev, putE_get, ptr, sli, inBlk_some, valOf, fillL, Value.cells, one, setL, nilS, gc_of hbp]) ?_
  refine heads_plain (v := sli H2.length 0 0) (L := [⟨[], 1, 3, true, true⟩]) (by simp [iop, Opd.ev, putE_get, ptr, sli, inBlk_some, valOf, fillL, Value.cells, one, setL, nilS]) ?_
  have hq1 : AgX [] H2 (H2 ++ ([⟨[], 1, 3, true, true⟩] : Heap)) := AgX.app [] _ _
  have hbq := hq1.get hbp (by simp)
  refine heads_pure (v := ptr (H1.length + 1) 2) (by simp [iop, Opd.ev, putE_get, ptr, sli, inBlk_some, valOf, fillL, Value.cells, one, setL, nilS, f4]) ?_
  refine heads_pure (v := .slice da does.length does.length) (by simp [iop, Opd.ev, putE_get, ptr, sli, inBlk_some, valOf, fillL, Value.cells, one, setL, nilS, gc_of hbq]) ?_
  refine heads_appA (lo := H2.length) (A := Co.int) (fl := fi) (l := does) (b := H2.length) rfl (fun _ => rfl) (by omega) (fun h => h.1) (fun _ => rfl) (by simp [putE_get, sli]) (by simp) (by simp only [putE_get]; exact r6.mono (agx_sub hq1)) (by omega) (by omega) (by rw [List.length_append]; omega) fun S1 L1 v1 hT1 => ?_
  refine heads_plain (v := sli (H2 ++ ([⟨[], 1, 3, true, true⟩] : Heap) ++ L1).length 0 1) (L := [⟨[.int .i64 0], 1, 3, true, true⟩]) (by simp [iop, Opd.ev, putE_get, ptr, sli, inBlk_some, valOf, fillL, Value.cells, one, setL, nilS]) ?_
  have hlit : SlR Co.int (vw 0 (H2 ++ ([⟨[], 1, 3, true, true⟩] : Heap) ++ L1 ++ ([⟨[.int .i64 0], 1, 3, true, true⟩] : Heap))) (sli (H2 ++ ([⟨[], 1, 3, true, true⟩] : Heap) ++ L1).length 0 1) [0] := ints_sl0 (l := [0]) (get_new0 _ _) (fun x hx => by simp only [List.mem_singleton] at hx; subst hx; exact ⟨by omega, by omega⟩) (by simp)
  have hT2 := hT1.more [⟨[.int .i64 0], 1, 3, true, true⟩]
  refine heads_appB (lo := H2.length) (A := Co.int) (fl := fi) (l := does) (l3 := [0]) rfl (fun _ => rfl) (by omega) (fun h => h.1) (fun _ => rfl) (by simp only [putE_get]; exact hT2) (by omega) (by simp only [putE_get]; exact hlit) (fun b o n c b' n' h1 h2 h3 => ?_) (by simp) (by omega) fun S2 L2 v2 hv2 => ?_
  · simp only [putE_get, sli] at h1 h2
    obtain ⟨_, _, hT2⟩ := hT1
    rcases hT2 with ⟨_, b0, h4, h5⟩ | ⟨b0, kb, _, h4, _, _, _, h5⟩
    all_goals
      have h6 := (List.getElem?_eq_some_iff.1 h5).1
      simp only [Nat.reduceEqDiff, if_false, if_true, eq_self_iff_true] at h1 h2
      have q1 := congrArg (fun v => match v with | Value.slice (some a) _ _ => a.block | _ => 0) h1
      have q2 := congrArg (fun v => match v with | Value.slice (some a) _ _ => a.block | _ => 0) (h4.symm.trans h2)
      simp only [sli] at q1 q2
      omega
  generalize hG : (H2 ++ ([⟨[], 1, 3, true, true⟩] : Heap) ++ L1 ++ ([⟨[.int .i64 0], 1, 3, true, true⟩] : Heap) ++ L2) = Hg at hv2 ⊢
  have hqg : AgX [] H2 Hg := by rw [← hG]; simp only [List.append_assoc]; exact AgX.app [] _ _
  clear hG hT1 hT2 hlit hq1 hbq
  obtain ⟨_, vb, rfl, _⟩ := id hv2
  have rA := hv2
  clear hv2
  refine heads_pure (v := .agg #[.slice ta ts.length ts.length, .slice ha homes.length homes.length, .slice vb (does ++ [0]).length (does ++ [0]).length]) (by simp [iop, Opd.ev, putE_get, ptr, sli, inBlk_some, valOf, fillL, Value.cells, one, setL, nilS]) ?_
  refine heads_plain (v := ptr Hg.length 0) (L := [⟨[nilS, nilS, nilS], 0, 0, false, true⟩]) (by simp [iop, Opd.ev, putE_get, ptr, sli, inBlk_some, valOf, fillL, Value.cells, one, setL, nilS]) ?_
  refine Wh.end ?_
  simp only [List.drop_succ_cons, List.drop_zero]
  have hlHg := hqg.1
  simp only [go_sem, binC]
  refine ⟨by omega, ?_⟩
  refine wpc_gen fun H3 hH3 => ?_
  have hx3 : AgX [] Hg H3 := hH3 ▸ AgX.app [] _ _
  have hb6 : H3[Hg.length]? = some ⟨[.slice ta ts.length ts.length, .slice ha homes.length homes.length, .slice vb (does ++ [0]).length (does ++ [0]).length], 0, 0, false, true⟩ := hH3 ▸ get_new0 _ _
  have hl3 : H3.length = Hg.length + 1 := by rw [hH3, List.length_append]; rfl
  clear hH3
  replace rA := rA.mono (agx_sub hx3)
  have hx23 := hqg.tr hx3
  replace hb := hx23.get hb (by simp)
  replace hbp := hx23.get hbp (by simp)
  replace r1 := r1.mono (agx_sub hx23)
  replace r2 := r2.mono (agx_sub hx23)
  replace r4 := r4.mono (agx_sub hx23)
  replace r5 := r5.mono (agx_sub hx23)
  replace r6 := r6.mono (agx_sub hx23)
  refine wpc_genE fun e1 he => ?_
  have g3 : e1 3 = ptr H1.length 0 := by rw [he]; simp only [go_sem, binC, f3]
  have g4 : e1 4 = ptr (H1.length + 1) 0 := by rw [he]; simp only [go_sem, binC, f4]
  have g6 : e1 6 = ptr Hg.length 0 := by rw [he]; simp only [go_sem, binC]
  clear he f3 f4
  refine seq_head ?_
  refine heads_pure (v := ptr (H1.length + 1) 0) (by simp [iop, Opd.ev, putE_get, ptr, sli, inBlk_some, valOf, fillL, Value.cells, one, setL, nilS, g4]) ?_
  refine heads_pure (v := .slice ta ts.length ts.length) (by simp [iop, Opd.ev, putE_get, ptr, sli, inBlk_some, valOf, fillL, Value.cells, one, setL, nilS, gc_of hbp]) ?_
  refine heads_plain (v := sli H3.length 0 0) (L := [⟨[], 1, 3, true, true⟩]) (by simp [iop, Opd.ev, putE_get, ptr, sli, inBlk_some, valOf, fillL, Value.cells, one, setL, nilS]) ?_
  have hq1 : AgX [] H3 (H3 ++ ([⟨[], 1, 3, true, true⟩] : Heap)) := AgX.app [] _ _
  have hbq := hq1.get hbp (by simp)
  refine heads_pure (v := ptr (H1.length + 1) 1) (by simp [iop, Opd.ev, putE_get, ptr, sli, inBlk_some, valOf, fillL, Value.cells, one, setL, nilS, g4]) ?_
  refine heads_pure (v := .slice ha homes.length homes.length) (by simp [iop, Opd.ev, putE_get, ptr, sli, inBlk_some, valOf, fillL, Value.cells, one, setL, nilS, gc_of hbq]) ?_
  refine heads_appA (lo := H3.length) (A := Co.int) (fl := fi) (l := homes) (b := H3.length) rfl (fun _ => rfl) (by omega) (fun h => h.1) (fun _ => rfl) (by simp [putE_get, sli]) (by simp) (by simp only [putE_get]; exact r5.mono (agx_sub hq1)) (by omega) (by omega) (by rw [List.length_append]; omega) fun S1 L1 v1 hT1 => ?_
  refine heads_plain (v := sli (H3 ++ ([⟨[], 1, 3, true, true⟩] : Heap) ++ L1).length 0 1) (L := [⟨[.int .i64 0], 1, 3, true, true⟩]) (by simp [iop, Opd.ev, putE_get, ptr, sli, inBlk_some, valOf, fillL, Value.cells, one, setL, nilS]) ?_
  have hlit : SlR Co.int (vw 0 (H3 ++ ([⟨[], 1, 3, true, true⟩] : Heap) ++ L1 ++ ([⟨[.int .i64 0], 1, 3, true, true⟩] : Heap))) (sli (H3 ++ ([⟨[], 1, 3, true, true⟩] : Heap) ++ L1).length 0 1) [0] := ints_sl0 (l := [0]) (get_new0 _ _) (fun x hx => by simp only [List.mem_singleton] at hx; subst hx; exact ⟨by omega, by omega⟩) (by simp)
  have hT2 := hT1.more [⟨[.int .i64 0], 1, 3, true, true⟩]
  refine heads_appB (lo := H3.length) (A := Co.int) (fl := fi) (l := homes) (l3 := [0]) rfl (fun _ => rfl) (by omega) (fun h => h.1) (fun _ => rfl) (by simp only [putE_get]; exact hT2) (by omega) (by simp only [putE_get]; exact hlit) (fun b o n c b' n' h1 h2 h3 => ?_) (by simp) (by omega) fun S2 L2 v2 hv2 => ?_
  · simp only [putE_get, sli] at h1 h2
    obtain ⟨_, _, hT2⟩ := hT1
    rcases hT2 with ⟨_, b0, h4, h5⟩ | ⟨b0, kb, _, h4, _, _, _, h5⟩
    all_goals
      have h6 := (List.getElem?_eq_some_iff.1 h5).1
      simp only [Nat.reduceEqDiff, if_false, if_true, eq_self_iff_true] at h1 h2
      have q1 := congrArg (fun v => match v with | Value.slice (some a) _ _ => a.block | _ => 0) h1
      have q2 := congrArg (fun v => match v with | Value.slice (some a) _ _ => a.block | _ => 0) (h4.symm.trans h2)
      simp only [sli] at q1 q2
      omega
  generalize hG : (H3 ++ ([⟨[], 1, 3, true, true⟩] : Heap) ++ L1 ++ ([⟨[.int .i64 0], 1, 3, true, true⟩] : Heap) ++ L2) = Hk at hv2 ⊢
  have hqk : AgX [] H3 Hk := by rw [← hG]; simp only [List.append_assoc]; exact AgX.app [] _ _
  clear hG hT1 hT2 hlit hq1 hbq
  obtain ⟨_, vc, rfl, _⟩ := id hv2
  have rB := hv2
  clear hv2
  have hbg := hqk.get hbp (by simp)
  refine heads_pure (v := ptr (H1.length + 1) 2) (by simp [iop, Opd.ev, putE_get, ptr, sli, inBlk_some, valOf, fillL, Value.cells, one, setL, nilS, g4]) ?_
  refine heads_pure (v := .slice da does.length does.length) (by simp [iop, Opd.ev, putE_get, ptr, sli, inBlk_some, valOf, fillL, Value.cells, one, setL, nilS, gc_of hbg]) ?_
  refine heads_pure (v := .agg #[.slice ta ts.length ts.length, .slice vc (homes ++ [0]).length (homes ++ [0]).length, .slice da does.length does.length]) (by simp [iop, Opd.ev, putE_get, ptr, sli, inBlk_some, valOf, fillL, Value.cells, one, setL, nilS]) ?_
  refine heads_plain (v := ptr Hk.length 0) (L := [⟨[nilS, nilS, nilS], 0, 0, false, true⟩]) (by simp [iop, Opd.ev, putE_get, ptr, sli, inBlk_some, valOf, fillL, Value.cells, one, setL, nilS]) ?_
  refine Wh.end ?_
  simp only [List.drop_succ_cons, List.drop_zero]
  have hlHk := hqk.1
  simp only [go_sem, binC]
  refine ⟨by omega, ?_⟩
  refine wpc_gen fun H4 hH4 => ?_
  have hx4 : AgX [] Hk H4 := hH4 ▸ AgX.app [] _ _
  have hb7 : H4[Hk.length]? = some ⟨[.slice ta ts.length ts.length, .slice vc (homes ++ [0]).length (homes ++ [0]).length, .slice da does.length does.length], 0, 0, false, true⟩ := hH4 ▸ get_new0 _ _
  have hl4 : H4.length = Hk.length + 1 := by rw [hH4, List.length_append]; rfl
  clear hH4
  replace rB := rB.mono (agx_sub hx4)
  have hx34 := hqk.tr hx4
  replace rA := rA.mono (agx_sub hx34)
  replace hb6 := hx34.get hb6 (by simp)
  replace hb := hx34.get hb (by simp)
  replace hbp := hx34.get hbp (by simp)
  replace r1 := r1.mono (agx_sub hx34)
  replace r2 := r2.mono (agx_sub hx34)
  replace r4 := r4.mono (agx_sub hx34)
  replace r5 := r5.mono (agx_sub hx34)
  replace r6 := r6.mono (agx_sub hx34)
  refine wpc_genE fun e2 he => ?_
  have k3 : e2 3 = ptr H1.length 0 := by rw [he]; simp only [go_sem, binC, g3]
  have k4 : e2 4 = ptr (H1.length + 1) 0 := by rw [he]; simp only [go_sem, binC, g4]
  have k6 : e2 6 = ptr Hg.length 0 := by rw [he]; simp only [go_sem, binC, g6]
  have k7 : e2 7 = ptr Hk.length 0 := by rw [he]; simp only [go_sem, binC]
  clear he g3 g4 g6
  have hsub : ∀ e' : Env, subV 1 (.slice ta ts.length ts.length) e' (some (.c (.int .i64 1))) none = some (.slice (ta.map fun a => ⟨a.block, a.off + 1, none⟩) (ts.drop 1).length (ts.drop 1).length) := fun e' => by
    simp [subV, subB, Opd.ev, ht3]
  have rC : SlR Co.int (vw 0 H4) (.slice (ta.map fun a => ⟨a.block, a.off + 1, none⟩) (ts.drop 1).length (ts.drop 1).length) (ts.drop 1) := sl_drop1 r4
  refine seq_regD ?_
  simp only [go_sem, binC, k3, k4, gc_of hbp, inBlk_some, hsub]
  refine ⟨by omega, ?_⟩
  refine wpc_gen fun H5 hH5 => ?_
  have hx5 : AgX [] H4 H5 := hH5 ▸ AgX.app [] _ _
  have hb8 : H5[H4.length]? = some ⟨[.slice (ta.map fun a => ⟨a.block, a.off + 1, none⟩) (ts.drop 1).length (ts.drop 1).length, .slice ha homes.length homes.length, .slice da does.length does.length], 0, 0, false, true⟩ := hH5 ▸ get_new0 _ _
  clear hH5
  have hm := agx_sub hx5
  have q1 := gi H5 d _ _ _ _ _ ls l ts homes (does ++ [0]) (r1.mono hm) (r2.mono hm) r3 (r4.mono hm) (r5.mono hm) (rA.mono hm)
  have q2 := gi H5 d _ _ _ _ _ ls l ts (homes ++ [0]) does (r1.mono hm) (r2.mono hm) r3 (r4.mono hm) (rB.mono hm) (r6.mono hm)
  have q3 := gi H5 d _ _ _ _ _ ls l (ts.drop 1) homes does (r1.mono hm) (r2.mono hm) r3 (rC.mono hm) (r5.mono hm) (r6.mono hm)
  rw [n1] at q1
  rw [n2] at q2
  rw [n3] at q3
  replace hb := hx5.get hb (by simp)
  replace hb6 := hx5.get hb6 (by simp)
  replace hb7 := hx5.get hb7 (by simp)
  refine seq_reg ?_
  simp only [go_sem, binC, k3, k6, k7, gc_of hb, gc_of hb6, inBlk_some]
  refine op_callQ (by simp only [go_sem, binC]; exact q1) ?_
  simp only [go_sem, binC, k3, k7, gc_of hb, gc_of hb7, inBlk_some]
  refine op_callQ (by simp only [go_sem, binC]; exact q2) ?_
  simp only [go_sem, binC, k3, gc_of hb, gc_of hb8, inBlk_some]
  refine op_callQ (by simp only [go_sem, binC]; exact q3) ?_
  simp only [go_sem, binC]
  exact wpc_ret ⟨Or.inr rfl, .bool true, by simp only [go_sem, binC], rfl, rfl⟩
end Go.Proofs.YtbjeldblaclpnaaI
end
section
/- The functions that laws on drawn plans reach, as ideal functions. -/
set_option linter.unusedVariables false
set_option linter.unusedSimpArgs false
namespace Go.Proofs.YtbjeldblaclpnaaI
open Go Go.RowKit
def fnOf : Nat → Option IFn
  | 11 => some (c_lawPZ)
  | 15 => some (c_sPlanFind)
  | 18 => some (c_sTypeOk)
  | 21 => some (c_iPlanOk)
  | 32 => some (c_drPO)
  | 33 => some (c_sPlanOk)
  | 35 => some (c_sPlanStep)
  | 43 => some (c_iTypeOk)
  | 44 => some (c_l6Open)
  | 45 => some (c_pick)
  | 46 => some (c_drPlan)
  | 48 => some (c_drTrusts)
  | 49 => some (c_sTrusts)
  | 50 => some (c_sSee)
  | 51 => some (c_lFind)
  | 52 => some (c_iTrusts)
  | 53 => some (c_iAt)
  | 55 => some (c_iAll)
  | 59 => some (c_sWhy)
  | 60 => some (c_sProg)
  | 61 => some (c_iProg)
  | 62 => some (c_iSize)
  | 63 => some (c_iHostsOk)
  | 64 => some (c_iHome1)
  | 65 => some (c_iDoes)
  | 75 => some (c_drOff)
  | 76 => some (c_sHomes21)
  | 77 => some (c_sProgSize)
  | 78 => some (c_lHome)
  | 79 => some (c_sIn)
  | 80 => some (c_lStep)
  | 81 => some (c_iIn)
  | 82 => some (c_iHost)
  | 83 => some (c_iSets)
  | 85 => some (c_iVar)
  | 86 => some (c_iWhy0)
  | 87 => some (c_drFine)
  | 88 => some (c_drProg)
  | 90 => some (c_sEither)
  | 91 => some (c_sSet)
  | 92 => some (c_sHas)
  | 93 => some (c_sAllSteps)
  | 94 => some (c_sTypeAt)
  | 95 => some (c_sTypeSets)
  | 96 => some (c_sBy)
  | 97 => some (c_lDoes)
  | 98 => some (c_iSet)
  | 99 => some (c_iHas)
  | 100 => some (c_iLabels)
  | 101 => some (c_iEvery)
  | 104 => some (c_sFine)
  | 105 => some (c_sLabelOk)
  | 106 => some (c_sSteps)
  | 107 => some (c_sCount)
  | 108 => some (c_con)
  | 109 => some (c_p1)
  | 110 => some (c_iLabelOk)
  | 111 => some (c_iSteps)
  | 112 => some (c_cfInt)
  | 113 => some (c_hk1)
  | 114 => some (c_iWithin)
  | 115 => some (c_iBy)
  | 116 => some (c_iMakes)
  | 122 => some (c_sWithin)
  | 123 => some (c_sVars21)
  | 124 => some (c_iSource)
  | 125 => some (c_iFlows)
  | 126 => some (c_sWithout)
  | 127 => some (c_drLabel)
  | 128 => some (c_drSteps)
  | 130 => some (c_sBoth)
  | 131 => some (c_sAll)
  | 132 => some (c_sAt)
  | 133 => some (c_sAny)
  | 134 => some (c_sSets)
  | 135 => some (c_iBoth)
  | 136 => some (c_sFlows)
  | 137 => some (c_sLBoth)
  | 138 => some (c_sValL)
  | 139 => some (c_sStep)
  | 140 => some (c_idx)
  | 141 => some (c_iVal)
  | 142 => some (c_ifInt)
  | 143 => some (c_vars)
  | 146 => some (c_drVal)
  | 147 => some (c_sVar)
  | 148 => some (c_sVal)
  | 149 => some (c_iNum)
  | _ => none
def cmOf (f : Nat) : CM := ⟨fun g => if [11, 18, 21, 33, 35, 43, 49, 52, 59, 60, 61, 62, 63, 64, 65, 76, 77, 78, 79, 80, 81, 82, 83, 85, 86, 90, 91, 92, 96, 98, 99, 101, 104, 105, 106, 107, 108, 109, 110, 111, 112, 113, 114, 115, 122, 124, 125, 130, 131, 133, 134, 135, 136, 137, 138, 139, 140, 141, 142, 147, 148, 149].contains g then .q else if [44, 45, 46, 48, 50, 75, 87, 88, 100, 127, 128, 132, 146].contains g then .n else .k, if [44, 45, 46, 48, 50, 75, 87, 88, 100, 127, 128, 132, 146].contains f then .n else .q, [48, 51, 97].contains f⟩
theorem hF11 : cFn Try.prog cmOf 11 = some (c_lawPZ) := by kernel_rfl
theorem hF15 : cFn Try.prog cmOf 15 = some (c_sPlanFind) := by kernel_rfl
theorem hF18 : cFn Try.prog cmOf 18 = some (c_sTypeOk) := by kernel_rfl
theorem hF21 : cFn Try.prog cmOf 21 = some (c_iPlanOk) := by kernel_rfl
theorem hF32 : cFn Try.prog cmOf 32 = some (c_drPO) := by kernel_rfl
theorem hF33 : cFn Try.prog cmOf 33 = some (c_sPlanOk) := by kernel_rfl
theorem hF35 : cFn Try.prog cmOf 35 = some (c_sPlanStep) := by kernel_rfl
theorem hF43 : cFn Try.prog cmOf 43 = some (c_iTypeOk) := by kernel_rfl
theorem hF44 : cFn Try.prog cmOf 44 = some (c_l6Open) := by kernel_rfl
theorem hF45 : cFn Try.prog cmOf 45 = some (c_pick) := by kernel_rfl
theorem hF46 : cFn Try.prog cmOf 46 = some (c_drPlan) := by kernel_rfl
theorem hF48 : cFn Try.prog cmOf 48 = some (c_drTrusts) := by kernel_rfl
theorem hF49 : cFn Try.prog cmOf 49 = some (c_sTrusts) := by kernel_rfl
theorem hF50 : cFn Try.prog cmOf 50 = some (c_sSee) := by kernel_rfl
theorem hF51 : cFn Try.prog cmOf 51 = some (c_lFind) := by kernel_rfl
theorem hF52 : cFn Try.prog cmOf 52 = some (c_iTrusts) := by kernel_rfl
theorem hF53 : cFn Try.prog cmOf 53 = some (c_iAt) := by kernel_rfl
theorem hF55 : cFn Try.prog cmOf 55 = some (c_iAll) := by kernel_rfl
theorem hF59 : cFn Try.prog cmOf 59 = some (c_sWhy) := by kernel_rfl
theorem hF60 : cFn Try.prog cmOf 60 = some (c_sProg) := by kernel_rfl
theorem hF61 : cFn Try.prog cmOf 61 = some (c_iProg) := by kernel_rfl
theorem hF62 : cFn Try.prog cmOf 62 = some (c_iSize) := by kernel_rfl
theorem hF63 : cFn Try.prog cmOf 63 = some (c_iHostsOk) := by kernel_rfl
theorem hF64 : cFn Try.prog cmOf 64 = some (c_iHome1) := by kernel_rfl
theorem hF65 : cFn Try.prog cmOf 65 = some (c_iDoes) := by kernel_rfl
theorem hF75 : cFn Try.prog cmOf 75 = some (c_drOff) := by kernel_rfl
theorem hF76 : cFn Try.prog cmOf 76 = some (c_sHomes21) := by kernel_rfl
theorem hF77 : cFn Try.prog cmOf 77 = some (c_sProgSize) := by kernel_rfl
theorem hF78 : cFn Try.prog cmOf 78 = some (c_lHome) := by kernel_rfl
theorem hF79 : cFn Try.prog cmOf 79 = some (c_sIn) := by kernel_rfl
theorem hF80 : cFn Try.prog cmOf 80 = some (c_lStep) := by kernel_rfl
theorem hF81 : cFn Try.prog cmOf 81 = some (c_iIn) := by kernel_rfl
theorem hF82 : cFn Try.prog cmOf 82 = some (c_iHost) := by kernel_rfl
theorem hF83 : cFn Try.prog cmOf 83 = some (c_iSets) := by kernel_rfl
theorem hF85 : cFn Try.prog cmOf 85 = some (c_iVar) := by kernel_rfl
theorem hF86 : cFn Try.prog cmOf 86 = some (c_iWhy0) := by kernel_rfl
theorem hF87 : cFn Try.prog cmOf 87 = some (c_drFine) := by kernel_rfl
theorem hF88 : cFn Try.prog cmOf 88 = some (c_drProg) := by kernel_rfl
theorem hF90 : cFn Try.prog cmOf 90 = some (c_sEither) := by kernel_rfl
theorem hF91 : cFn Try.prog cmOf 91 = some (c_sSet) := by kernel_rfl
theorem hF92 : cFn Try.prog cmOf 92 = some (c_sHas) := by kernel_rfl
theorem hF93 : cFn Try.prog cmOf 93 = some (c_sAllSteps) := by kernel_rfl
theorem hF94 : cFn Try.prog cmOf 94 = some (c_sTypeAt) := by kernel_rfl
theorem hF95 : cFn Try.prog cmOf 95 = some (c_sTypeSets) := by kernel_rfl
theorem hF96 : cFn Try.prog cmOf 96 = some (c_sBy) := by kernel_rfl
theorem hF97 : cFn Try.prog cmOf 97 = some (c_lDoes) := by kernel_rfl
theorem hF98 : cFn Try.prog cmOf 98 = some (c_iSet) := by kernel_rfl
theorem hF99 : cFn Try.prog cmOf 99 = some (c_iHas) := by kernel_rfl
theorem hF100 : cFn Try.prog cmOf 100 = some (c_iLabels) := by kernel_rfl
theorem hF101 : cFn Try.prog cmOf 101 = some (c_iEvery) := by kernel_rfl
theorem hF104 : cFn Try.prog cmOf 104 = some (c_sFine) := by kernel_rfl
theorem hF105 : cFn Try.prog cmOf 105 = some (c_sLabelOk) := by kernel_rfl
theorem hF106 : cFn Try.prog cmOf 106 = some (c_sSteps) := by kernel_rfl
theorem hF107 : cFn Try.prog cmOf 107 = some (c_sCount) := by kernel_rfl
theorem hF108 : cFn Try.prog cmOf 108 = some (c_con) := by kernel_rfl
theorem hF109 : cFn Try.prog cmOf 109 = some (c_p1) := by kernel_rfl
theorem hF110 : cFn Try.prog cmOf 110 = some (c_iLabelOk) := by kernel_rfl
theorem hF111 : cFn Try.prog cmOf 111 = some (c_iSteps) := by kernel_rfl
theorem hF112 : cFn Try.prog cmOf 112 = some (c_cfInt) := by kernel_rfl
theorem hF113 : cFn Try.prog cmOf 113 = some (c_hk1) := by kernel_rfl
theorem hF114 : cFn Try.prog cmOf 114 = some (c_iWithin) := by kernel_rfl
theorem hF115 : cFn Try.prog cmOf 115 = some (c_iBy) := by kernel_rfl
theorem hF116 : cFn Try.prog cmOf 116 = some (c_iMakes) := by kernel_rfl
theorem hF122 : cFn Try.prog cmOf 122 = some (c_sWithin) := by kernel_rfl
theorem hF123 : cFn Try.prog cmOf 123 = some (c_sVars21) := by kernel_rfl
theorem hF124 : cFn Try.prog cmOf 124 = some (c_iSource) := by kernel_rfl
theorem hF125 : cFn Try.prog cmOf 125 = some (c_iFlows) := by kernel_rfl
theorem hF126 : cFn Try.prog cmOf 126 = some (c_sWithout) := by kernel_rfl
theorem hF127 : cFn Try.prog cmOf 127 = some (c_drLabel) := by kernel_rfl
theorem hF128 : cFn Try.prog cmOf 128 = some (c_drSteps) := by kernel_rfl
theorem hF130 : cFn Try.prog cmOf 130 = some (c_sBoth) := by kernel_rfl
theorem hF131 : cFn Try.prog cmOf 131 = some (c_sAll) := by kernel_rfl
theorem hF132 : cFn Try.prog cmOf 132 = some (c_sAt) := by kernel_rfl
theorem hF133 : cFn Try.prog cmOf 133 = some (c_sAny) := by kernel_rfl
theorem hF134 : cFn Try.prog cmOf 134 = some (c_sSets) := by kernel_rfl
theorem hF135 : cFn Try.prog cmOf 135 = some (c_iBoth) := by kernel_rfl
theorem hF136 : cFn Try.prog cmOf 136 = some (c_sFlows) := by kernel_rfl
theorem hF137 : cFn Try.prog cmOf 137 = some (c_sLBoth) := by kernel_rfl
theorem hF138 : cFn Try.prog cmOf 138 = some (c_sValL) := by kernel_rfl
theorem hF139 : cFn Try.prog cmOf 139 = some (c_sStep) := by kernel_rfl
theorem hF140 : cFn Try.prog cmOf 140 = some (c_idx) := by kernel_rfl
theorem hF141 : cFn Try.prog cmOf 141 = some (c_iVal) := by kernel_rfl
theorem hF142 : cFn Try.prog cmOf 142 = some (c_ifInt) := by kernel_rfl
theorem hF143 : cFn Try.prog cmOf 143 = some (c_vars) := by kernel_rfl
theorem hF146 : cFn Try.prog cmOf 146 = some (c_drVal) := by kernel_rfl
theorem hF147 : cFn Try.prog cmOf 147 = some (c_sVar) := by kernel_rfl
theorem hF148 : cFn Try.prog cmOf 148 = some (c_sVal) := by kernel_rfl
theorem hF149 : cFn Try.prog cmOf 149 = some (c_iNum) := by kernel_rfl
theorem hF (g : Nat) (fn : IFn) (h : fnOf g = some fn) : cFn Try.prog cmOf g = some fn := by
  unfold fnOf at h
  split at h
  · rw [← h]; exact hF11
  · rw [← h]; exact hF15
  · rw [← h]; exact hF18
  · rw [← h]; exact hF21
  · rw [← h]; exact hF32
  · rw [← h]; exact hF33
  · rw [← h]; exact hF35
  · rw [← h]; exact hF43
  · rw [← h]; exact hF44
  · rw [← h]; exact hF45
  · rw [← h]; exact hF46
  · rw [← h]; exact hF48
  · rw [← h]; exact hF49
  · rw [← h]; exact hF50
  · rw [← h]; exact hF51
  · rw [← h]; exact hF52
  · rw [← h]; exact hF53
  · rw [← h]; exact hF55
  · rw [← h]; exact hF59
  · rw [← h]; exact hF60
  · rw [← h]; exact hF61
  · rw [← h]; exact hF62
  · rw [← h]; exact hF63
  · rw [← h]; exact hF64
  · rw [← h]; exact hF65
  · rw [← h]; exact hF75
  · rw [← h]; exact hF76
  · rw [← h]; exact hF77
  · rw [← h]; exact hF78
  · rw [← h]; exact hF79
  · rw [← h]; exact hF80
  · rw [← h]; exact hF81
  · rw [← h]; exact hF82
  · rw [← h]; exact hF83
  · rw [← h]; exact hF85
  · rw [← h]; exact hF86
  · rw [← h]; exact hF87
  · rw [← h]; exact hF88
  · rw [← h]; exact hF90
  · rw [← h]; exact hF91
  · rw [← h]; exact hF92
  · rw [← h]; exact hF93
  · rw [← h]; exact hF94
  · rw [← h]; exact hF95
  · rw [← h]; exact hF96
  · rw [← h]; exact hF97
  · rw [← h]; exact hF98
  · rw [← h]; exact hF99
  · rw [← h]; exact hF100
  · rw [← h]; exact hF101
  · rw [← h]; exact hF104
  · rw [← h]; exact hF105
  · rw [← h]; exact hF106
  · rw [← h]; exact hF107
  · rw [← h]; exact hF108
  · rw [← h]; exact hF109
  · rw [← h]; exact hF110
  · rw [← h]; exact hF111
  · rw [← h]; exact hF112
  · rw [← h]; exact hF113
  · rw [← h]; exact hF114
  · rw [← h]; exact hF115
  · rw [← h]; exact hF116
  · rw [← h]; exact hF122
  · rw [← h]; exact hF123
  · rw [← h]; exact hF124
  · rw [← h]; exact hF125
  · rw [← h]; exact hF126
  · rw [← h]; exact hF127
  · rw [← h]; exact hF128
  · rw [← h]; exact hF130
  · rw [← h]; exact hF131
  · rw [← h]; exact hF132
  · rw [← h]; exact hF133
  · rw [← h]; exact hF134
  · rw [← h]; exact hF135
  · rw [← h]; exact hF136
  · rw [← h]; exact hF137
  · rw [← h]; exact hF138
  · rw [← h]; exact hF139
  · rw [← h]; exact hF140
  · rw [← h]; exact hF141
  · rw [← h]; exact hF142
  · rw [← h]; exact hF143
  · rw [← h]; exact hF146
  · rw [← h]; exact hF147
  · rw [← h]; exact hF148
  · rw [← h]; exact hF149
  · cases h
theorem hMixed : Try.prog.follows .mixedOrders = true := by kernel_rfl
theorem ok_iIn : ∀ (H : Heap) (a b c : Int), QC fnOf 81 [.int .i64 a, .int .i64 b, .int .i64 c] H (.bool (inB a b c)) := iIn_ok rfl
theorem ok_sIn : ∀ (H : Heap) (a b c : Int), QC fnOf 79 [.int .i64 a, .int .i64 b, .int .i64 c] H (.bool (inB a b c)) := sIn_ok rfl
theorem ok_iSet : ∀ (H : Heap) (a : Int), QC fnOf 98 [.int .i64 a] H (.bool (inB a 0 7)) := iSet_ok rfl ok_iIn
theorem ok_iHost : ∀ (H : Heap) (a : Int), QC fnOf 82 [.int .i64 a] H (.bool (inB a 0 2)) := iHost_ok rfl ok_iIn
theorem ok_iNum : ∀ (H : Heap) (a : Int), QC fnOf 149 [.int .i64 a] H (.bool (inB a 0 9)) := iNum_ok rfl ok_iIn
theorem ok_sAll : ∀ H, QC fnOf 131 [] H (.int .i64 7) := sAll_ok rfl
theorem ok_sSet : ∀ (H : Heap) (a : Int), QC fnOf 91 [.int .i64 a] H (.bool (inB a 0 7)) := sSet_ok rfl ok_sIn ok_sAll
theorem ok_iLabelOk : LabOk fnOf 110 := iLabelOk_ok rfl ok_iSet
theorem ok_sLabelOk : LabOk fnOf 105 := sLabelOk_ok rfl ok_sSet
theorem ok_iVar : VarOk fnOf 85 := iVar_ok rfl ok_iIn
theorem ok_sVar : VarOk fnOf 147 := sVar_ok rfl ok_sIn
theorem ok_iVal : ValOk fnOf 141 := iVal_ok rfl ok_iNum ok_iVar
theorem ok_sVal : ValOk fnOf 148 := sVal_ok rfl ok_sIn ok_sVar
theorem ok_sSteps : ∀ n, StepsOk fnOf 106 n := fun n => (sSteps_all rfl rfl ok_sIn ok_sVar ok_sVal n).1
theorem ok_iSteps : ∀ n, StepsOk fnOf 111 n := iSteps_all rfl ok_iVar ok_iVal ok_iHost
theorem ok_sCount : ∀ n, CntOk fnOf 107 n := cnt_all (fun _ h => sCount_ok rfl h) (sCount_z rfl)
theorem ok_iSize : ∀ n, CntOk fnOf 62 n := cnt_all (fun _ h => iSize_ok rfl h) (iSize_z rfl)
theorem ok_sProg : ProgOk fnOf 60 := sProg_ok rfl ok_sLabelOk ok_sSteps ok_sCount
theorem ok_iProg : ProgOk fnOf 61 := iProg_ok rfl (con_ok rfl (idx_ok rfl (p1_ok rfl ok_iLabelOk))) ok_iSteps ok_iSize
theorem ok_sHas : HasOk fnOf 92 := sHas_ok rfl
theorem ok_sWit : WitOk fnOf 122 := sWithin_ok rfl ok_sHas
theorem ok_sBoth : BothOk fnOf 130 := sBoth_ok rfl ok_sHas
theorem ok_sLBoth : LBothOk fnOf 137 := sLBoth_ok rfl ok_sLabelOk ok_sBoth
theorem ok_sFlows : FlowsOk fnOf 136 := sFlows_ok rfl ok_sLabelOk ok_sWit
theorem ok_sAny : ∀ H, QC fnOf 133 [] H (.agg #[.int .i64 7, .int .i64 7]) := sAny_ok rfl ok_sAll
theorem ok_sFine : FineOk fnOf 104 := sFine_ok rfl (sValL_ok rfl ok_sAny ok_sLBoth) ok_sLBoth ok_sFlows ok_sBoth ok_sHas
theorem ok_sAllSteps : ∀ n, AllOk fnOf 93 n := sAllSteps_all rfl
theorem ok_sAt : ∀ n, AtOk fnOf 132 n := sAt_all rfl ok_sLBoth
theorem ok_sTypeAt : TypeAtOk fnOf 94 := sTypeAt_ok rfl ok_sProg ok_sAny ok_sAt
theorem ok_sWhy : WhyOk fnOf 59 := sWhy_ok rfl ok_sProg ok_sAllSteps ok_sTypeAt ok_sFine
theorem ok_sWithout : ∀ n, WoOk fnOf 126 n := sWithout_all rfl ok_sCount
theorem ok_drProg {H0 : Heap} {rb : Nat} {bv : Value} {code : List Int} (hc : RdC H0 rb bv code) : DrawS fnOf H0 rb bv 88 [] 40000 (ProgQ 3) := drProg_ok rfl rfl rfl rfl rfl ok_sProg hc
theorem ok_drFine {H0 : Heap} {rb : Nat} {bv : Value} {code : List Int} (hc : RdC H0 rb bv code) : DrawS fnOf H0 rb bv 87 [] 40000 (ProgQ 3) := drFine_ok rfl hc (ok_drProg hc) ok_sWhy ok_sWithout
theorem ok_iHas : HasOk fnOf 99 := iHas_ok rfl ok_iHost
theorem ok_iWit : WitOk fnOf 114 := iWithin_ok rfl
theorem ok_iBoth : ILBoth fnOf 135 := iBoth_ok rfl
theorem ok_iAt : AtP fnOf 53 := iAt_ok rfl (iLabels_all rfl ok_iBoth) (iEvery_ok rfl)
theorem ok_iWhy0 : WhyI fnOf 86 := iWhy0_ok rfl ok_iAt (iAll_all rfl) (iSource_ok rfl rfl ok_iBoth) (iFlows_ok rfl ok_iWit) ok_iHas
theorem ok_iTypeOk : TypeP fnOf 43 := iTypeOk_ok rfl ok_iProg ok_iWhy0
theorem ok_iTrusts : TrOk fnOf 52 := iTrusts_ok rfl ok_iSet ok_iHas
theorem ok_iBy : ByOk fnOf 115 := iBy_ok rfl ok_iHas
theorem ok_iDoes : DoesOk fnOf 65 := iDoes_ok rfl ok_iHas ok_iWit ok_iBy (iSets_all rfl) (iMakes_ok rfl rfl)
theorem ok_iHome1 : HomeI fnOf 64 := iHome1_ok rfl ok_iHas ok_iWit ok_iBy
theorem ok_sTrusts : TrOk fnOf 49 := sTrusts_ok rfl ok_sSet ok_sHas
theorem ok_sBy : ByOk fnOf 96 := sBy_ok rfl ok_sHas
theorem ok_sWhyV : WhyV fnOf 59 := sWhyV_ok rfl ok_sProg ok_sAllSteps ok_sTypeAt ok_sFine
theorem ok_sTypeOk : TypeP fnOf 18 := sTypeOk_ok rfl ok_sWhyV ok_sProg
theorem ok_sAllA : ∀ n, AllA fnOf 93 n := sAllA_all rfl
theorem ok_sTypeSets : SetsOk fnOf 95 := sTypeSets_ok rfl ok_sProg ok_sAllA (sSets_all rfl (sEither_ok rfl ok_sBoth))
theorem ok_sSee : SeeOk fnOf 50 := sSee_ok rfl ok_sAllA ok_sTypeAt ok_sTypeSets ok_sBy
theorem ok_lHome : LHome fnOf 78 := lHome_ok rfl ok_sHas ok_sWit
theorem ok_lStep : LStep fnOf 80 := lStep_ok rfl ok_sHas ok_sWit (sVars21_ok rfl)
theorem ok_iHostsOk : HostsI fnOf 63 := iHostsOk_ok rfl rfl rfl rfl ok_iHost
theorem ok_iPlanOk : PlanOkV fnOf 21 := iPlanOk_ok rfl ok_iTypeOk ok_iTrusts ok_iHostsOk ok_iSize ok_iHome1 ok_iAt (iAll_all rfl) ok_iDoes
theorem ok_sProgSize : SizeV fnOf 77 := sProgSizeV_ok rfl ok_sProg ok_sCount
theorem ok_sHomes21 : Homes21 fnOf 76 := sHomes21_ok rfl ok_sIn
theorem ok_sPlanStep : StepV fnOf 35 := sPlanStep_ok rfl ok_sProg ok_sTrusts ok_sHomes21 ok_sProgSize ok_sIn ok_sSee ok_lStep
theorem ok_sPlanOk : PlanOkV fnOf 33 := sPlanOk_ok rfl ok_sTypeOk ok_sTrusts ok_sHomes21 ok_sProgSize ok_sIn ok_sSee ok_lHome ok_lStep
theorem ok_drTrusts {H0 : Heap} {rb : Nat} {bv : Value} {code : List Int} (hc : RdC H0 rb bv code) : DrawS fnOf H0 rb bv 48 [] 10 TrQ := drTrusts_ok rfl rfl (sEither_ok rfl ok_sBoth) hc
theorem ok_lDoes : LDoes fnOf 97 := lDoes_ok rfl ok_lStep
theorem ok_lFind : ∀ m, LFind fnOf 51 m := lFind_all rfl ok_lHome ok_lDoes
theorem ok_sPlanFind : FindS fnOf 15 := sPlanFind_ok rfl ok_sTypeOk ok_sTrusts ok_sSee ok_lFind
theorem ok_drPlan {H0 : Heap} {rb : Nat} {bv : Value} {code : List Int} (hc : RdC H0 rb bv code) : DrawS fnOf H0 rb bv 46 [] 370000 PlanQ := drPlan_ok rfl rfl hc (ok_drFine hc) (ok_drTrusts hc) ok_sPlanFind ok_sProgSize ok_sPlanStep
theorem ok_drOff {H0 : Heap} {rb : Nat} {bv : Value} {code : List Int} (hc : RdC H0 rb bv code) : DrawS fnOf H0 rb bv 75 [] 370020 OffQ := drOff_ok rfl rfl hc (ok_drPlan hc) (ok_drTrusts hc)
theorem ok_drPO : DrawPl fnOf 32 := drPO_ok rfl rfl ok_drOff
theorem ok_lawPZ : LawB fnOf 11 := lawPZ_ok rfl ok_drPO ok_iPlanOk ok_sPlanOk
end Go.Proofs.YtbjeldblaclpnaaI
end
section
/- Laws of lists of bytes, called in the model. -/
set_option linter.unusedVariables false
set_option linter.unusedSimpArgs false
namespace Go.Proofs.YtbjeldblaclpnaaI
open Go Go.RowKit
theorem Good.byte {w : World} {n : Int} (h : (Lit.int .u8 n).wf = true) : Good Co.byte w [.int .u8 n] := fun H m s =>
  ⟨n, [], m, [.int .u8 n], by simpa using s, sub_refl m, ⟨rfl, by simpa [Lit.wf, IntKind.min, IntKind.max, IntKind.signed, IntKind.bits] using h⟩, All2.cons (.inl rfl) All2.nil⟩
theorem good_5 {T : Type} {enc : TypeId × Value → T} {w : World} {spare : Nat → Bool} {held : Bool} {n : Nat} {cs : List Value} {x : DataW T × List MemPlace} (h : DataW.trod enc Try.prog w 0 spare held n 5 cs = some x) : Good Co.byte w cs := by
  obtain ⟨m, rfl, _, hw⟩ := DataW.trod_int Try.underlying5 h
  exact Good.byte hw
theorem good_22 {T : Type} {enc : TypeId × Value → T} {w : World} {spare : Nat → Bool} {held : Bool} {n : Nat} {cs : List Value} {x : DataW T × List MemPlace} (h : DataW.trod enc Try.prog w 0 spare held n 22 cs = some x) : Good (Co.sl Co.byte) w cs :=
  Good.sl Try.underlying22 (by kernel_rfl) (by decide) h fun _ _ _ _ h => good_5 h
theorem lawB_calls {n : Nat} (hl : LawB fnOf n) {W : World} {a : Option Addr} {l c : Nat} (g0 : Good (Co.sl Co.byte) W [.slice a l c]) :
    Calls Try.prog n #[.slice a l c] W fun e w' => e = .returned (.bool true) ∧ Below W.heap.size W w' := by
  obtain ⟨ts, L2, m2, cs1, s2, q2, r2, e2⟩ := g0 [] (fun _ => none) (SL.none _)
  obtain ⟨u, rfl, hu⟩ := r2
  exact law_core hF hMixed s2 (vals := [u]) (All2.cons (VR.one_mk e2) All2.nil) (hl _ u ts hu)
end Go.Proofs.YtbjeldblaclpnaaI
end
