/- Texts of this proof, merged: E13, E14, F5, F6. -/
import Derived.Test.YtpaoppgbgjnkmaaB2
import Derived.Test.YtpaoppgbgjnkmaaRows
section
/- What was set last; the law FnRunOf on the ideal machine. -/
set_option linter.unusedVariables false
set_option linter.unusedSimpArgs false
namespace Go.Proofs.YtpaoppgbgjnkmaaI
open Go Go.RowKit
def c_iProgSize : IFn := ⟨1, 9, [.t 2],
 .seq (.reg none [
    ⟨(some 1), none, .box (.t 0)⟩,
    ⟨(some 2), none, .mov (.c (.int .i64 0))⟩])
 (.seq (.seq (.reg none [
     ⟨(some 3), none, .load true 2 (.t 1)⟩,
     ⟨(some 4), none, .call .q (.f 44) [(.t 3)]⟩,
     ⟨(some 5), none, .un .not (.t 4)⟩])
  (.cond (.t 5) (.seq (.reg none [
      ⟨(some 2), none, .mov (.c (.int .i64 (-1)))⟩])
   (.ret)) (.skip)))
 (.seq (.reg none [
    ⟨(some 6), none, .fad 1 (.t 1)⟩,
    ⟨(some 7), none, .load false 1 (.t 6)⟩,
    ⟨(some 8), none, .call .q (.f 53) [(.t 7)]⟩,
    ⟨(some 2), none, .mov (.t 8)⟩])
 (.ret)))⟩
def c_lawRO : IFn := ⟨1, 98, [.t 2],
 .seq (.reg none [
    ⟨(some 2), none, .mov (.c (.bool false))⟩])
 (.seq (.seq (.reg none [
     ⟨(some 11), none, .mov (.t 0)⟩,
     ⟨(some 12), none, .len (.t 11)⟩,
     ⟨(some 13), none, .bin .gtr (.t 12) (.c (.int .i64 1048576))⟩])
  (.cond (.t 13) (.seq (.reg none [
      ⟨(some 2), none, .mov (.c (.bool true))⟩])
   (.ret)) (.skip)))
 (.seq (.reg none [
    ⟨(some 15), none, .mov (.t 0)⟩,
    ⟨(some 16), none, .call .k (.f 17) [(.t 15)]⟩,
    ⟨(some 14), none, .mov (.t 16)⟩,
    ⟨(some 17), none, .ext (.t 14) 0⟩,
    ⟨(some 18), none, .ext (.t 14) 1⟩,
    ⟨(some 3), none, .new [(.slice none 0 0), (.slice none 0 0)]⟩,
    ⟨none, none, .store 2 (.t 3) (.t 17)⟩,
    ⟨(some 4), none, .mov (.t 18)⟩])
 (.seq (.reg none [
    ⟨(some 20), none, .load true 2 (.t 3)⟩,
    ⟨(some 21), none, .mov (.t 4)⟩,
    ⟨(some 22), none, .call .k (.f 18) [(.t 20), (.t 21)]⟩,
    ⟨(some 19), none, .mov (.t 22)⟩,
    ⟨(some 23), none, .ext (.t 19) 0⟩,
    ⟨(some 24), none, .ext (.t 19) 1⟩,
    ⟨(some 5), none, .new [(.slice none 0 0), (.slice none 0 0), (.slice none 0 0)]⟩,
    ⟨none, none, .store 3 (.t 5) (.t 23)⟩,
    ⟨(some 6), none, .mov (.t 24)⟩])
 (.seq (.reg none [
    ⟨(some 26), none, .load true 2 (.t 3)⟩,
    ⟨(some 27), none, .mov (.t 4)⟩,
    ⟨(some 28), none, .call .k (.f 14) [(.t 26), (.t 27)]⟩,
    ⟨(some 25), none, .mov (.t 28)⟩,
    ⟨(some 29), none, .ext (.t 25) 0⟩,
    ⟨(some 30), none, .ext (.t 25) 1⟩,
    ⟨(some 7), none, .new [(.slice none 0 0), (.slice none 0 0), (.slice none 0 0)]⟩,
    ⟨none, none, .store 3 (.t 7) (.t 29)⟩,
    ⟨(some 8), none, .mov (.t 30)⟩])
 (.seq (.seq (.reg none [
     ⟨(some 31), none, .mov (.t 8)⟩,
     ⟨(some 32), none, .mov (.t 6)⟩,
     ⟨(some 33), none, .beq true (.t 31) (.t 32)⟩,
     ⟨(some 34), none, .mov (.t 33)⟩,
     ⟨(some 35), (some (34, false)), .load true 3 (.t 7)⟩,
     ⟨(some 36), (some (34, false)), .load true 3 (.t 5)⟩,
     ⟨(some 37), (some (34, false)), .call .q (.f 19) [(.t 35), (.t 36)]⟩,
     ⟨(some 38), (some (34, false)), .un .not (.t 37)⟩,
     ⟨(some 39), none, .pick (.t 34) (.c (.bool true)) (.t 38)⟩,
     ⟨(some 40), none, .mov (.t 39)⟩,
     ⟨(some 41), (some (40, false)), .mov (.t 8)⟩,
     ⟨(some 42), (some (40, false)), .un .not (.t 41)⟩,
     ⟨(some 43), none, .pick (.t 40) (.c (.bool true)) (.t 42)⟩])
  (.cond (.t 43) (.seq (.reg none [
      ⟨(some 44), none, .mov (.t 8)⟩,
      ⟨(some 45), none, .mov (.t 6)⟩,
      ⟨(some 46), none, .beq false (.t 44) (.t 45)⟩,
      ⟨(some 47), none, .mov (.t 46)⟩,
      ⟨(some 48), (some (47, true)), .load true 3 (.t 7)⟩,
      ⟨(some 49), (some (47, true)), .load true 3 (.t 5)⟩,
      ⟨(some 50), (some (47, true)), .call .q (.f 19) [(.t 48), (.t 49)]⟩,
      ⟨(some 51), none, .pick (.t 47) (.t 50) (.c (.bool false))⟩,
      ⟨(some 2), none, .mov (.t 51)⟩])
   (.ret)) (.skip)))
 (.seq (.reg none [
    ⟨(some 52), none, .lit 1 3 0 [] []⟩,
    ⟨(some 53), none, .mov (.t 4)⟩,
    ⟨(some 54), none, .app 1 3 8 false (.t 52) (.t 53)⟩,
    ⟨(some 9), none, .mov (.t 54)⟩])
 (.seq (.seq (.reg none [
     ⟨(some 10), none, .mov (.c (.int .i64 0))⟩])
  (.block 0 (.loop (.seq (.seq (.reg none [
        ⟨(some 55), none, .mov (.t 10)⟩,
        ⟨(some 56), none, .fad 1 (.t 7)⟩,
        ⟨(some 57), none, .load false 1 (.t 56)⟩,
        ⟨(some 58), none, .len (.t 57)⟩,
        ⟨(some 59), none, .bin .lss (.t 55) (.t 58)⟩])
     (.cond (.t 59) (.skip) (.exit 0)))
    (.seq (.block 1 (.reg (some 13) [
        ⟨(some 62), none, .mov (.t 9)⟩,
        ⟨(some 63), none, .fad 1 (.t 7)⟩,
        ⟨(some 64), none, .load false 1 (.t 63)⟩,
        ⟨(some 65), none, .mov (.t 10)⟩,
        ⟨(some 66), none, .iad 2 (.t 64) (.t 65)⟩,
        ⟨(some 67), none, .fad 0 (.t 66)⟩,
        ⟨(some 68), none, .load false 1 (.t 67)⟩,
        ⟨(some 69), none, .fad 1 (.t 7)⟩,
        ⟨(some 70), none, .load false 1 (.t 69)⟩,
        ⟨(some 71), none, .mov (.t 10)⟩,
        ⟨(some 72), none, .iad 2 (.t 70) (.t 71)⟩,
        ⟨(some 73), none, .fad 1 (.t 72)⟩,
        ⟨(some 74), none, .load false 1 (.t 73)⟩,
        ⟨(some 75), none, .iad 1 (.t 62) (.t 68)⟩,
        ⟨none, none, .store 1 (.t 75) (.t 74)⟩]))
    (.reg none [
      ⟨(some 60), none, .mov (.t 10)⟩,
      ⟨(some 61), none, .bin .add (.t 60) (.c (.int .i64 1))⟩,
      ⟨(some 10), none, .mov (.t 61)⟩]))))))
 (.seq (.reg (some 20) [
    ⟨(some 76), none, .mov (.t 9)⟩,
    ⟨(some 77), none, .fad 0 (.t 7)⟩,
    ⟨(some 78), none, .load false 1 (.t 77)⟩,
    ⟨(some 79), none, .call .q (.f 16) [(.t 76), (.t 78)]⟩,
    ⟨(some 80), none, .mov (.t 79)⟩,
    ⟨(some 81), (some (80, true)), .load true 2 (.t 3)⟩,
    ⟨(some 82), (some (80, true)), .fad 0 (.t 7)⟩,
    ⟨(some 83), (some (80, true)), .load false 1 (.t 82)⟩,
    ⟨(some 84), (some (80, true)), .call .q (.f 13) [(.t 81), (.t 83)]⟩,
    ⟨(some 85), none, .pick (.t 80) (.t 84) (.c (.bool false))⟩,
    ⟨(some 86), none, .mov (.t 85)⟩,
    ⟨(some 87), (some (86, true)), .fad 1 (.t 7)⟩,
    ⟨(some 88), (some (86, true)), .load false 1 (.t 87)⟩,
    ⟨(some 89), (some (86, true)), .len (.t 88)⟩,
    ⟨(some 90), (some (86, true)), .fad 2 (.t 7)⟩,
    ⟨(some 91), (some (86, true)), .load false 1 (.t 90)⟩,
    ⟨(some 92), (some (86, true)), .len (.t 91)⟩,
    ⟨(some 93), (some (86, true)), .bin .add (.t 89) (.t 92)⟩,
    ⟨(some 94), (some (86, true)), .load true 2 (.t 3)⟩,
    ⟨(some 95), (some (86, true)), .call .q (.f 21) [(.t 94)]⟩,
    ⟨(some 96), (some (86, true)), .bin .leq (.t 93) (.t 95)⟩,
    ⟨(some 97), none, .pick (.t 86) (.t 96) (.c (.bool false))⟩,
    ⟨(some 2), none, .mov (.t 97)⟩])
 (.ret)))))))))⟩
def sets (nums : List Int) (ws : List (Int × Int)) : List Int := ws.foldl (fun ns w => ns.set w.1.toNat w.2) nums
structure RunP (nums : List Int) (k : Nat) (r : RunS) (M : Nat) : Prop where
  len : r.1.length = k
  rg : ∀ x ∈ r.1, 0 ≤ x ∧ x ≤ 9
  wr : sets nums r.2.1 = r.1
  vr : ∀ w ∈ r.2.1, 0 ≤ w.1 ∧ w.1 < k
  sm : r.2.1.length + r.2.2.length ≤ M
theorem RunP.mono {nums : List Int} {k : Nat} {r : RunS} {M M' : Nat} (h : RunP nums k r M) (hM : M ≤ M') : RunP nums k r M' := ⟨h.len, h.rg, h.wr, h.vr, Nat.le_trans h.sm hM⟩
theorem runL_P0 {nums : List Int} {k : Nat} (n : Nat) (h : ∀ (s : TStep n) (r : RunS) (M : Nat) (d : Int), RunP nums k r M → stepB k n d s = true → RunP nums k (runT n s r) (M + (allT n s).length)) : ∀ (l : List (TStep n)) (r : RunS) (M : Nat) (d : Int), RunP nums k r M → l.all (stepB k n d) = true → RunP nums k (runL n l r) (M + (allL n l).length) := by
  intro l
  induction l with
  | nil =>
    intro r M d hr _
    exact hr
  | cons s l ih =>
    intro r M d hr hl
    rw [List.all_cons, Bool.and_eq_true] at hl
    have h1 := ih _ _ d (h s r M d hr hl.1) hl.2
    have h2 : (allL n (s :: l)).length = (allT n s).length + (allL n l).length := by unfold allL; rw [List.map_cons, List.flatten_cons, List.length_append]
    rw [h2, ← Nat.add_assoc]
    exact h1
theorem runT_P {nums : List Int} {k : Nat} : ∀ (n : Nat) (s : TStep n) (r : RunS) (M : Nat) (d : Int), RunP nums k r M → stepB k n d s = true → RunP nums k (runT n s r) (M + (allT n s).length)
  | 0, s, _, _, _, _, _ => s.elim
  | n + 1, (kd, vr, v, ho, th, el), r, M, d, hr, h => by
    obtain ⟨hvr, h1, h2, _⟩ := stepB_f h
    rw [allT_succ, List.length_cons, List.length_append]
    by_cases q1 : kd = 1
    · subst q1
      rw [runT_set]
      have hv := h1 rfl
      rw [← hr.len] at hv
      have hx := valN_rg hv hr.rg
      refine ⟨by rw [List.length_set]; exact hr.len, fun x hx' => ?_, ?_, fun w hw => ?_, ?_⟩
      · rcases List.mem_or_eq_of_mem_set hx' with h | rfl
        · exact hr.rg x h
        · exact hx
      · unfold sets
        rw [List.foldl_append]
        have := hr.wr
        unfold sets at this
        rw [this]
        rfl
      · simp only [List.mem_append, List.mem_singleton] at hw
        rcases hw with h | rfl
        · exact hr.vr w h
        · exact hvr
      · have := hr.sm
        simp only [List.length_append, List.length_singleton]
        omega
    by_cases q2 : kd = 2
    · obtain ⟨h3, h4⟩ := h2 q2
      subst q2
      rw [runT_if]
      split
      · exact (runL_P0 n (runT_P n) el r M (d - 1) hr h4).mono (by omega)
      · exact (runL_P0 n (runT_P n) th r M (d - 1) hr h3).mono (by omega)
    · rw [runT_tell q1 q2]
      have := hr.sm
      exact ⟨hr.len, hr.rg, hr.wr, hr.vr, by simp only [List.length_append, List.length_singleton]; omega⟩
theorem runOf_P {n : Nat} {ls : List (Int × Int)} {l : List (TStep n)} {nums : List Int} (h : numsB n (ls, l) nums = true) : RunP nums ls.length (runOf n (ls, l) nums) (allL n l).length ∧ numsB n (ls, l) (runOf n (ls, l) nums).1 = true := by
  have hB2 := h
  simp only [numsB, Bool.and_eq_true, decide_eq_true_eq, List.all_eq_true] at hB2
  obtain ⟨⟨hP, hln⟩, hall⟩ := hB2
  have hst : l.all (stepB ls.length n 3) = true := by
    simp only [progB, Bool.and_eq_true] at hP; exact hP.1.2
  have hrun : runOf n (ls, l) nums = runL n l (nums, [], []) := if_pos h
  have h0 : RunP nums ls.length (nums, [], []) 0 := ⟨hln, fun x hx => inB_iff'.1 (hall x hx), rfl, (fun w hw => by cases hw), Nat.le_refl _⟩
  have h1 := runL_P0 n (runT_P n) l _ 0 3 h0 hst
  rw [← hrun, Nat.zero_add] at h1
  refine ⟨h1, ?_⟩
  simp only [numsB, Bool.and_eq_true, decide_eq_true_eq, List.all_eq_true]
  exact ⟨⟨hP, h1.len⟩, fun x hx => inB_iff'.2 (h1.rg x hx)⟩
theorem sets_take {nums : List Int} {ws : List (Int × Int)} {i : Nat} (hi : i < ws.length) : sets nums (ws.take (i + 1)) = (sets nums (ws.take i)).set ws[i].1.toNat ws[i].2 := by
  unfold sets
  rw [List.take_add_one, List.getElem?_eq_getElem hi, List.foldl_append]
  rfl
theorem sets_len {nums : List Int} {ws : List (Int × Int)} : (sets nums ws).length = nums.length := by
  unfold sets
  induction ws generalizing nums with
  | nil => rfl
  | cons w ws ih => rw [List.foldl_cons, ih, List.length_set]
def SizeOk (F : Nat → Option IFn) (f : Nat) : Prop := ∀ (H : Heap) (n : Nat) (lv sv : Value) (ls : List (Int × Int)) (l : List (TStep n)), SlR Co.p2 (vw 0 H) lv ls → SlR (Co.step n) (vw 0 H) sv l → (Co.prog n).sm (ls, l) → progB n (ls, l) = true → QC F f [.agg #[lv, sv]] H (.int .i64 ((allL n l).length : Int))
theorem iProgSize_ok {F : Nat → Option IFn} {f : Nat} (hf : F f = some c_iProgSize) (gp : ProgOk F 44) (gc : ∀ n, CntOk F 53 n) : SizeOk F f := by
  intro H n lv sv ls l r1 r2 hsm hP
  have olv : one lv = true := by obtain ⟨_, a, rfl, _⟩ := r1; rfl
  have osv : one sv = true := by obtain ⟨_, a, rfl, _⟩ := r2; rfl
  refine QC.mk hf rfl ?_
  refine seq_reg ?_
  simp only [go_sem, binC, olv, osv]
  refine wpc_gen fun H1 hH1 => ?_
  have hx1 : AgX [] H H1 := hH1 ▸ AgX.app [] _ _
  have hb : H1[H.length]? = some ⟨[lv, sv], 0, 0, false, true⟩ := hH1 ▸ get_new0 _ _
  clear hH1
  have hS := agx_sub hx1
  refine seq_assoc (seq_reg ?_)
  simp only [go_sem, binC, gc_of hb, inBlk_some, olv, osv]
  refine op_callQ (by simp only [go_sem, binC]; exact gp H1 n _ (ls, l) (prog_rd (r1.mono hS) (r2.mono hS)) hsm) ?_
  simp only [go_sem, binC, hP]
  refine seq_cond (t := false) rfl ?_
  simp only [go_sem, binC]
  refine seq_skip (seq_reg ?_)
  simp only [go_sem, binC, gc_of hb, inBlk_some]
  refine op_callQ (by simp only [go_sem, binC]; exact gc n H1 sv l (r2.mono hS)) ?_
  simp only [go_sem, binC]
  refine wpc_ret ⟨Or.inr rfl, _, (by (simp only [go_sem, binC]) <;> rfl), ?_, rfl⟩
  have hc := progB_cnt hP hsm
  simp only at hc
  rw [cntL_len]
  unfold Wr
  rw [wrap_id (by omega) (by omega)]
theorem drRunOf_ok {F : Nat → Option IFn} {f : Nat} (hf : F f = some c_drRunOf) (gd : DrawNumsV F 12) : DrawNumsOk F f := by
  intro H v code hv
  suffices h : ∃ w H', KC F f [v] H w H' ∧ (∃ (d : Nat) (lv sv nv : Value) (ls : List (Int × Int)) (l : List (TStep d)) (nums : List Int), w = .tuple #[.agg #[lv, sv], nv] ∧ (AgX [] H H' ∧ SlR Co.p2 (vw 0 H') lv ls ∧ SlR (Co.step d) (vw 0 H') sv l ∧ (Co.prog d).sm (ls, l) ∧ SlR Co.int (vw 0 H') nv nums)) by
    obtain ⟨w, H', h1, d, lv, sv, nv, ls, l, nums, rfl, h2⟩ := h
    exact ⟨d, lv, sv, nv, ls, l, nums, H', h1, h2⟩
  refine KC.mk hf rfl ?_
  refine seq_reg ?_
  simp only [go_sem, binC]
  refine wpc_gen fun H1 hH1 => ?_
  have hx1 : AgX [] H H1 := hH1 ▸ AgX.app [] _ _
  have hb1 : H1[H.length]? = some ⟨[nilS, nilS], 0, 0, false, true⟩ := hH1 ▸ get_new0 _ _
  have hn1 : H1.length = H.length + 1 := by rw [hH1, List.length_append]; rfl
  clear hH1
  refine seq_reg ?_
  simp only [go_sem, binC]
  obtain ⟨d, lv, sv, nv, ls, l, nums, H2, k2, hx2, r1, r2, r3, r4⟩ := gd H1 v code (hv.mono (agx_sub hx1))
  obtain ⟨_, la, rfl, _⟩ := id r1
  obtain ⟨_, sa, rfl, _⟩ := id r2
  obtain ⟨_, na, rfl, _⟩ := id r4
  have hb2 := hx2.get hb1 (by simp)
  have hb2l := (List.getElem?_eq_some_iff.1 hb2).1
  refine op_callK (by simp only [go_sem, binC]; exact k2) ?_
  simp only [go_sem, binC, hb2]
  have hvf : Sub (vwl H1.length [] H2) (vw 0 (H2.set H.length ⟨[.slice la ls.length ls.length, .slice sa l.length l.length], 0, 0, false, true⟩)) := (vwl_sub (AgX.set H2 H.length _) (Nat.le_refl _) (xs' := []) fun b' h1 h2 _ => ⟨by simp; omega, by simp⟩).trans (vwl0 _ _ _)
  refine wpc_ret ⟨Or.inr rfl, .tuple #[.agg #[.slice la ls.length ls.length, .slice sa l.length l.length], .slice na nums.length nums.length], ?_, d, _, _, _, ls, l, nums, rfl, (hx1.tr hx2).setN (Nat.le_refl _) _, r1.mono hvf, r2.mono hvf, r3, r4.mono hvf⟩
  simp [resV, resL, res1, putE_get, notT, ptr, gc_set hb2l, inBlk_some, valOf]
theorem wpo_app {F : Nat → Option IFn} {lo : Nat} {K : Env → Heap → Prop} {l2 : List IOper} : ∀ (l1 : List IOper) (e : Env) (H : Heap), wpo F lo l1 e H (fun e1 H1 => wpo F lo l2 e1 H1 K) → wpo F lo (l1 ++ l2) e H K
  | [], e, H, h => h
  | o :: r, e, H, h => ⟨fun hr => wpOp_mono (h.1 hr) fun v H1 h1 => wpo_app r _ _ h1, fun hr => wpo_app r _ _ (h.2 hr)⟩
theorem wpo_cut {F : Nat → Option IFn} {lo : Nat} {K : Env → Heap → Prop} {l : List IOper} {e : Env} {H : Heap} (a : Nat)
    (h : ∀ Kc : Env → Heap → Prop, (∀ e1 H1, wpo F lo (l.drop a) e1 H1 K → Kc e1 H1) → wpo F lo (l.take a) e H Kc) : wpo F lo l e H K := by
  have h3 := wpo_app (l2 := l.drop a) (l.take a) e H (h (fun e1 H1 => wpo F lo (l.drop a) e1 H1 K) fun _ _ h => h)
  rwa [List.take_append_drop] at h3
set_option maxHeartbeats 4000000 in
theorem lawRO_ok {F : Nat → Option IFn} {f : Nat} (hf : F f = some c_lawRO) (gd : DrawNumsOk F 17) (gs : RunOk F 18) (gr : RunOk F 14) (glr : RunsOk F 19) (gli : IntsOk F 16) (gn : NumsOk F 13) (gz : SizeOk F 21) : LawB F f := by
  intro H v code hv
  have hv0 := hv
  obtain ⟨h0, a, rfl, _⟩ := hv
  refine QC.mk hf rfl ?_
  refine seq_reg ?_
  simp only [go_sem, binC]
  refine seq_assoc (seq_reg ?_)
  simp only [go_sem, binC]
  by_cases hbig : 1048576 < (code.length : Int)
  · refine seq_cond (t := true) (by simp only [go_sem, binC]; rw [decide_eq_true hbig]) ?_
    simp only [go_sem, binC]
    refine seq_assoc (seq_reg ?_)
    simp only [go_sem, binC]
    exact seq_ret ⟨Or.inr rfl, .bool true, by simp only [go_sem, binC], rfl, rfl⟩
  refine seq_cond (t := false) (by simp only [go_sem, binC]; rw [decide_eq_false hbig]) ?_
  simp only [go_sem, binC]
  refine seq_skip (seq_reg ?_)
  simp only [go_sem, binC]
  obtain ⟨d, lv, sv, nv, ls, l, nums, H1, k, hx, r1, r2, r3, r4⟩ := gd H _ code hv0
  have hl1 := hx.1
  have olv : one lv = true := by obtain ⟨_, a, rfl, _⟩ := r1; rfl
  have osv : one sv = true := by obtain ⟨_, a, rfl, _⟩ := r2; rfl
  refine op_callK (by simp only [go_sem, binC]; exact k) ?_
  simp only [go_sem, binC, olv, osv]
  refine ⟨by omega, ?_⟩
  refine wpc_gen fun H2 hH2 => ?_
  have hb : H2[H1.length]? = some ⟨[lv, sv], 0, 0, false, true⟩ := hH2 ▸ get_new0 _ _
  have hS : Sub (vw 0 H1) (vw 0 H2) := hH2 ▸ vw_app 0 H1 _
  have hl2 : H2.length = H1.length + 1 := by rw [hH2, List.length_append]; rfl
  replace r1 := r1.mono hS
  replace r2 := r2.mono hS
  replace r4 := r4.mono hS
  clear hH2 hS
  obtain ⟨hln, na0, hnv, _⟩ := id r4
  subst hnv
  obtain ⟨hlls, la0, hlv, _⟩ := id r1
  subst hlv
  refine seq_reg ?_
  simp only [go_sem, binC, gc_of hb, inBlk_some, osv]
  obtain ⟨nw, ww, tw, H3, k3, hx3, s1, s2, s3⟩ := gs H2 d _ _ _ ls l nums r1 r2 r3 r4
  obtain ⟨_, nwa, rfl, _⟩ := id s1
  obtain ⟨_, wwa, rfl, _⟩ := id s2
  obtain ⟨_, twa, rfl, _⟩ := id s3
  have hl3 := hx3.1
  refine op_callK (by simp only [go_sem, binC]; exact k3) ?_
  simp only [go_sem, binC]
  refine ⟨by omega, ?_⟩
  refine wpc_gen fun H4 hH4 => ?_
  have hx4 : AgX [] H3 H4 := hH4 ▸ AgX.app [] _ _
  have hbw : H4[H3.length]? = some ⟨[.slice nwa (runOf d (ls, l) nums).1.length (runOf d (ls, l) nums).1.length, .slice wwa (runOf d (ls, l) nums).2.1.length (runOf d (ls, l) nums).2.1.length, .slice twa (runOf d (ls, l) nums).2.2.length (runOf d (ls, l) nums).2.2.length], 0, 0, false, true⟩ := hH4 ▸ get_new0 _ _
  have hl4' : H4.length = H3.length + 1 := by rw [hH4, List.length_append]; rfl
  clear hH4
  have hx24 := hx3.tr hx4
  have hb4 := hx24.get hb (by simp)
  have hS4 := agx_sub hx24
  refine seq_reg ?_
  simp only [go_sem, binC, gc_of hb4, inBlk_some, osv]
  obtain ⟨nx, wx, tx, H5, k5, hx5, t1, t2, t3⟩ := gr H4 d _ _ _ ls l nums (r1.mono hS4) (r2.mono hS4) r3 (r4.mono hS4)
  obtain ⟨_, nxa, rfl, _⟩ := id t1
  obtain ⟨_, wxa, rfl, _⟩ := id t2
  obtain ⟨_, txa, rfl, _⟩ := id t3
  have hl5 := hx5.1
  refine op_callK (by simp only [go_sem, binC]; exact k5) ?_
  simp only [go_sem, binC]
  refine ⟨by omega, ?_⟩
  refine wpc_gen fun H6 hH6 => ?_
  have hx6 : AgX [] H5 H6 := hH6 ▸ AgX.app [] _ _
  have hbx : H6[H5.length]? = some ⟨[.slice nxa (runOf d (ls, l) nums).1.length (runOf d (ls, l) nums).1.length, .slice wxa (runOf d (ls, l) nums).2.1.length (runOf d (ls, l) nums).2.1.length, .slice txa (runOf d (ls, l) nums).2.2.length (runOf d (ls, l) nums).2.2.length], 0, 0, false, true⟩ := hH6 ▸ get_new0 _ _
  have hl6 : H6.length = H5.length + 1 := by rw [hH6, List.length_append]; rfl
  clear hH6
  have hx46 := hx5.tr hx6
  have hx26 := hx24.tr hx46
  have hb6 := hx46.get hb4 (by simp)
  have hbw6 := hx46.get hbw (by simp)
  replace r1 := r1.mono (agx_sub hx26)
  replace r2 := r2.mono (agx_sub hx26)
  replace r4 := r4.mono (agx_sub hx26)
  replace s1 := s1.mono (agx_sub (hx4.tr hx46))
  replace s2 := s2.mono (agx_sub (hx4.tr hx46))
  replace s3 := s3.mono (agx_sub (hx4.tr hx46))
  replace t1 := t1.mono (agx_sub hx6)
  replace t2 := t2.mono (agx_sub hx6)
  replace t3 := t3.mono (agx_sub hx6)
  have hEq := glr H6 _ _ _ _ _ _ _ _ t1 t2 t3 s1 s2 s3
  rw [decide_eq_true rfl] at hEq
  have hl2 := hx.1
  have hl24 := hx24.1
  clear k k3 k5
  cases hB : numsB d (ls, l) nums with
  | false =>
    refine seq_assoc (seq_reg ?_)
    simp only [go_sem, binC, hB, beq_self_eq_true, bne_self_eq_false, gc_of hbw6, gc_of hbx, inBlk_some]
    refine op_callQ (by simp only [go_sem, binC]; exact hEq) ?_
    simp only [go_sem, binC]
    refine seq_cond (t := true) rfl ?_
    simp only [go_sem, binC]
    refine seq_assoc (seq_reg ?_)
    simp only [go_sem, binC, hB, beq_self_eq_true, bne_self_eq_false, gc_of hbw6, gc_of hbx, inBlk_some]
    refine op_callQ (by simp only [go_sem, binC]; exact hEq) ?_
    simp only [go_sem, binC]
    exact seq_ret ⟨Or.inr rfl, .bool true, by simp only [go_sem, binC], rfl, rfl⟩
  | true =>
  obtain ⟨hnl, hl4, hrg⟩ := numsB_len hB
  obtain ⟨hP, hB2⟩ := runOf_P hB
  have hPB : progB d (ls, l) = true := by
    have := hB
    simp only [numsB, Bool.and_eq_true] at this
    exact this.1.1
  have hcn := progB_cnt hPB r3
  simp only at hcn
  refine seq_assoc (seq_reg ?_)
  simp only [go_sem, binC, hB, beq_self_eq_true, bne_self_eq_false, gc_of hbw6, gc_of hbx, inBlk_some]
  refine op_callQ (by simp only [go_sem, binC]; exact hEq) ?_
  simp only [go_sem, binC]
  refine seq_cond (t := false) rfl ?_
  simp only [go_sem, binC]
  generalize hrr : runOf d (ls, l) nums = rr at hP hB2 t1 t2 t3 hbx
  obtain ⟨rn, rw_, rs⟩ := rr
  simp only at t1 t2 t3 hbx hB2
  refine seq_skip (seq_reg ?_)
  simp only [go_sem, binC]
  have hxl : AgX [] H6 (H6 ++ [⟨[], 1, 3, true, true⟩]) := AgX.app [] _ _
  refine op_app_numsN (b := H6.length) (lo0 := H6.length) (by (simp only [go_sem, binC]) <;> rfl) (by simp only [go_sem, binC]) (r4.mono (agx_sub hxl)) (get_new0 _ _) (by omega) (by omega) (by rw [List.length_append]; omega) fun vnow H7 hx7 q7 => ?_
  have hx67 : AgX [] H6 H7 := hxl.trans hx7 (fun _ h _ => h) (fun b h1 h2 => by simp only [List.mem_singleton] at h1; omega)
  have hbx7 := hx67.get hbx (by simp)
  have hb7 := hx67.get hb6 (by simp)
  simp only [go_sem, binC]
  refine seq_assoc (seq_reg ?_)
  simp only [go_sem, binC]
  refine seq_block (wpc_loop ?_)
  suffices h : ∀ (k i : Nat) (e : Env) (Hc : Heap), i + k = rw_.length → AgX [] H6 Hc → NumV H6.length Hc vnow (sets nums (rw_.take i)) → e 3 = ptr H1.length 0 → e 7 = ptr H5.length 0 → e 9 = vnow → e 10 = .int .i64 i → W F H.length _ e Hc _ from
    h rw_.length 0 _ H7 (by omega) hx67 q7 (by simp only [go_sem, binC]) (by simp only [go_sem, binC]) (by simp only [go_sem, binC]) (by (simp only [go_sem, binC]) <;> rfl)
  intro k
  induction k with
  | zero =>
    intro i e Hc hi hxc q e3 e7 e9 e10
    have hbxc := hxc.get hbx (by simp)
    have hbc := hxc.get hb6 (by simp)
    have hSc := agx_sub hxc
    refine lp_step ?_
    refine seq_assoc (seq_reg ?_)
    simp only [go_sem, binC, e7, e10, gc_of hbxc, inBlk_some]
    refine seq_cond (t := false) (by simp only [go_sem, binC]; rw [decide_eq_false (by omega)]) ?_
    simp only [go_sem, binC]
    refine seq_exit ?_
    simp only [go_sem, binC, thenX_e, out_e, thenX_n]
    rw [List.take_of_length_le (by omega), hP.wr] at q
    have sq := q.slI (fun x hx => by have := hP.rg x hx; unfold RgI; omega) (show rn.length ≤ 1000 by have : rn.length = ls.length := hP.len; omega)
    refine seq_regD ?_
    refine wpp_cut 4 (by omega) (by simp only [List.length_cons, List.length_nil]; omega) fun Kc hK => ?_
    simp only [List.take_succ_cons, List.take_zero]
    simp only [go_sem, binC, e7, e9, gc_of hbxc, inBlk_some]
    refine op_callQ (by simp only [go_sem, binC, e9]; exact gli Hc _ _ _ _ sq (t1.mono hSc)) ?_
    simp only [go_sem, binC, decide_true]
    refine hK _ _ ?_
    simp only [List.drop_succ_cons, List.drop_zero, Nat.reduceSub]
    refine wpp_cut 5 (by omega) (by simp only [List.length_cons, List.length_nil]; omega) fun Kc hK => ?_
    simp only [List.take_succ_cons, List.take_zero]
    simp only [go_sem, binC, e3, e7, gc_of hbxc, gc_of hbc, inBlk_some, osv]
    refine op_callQ (by simp only [go_sem, binC]; exact gn Hc d _ _ _ ls l _ (r1.mono hSc) (r2.mono hSc) r3 (t1.mono hSc)) ?_
    simp only [go_sem, binC, hB2]
    refine hK _ _ ?_
    simp only [List.drop_succ_cons, List.drop_zero, Nat.reduceSub]
    refine wpp_cut 11 (by omega) (by simp only [List.length_cons, List.length_nil]; omega) fun Kc hK => ?_
    simp only [List.take_succ_cons, List.take_zero]
    have hsm := hP.sm
    simp only at hsm
    have hw2 : IntKind.i64.wrap ((rw_.length : Int) + rs.length) = (rw_.length : Int) + rs.length := wrap_id (by omega) (by omega)
    simp only [go_sem, binC, e3, e7, gc_of hbxc, gc_of hbc, inBlk_some, osv, hw2]
    refine op_callQ (by simp only [go_sem, binC]; exact gz Hc d _ _ ls l (r1.mono hSc) (r2.mono hSc) r3 hPB) ?_
    simp only [go_sem, binC]
    refine hK _ _ ?_
    simp only [List.drop_succ_cons, List.drop_zero, Nat.reduceSub]
    have hle : decide ((rw_.length : Int) + rs.length ≤ ((allL d l).length : Int)) = true := decide_eq_true (by omega)
    simp only [go_sem, binC, hle]
    exact wpc_ret ⟨Or.inr rfl, .bool true, by simp only [go_sem, binC], rfl, rfl⟩
  | succ k ih =>
    intro i e Hc hi hxc q e3 e7 e9 e10
    have hil : i < rw_.length := by omega
    have hbxc := hxc.get hbx (by simp)
    have hSc := agx_sub hxc
    obtain ⟨b, o, hv1, hg⟩ := gcP (t2.mono hSc) hil
    have hrl := t2.1
    simp only [Value.slice.injEq, and_true] at hv1
    subst hv1
    have hvr : 0 ≤ rw_[i].1 ∧ rw_[i].1 < ls.length := hP.vr rw_[i] (List.getElem_mem hil)
    have hw1 : IntKind.i64.wrap ((i : Int) + 1) = ((i + 1 : Nat) : Int) := by rw [wrap_id (by omega) (by omega)]; omega
    have hsl : (sets nums (rw_.take i)).length = nums.length := sets_len
    rcases q with ⟨_, _, hn0⟩ | ⟨nb, hnb, rfl, hne, hnc⟩
    · rw [hn0] at hsl; simp at hsl; omega
    have hnl2 := (List.getElem?_eq_some_iff.1 hnc).1
    rw [hsl] at e9 ih
    have hg0 := gc_part (off := 0) (k := 1) hg (by omega)
    have hg1 := gc_part (off := 1) (k := 1) hg (by omega)
    rw [Nat.add_zero] at hg0
    simp only [go_sem, binC] at hg0 hg1
    refine lp_step ?_
    refine seq_assoc (seq_reg ?_)
    simp only [go_sem, binC, e7, e10, gc_of hbxc, inBlk_some]
    refine seq_cond (t := true) (by simp only [go_sem, binC]; rw [decide_eq_true (by omega)]) ?_
    simp only [go_sem, binC]
    refine seq_skip (seq_block (wpc_regD ?_))
    simp only [go_sem, binC, e7, e9, e10, gc_of hbxc, inBlk_some]
    refine ⟨⟨by omega, by omega⟩, ?_⟩
    simp only [go_sem, binC, Int.toNat_natCast, hg0, e7, e10, gc_of hbxc, inBlk_some]
    refine ⟨⟨by omega, by omega⟩, ?_⟩
    simp only [go_sem, binC, Int.toNat_natCast, hg1]
    refine ⟨⟨by omega, by omega⟩, ?_⟩
    simp only [go_sem, binC, hnc, Nat.mul_one, Nat.zero_add]
    refine ⟨⟨by omega, by simp [ints]; omega⟩, ?_⟩
    rw [ints_set, ← sets_take hil]
    simp only [go_sem, binC, out_n, thenX_n]
    refine wpc_reg ?_
    simp only [go_sem, binC, e10, hw1]
    simp only [go_sem, binC, thenX_n]
    refine ih (i + 1) _ _ (by omega) (hxc.setN (by omega) _) (.inr ⟨nb, hnb, by rw [sets_len], ?_, List.getElem?_set_self hnl2⟩) (by simp only [go_sem, binC, e3]) (by simp only [go_sem, binC, e7]) (by simp only [go_sem, binC, e9]) (by simp only [go_sem, binC])
    intro h0
    have := congrArg List.length h0
    rw [sets_len, List.length_nil] at this
    omega
end Go.Proofs.YtpaoppgbgjnkmaaI
end
section
/- The law FnRunIf on the ideal machine. -/
set_option linter.unusedVariables false
set_option linter.unusedSimpArgs false
namespace Go.Proofs.YtpaoppgbgjnkmaaI
open Go Go.RowKit
def c_lawRI : IFn := ⟨2, 137, [.t 4],
 .seq (.reg none [
    ⟨(some 4), none, .mov (.c (.bool false))⟩])
 (.seq (.seq (.reg none [
     ⟨(some 19), none, .mov (.t 0)⟩,
     ⟨(some 20), none, .len (.t 19)⟩,
     ⟨(some 21), none, .bin .gtr (.t 20) (.c (.int .i64 1048576))⟩,
     ⟨(some 22), none, .mov (.t 21)⟩,
     ⟨(some 23), (some (22, false)), .mov (.t 1)⟩,
     ⟨(some 24), (some (22, false)), .len (.t 23)⟩,
     ⟨(some 25), (some (22, false)), .bin .gtr (.t 24) (.c (.int .i64 1048576))⟩,
     ⟨(some 26), none, .pick (.t 22) (.c (.bool true)) (.t 25)⟩])
  (.cond (.t 26) (.seq (.reg none [
      ⟨(some 4), none, .mov (.c (.bool true))⟩])
   (.ret)) (.skip)))
 (.seq (.reg none [
    ⟨(some 28), none, .mov (.t 0)⟩,
    ⟨(some 29), none, .call .k (.f 17) [(.t 28)]⟩,
    ⟨(some 27), none, .mov (.t 29)⟩,
    ⟨(some 30), none, .ext (.t 27) 0⟩,
    ⟨(some 31), none, .ext (.t 27) 1⟩,
    ⟨(some 5), none, .new [(.slice none 0 0), (.slice none 0 0)]⟩,
    ⟨none, none, .store 2 (.t 5) (.t 30)⟩,
    ⟨(some 6), none, .mov (.t 31)⟩])
 (.seq (.reg none [
    ⟨(some 33), none, .load true 2 (.t 5)⟩,
    ⟨(some 34), none, .mov (.t 6)⟩,
    ⟨(some 35), none, .call .k (.f 18) [(.t 33), (.t 34)]⟩,
    ⟨(some 32), none, .mov (.t 35)⟩,
    ⟨(some 36), none, .ext (.t 32) 0⟩,
    ⟨(some 37), none, .ext (.t 32) 1⟩,
    ⟨(some 7), none, .new [(.slice none 0 0), (.slice none 0 0), (.slice none 0 0)]⟩,
    ⟨none, none, .store 3 (.t 7) (.t 36)⟩,
    ⟨(some 8), none, .mov (.t 37)⟩])
 (.seq (.reg none [
    ⟨(some 39), none, .load true 2 (.t 5)⟩,
    ⟨(some 40), none, .mov (.t 6)⟩,
    ⟨(some 41), none, .call .k (.f 14) [(.t 39), (.t 40)]⟩,
    ⟨(some 38), none, .mov (.t 41)⟩,
    ⟨(some 42), none, .ext (.t 38) 0⟩,
    ⟨(some 43), none, .ext (.t 38) 1⟩,
    ⟨(some 9), none, .new [(.slice none 0 0), (.slice none 0 0), (.slice none 0 0)]⟩,
    ⟨none, none, .store 3 (.t 9) (.t 42)⟩,
    ⟨(some 10), none, .mov (.t 43)⟩])
 (.seq (.seq (.reg none [
     ⟨(some 44), none, .mov (.t 10)⟩,
     ⟨(some 45), none, .mov (.t 8)⟩,
     ⟨(some 46), none, .beq true (.t 44) (.t 45)⟩,
     ⟨(some 47), none, .mov (.t 46)⟩,
     ⟨(some 48), (some (47, false)), .load true 3 (.t 9)⟩,
     ⟨(some 49), (some (47, false)), .load true 3 (.t 7)⟩,
     ⟨(some 50), (some (47, false)), .call .q (.f 19) [(.t 48), (.t 49)]⟩,
     ⟨(some 51), (some (47, false)), .un .not (.t 50)⟩,
     ⟨(some 52), none, .pick (.t 47) (.c (.bool true)) (.t 51)⟩,
     ⟨(some 53), none, .mov (.t 52)⟩,
     ⟨(some 54), (some (53, false)), .mov (.t 10)⟩,
     ⟨(some 55), (some (53, false)), .un .not (.t 54)⟩,
     ⟨(some 56), none, .pick (.t 53) (.c (.bool true)) (.t 55)⟩,
     ⟨(some 57), none, .mov (.t 56)⟩,
     ⟨(some 58), (some (57, false)), .fad 0 (.t 5)⟩,
     ⟨(some 59), (some (57, false)), .load false 1 (.t 58)⟩,
     ⟨(some 60), (some (57, false)), .len (.t 59)⟩,
     ⟨(some 61), (some (57, false)), .bin .eql (.t 60) (.c (.int .i64 0))⟩,
     ⟨(some 62), none, .pick (.t 57) (.c (.bool true)) (.t 61)⟩])
  (.cond (.t 62) (.seq (.reg none [
      ⟨(some 63), none, .mov (.t 10)⟩,
      ⟨(some 64), none, .mov (.t 8)⟩,
      ⟨(some 65), none, .beq false (.t 63) (.t 64)⟩,
      ⟨(some 66), none, .mov (.t 65)⟩,
      ⟨(some 67), (some (66, true)), .load true 3 (.t 9)⟩,
      ⟨(some 68), (some (66, true)), .load true 3 (.t 7)⟩,
      ⟨(some 69), (some (66, true)), .call .q (.f 19) [(.t 67), (.t 68)]⟩,
      ⟨(some 70), none, .pick (.t 66) (.t 69) (.c (.bool false))⟩,
      ⟨(some 4), none, .mov (.t 70)⟩])
   (.ret)) (.skip)))
 (.seq (.reg none [
    ⟨(some 71), none, .mov (.t 1)⟩,
    ⟨(some 72), none, .len (.t 71)⟩,
    ⟨(some 73), none, .fad 0 (.t 5)⟩,
    ⟨(some 74), none, .load false 1 (.t 73)⟩,
    ⟨(some 75), none, .len (.t 74)⟩,
    ⟨(some 76), none, .bin .rem (.t 72) (.t 75)⟩,
    ⟨(some 11), none, .mov (.t 76)⟩])
 (.seq (.reg none [
    ⟨(some 77), none, .fad 0 (.t 5)⟩,
    ⟨(some 78), none, .load false 1 (.t 77)⟩,
    ⟨(some 79), none, .mov (.t 11)⟩,
    ⟨(some 80), none, .fad 1 (.t 5)⟩,
    ⟨(some 81), none, .load false 1 (.t 80)⟩,
    ⟨(some 82), none, .build [(.int .i64 0), (.int .i64 0), (.int .i64 0), (.int .i64 0), (.int .i64 0), (.int .i64 0), (.slice none 0 0), (.slice none 0 0)] [(0, 1, (.c (.int .i64 2))), (1, 1, (.t 79)), (6, 1, (.t 81))]⟩,
    ⟨(some 83), none, .lit 8 42 1 [(.int .i64 0), (.int .i64 0), (.int .i64 0), (.int .i64 0), (.int .i64 0), (.int .i64 0), (.slice none 0 0), (.slice none 0 0)] [(0, 8, (.t 82))]⟩,
    ⟨(some 84), none, .build [(.slice none 0 0), (.slice none 0 0)] [(0, 1, (.t 78)), (1, 1, (.t 83))]⟩,
    ⟨(some 12), none, .new [(.slice none 0 0), (.slice none 0 0)]⟩,
    ⟨none, none, .store 2 (.t 12) (.t 84)⟩])
 (.seq (.reg none [
    ⟨(some 85), none, .fad 0 (.t 5)⟩,
    ⟨(some 86), none, .load false 1 (.t 85)⟩,
    ⟨(some 87), none, .mov (.t 11)⟩,
    ⟨(some 88), none, .fad 1 (.t 5)⟩,
    ⟨(some 89), none, .load false 1 (.t 88)⟩,
    ⟨(some 90), none, .build [(.int .i64 0), (.int .i64 0), (.int .i64 0), (.int .i64 0), (.int .i64 0), (.int .i64 0), (.slice none 0 0), (.slice none 0 0)] [(0, 1, (.c (.int .i64 2))), (1, 1, (.t 87)), (7, 1, (.t 89))]⟩,
    ⟨(some 91), none, .lit 8 42 1 [(.int .i64 0), (.int .i64 0), (.int .i64 0), (.int .i64 0), (.int .i64 0), (.int .i64 0), (.slice none 0 0), (.slice none 0 0)] [(0, 8, (.t 90))]⟩,
    ⟨(some 92), none, .build [(.slice none 0 0), (.slice none 0 0)] [(0, 1, (.t 86)), (1, 1, (.t 91))]⟩,
    ⟨(some 13), none, .new [(.slice none 0 0), (.slice none 0 0)]⟩,
    ⟨none, none, .store 2 (.t 13) (.t 92)⟩])
 (.seq (.reg none [
    ⟨(some 94), none, .load true 2 (.t 12)⟩,
    ⟨(some 95), none, .mov (.t 6)⟩,
    ⟨(some 96), none, .call .k (.f 14) [(.t 94), (.t 95)]⟩,
    ⟨(some 93), none, .mov (.t 96)⟩,
    ⟨(some 97), none, .ext (.t 93) 0⟩,
    ⟨(some 98), none, .ext (.t 93) 1⟩,
    ⟨(some 14), none, .new [(.slice none 0 0), (.slice none 0 0), (.slice none 0 0)]⟩,
    ⟨none, none, .store 3 (.t 14) (.t 97)⟩,
    ⟨(some 15), none, .mov (.t 98)⟩])
 (.seq (.reg none [
    ⟨(some 100), none, .load true 2 (.t 13)⟩,
    ⟨(some 101), none, .mov (.t 6)⟩,
    ⟨(some 102), none, .call .k (.f 14) [(.t 100), (.t 101)]⟩,
    ⟨(some 99), none, .mov (.t 102)⟩,
    ⟨(some 103), none, .ext (.t 99) 0⟩,
    ⟨(some 104), none, .ext (.t 99) 1⟩,
    ⟨(some 16), none, .new [(.slice none 0 0), (.slice none 0 0), (.slice none 0 0)]⟩,
    ⟨none, none, .store 3 (.t 16) (.t 103)⟩,
    ⟨(some 17), none, .mov (.t 104)⟩])
 (.seq (.seq (.reg none [
     ⟨(some 105), none, .mov (.t 15)⟩,
     ⟨(some 106), none, .un .not (.t 105)⟩,
     ⟨(some 107), none, .mov (.t 106)⟩,
     ⟨(some 108), (some (107, false)), .mov (.t 17)⟩,
     ⟨(some 109), (some (107, false)), .un .not (.t 108)⟩,
     ⟨(some 110), none, .pick (.t 107) (.c (.bool true)) (.t 109)⟩])
  (.cond (.t 110) (.seq (.reg none [
      ⟨(some 111), none, .load true 2 (.t 12)⟩,
      ⟨(some 112), none, .call .q (.f 20) [(.t 111)]⟩,
      ⟨(some 113), none, .un .not (.t 112)⟩,
      ⟨(some 4), none, .mov (.t 113)⟩])
   (.ret)) (.skip)))
 (.seq (.reg none [
    ⟨(some 114), none, .mov (.t 6)⟩,
    ⟨(some 115), none, .build [(.slice none 0 0), (.slice none 0 0), (.slice none 0 0)] [(0, 1, (.t 114))]⟩,
    ⟨(some 18), none, .new [(.slice none 0 0), (.slice none 0 0), (.slice none 0 0)]⟩,
    ⟨none, none, .store 3 (.t 18) (.t 115)⟩])
 (.seq (.seq (.reg none [
     ⟨(some 116), none, .mov (.t 6)⟩,
     ⟨(some 117), none, .mov (.t 11)⟩,
     ⟨(some 118), none, .iad 1 (.t 116) (.t 117)⟩,
     ⟨(some 119), none, .load false 1 (.t 118)⟩,
     ⟨(some 120), none, .bin .neq (.t 119) (.c (.int .i64 0))⟩])
  (.cond (.t 120) (.seq (.reg none [
      ⟨(some 121), none, .load true 3 (.t 14)⟩,
      ⟨(some 122), none, .load true 3 (.t 9)⟩,
      ⟨(some 123), none, .call .q (.f 19) [(.t 121), (.t 122)]⟩,
      ⟨(some 124), none, .mov (.t 123)⟩,
      ⟨(some 125), (some (124, true)), .load true 3 (.t 16)⟩,
      ⟨(some 126), (some (124, true)), .load true 3 (.t 18)⟩,
      ⟨(some 127), (some (124, true)), .call .q (.f 19) [(.t 125), (.t 126)]⟩,
      ⟨(some 128), none, .pick (.t 124) (.t 127) (.c (.bool false))⟩,
      ⟨(some 4), none, .mov (.t 128)⟩])
   (.ret)) (.skip)))
 (.seq (.reg none [
    ⟨(some 129), none, .load true 3 (.t 14)⟩,
    ⟨(some 130), none, .load true 3 (.t 18)⟩,
    ⟨(some 131), none, .call .q (.f 19) [(.t 129), (.t 130)]⟩,
    ⟨(some 132), none, .mov (.t 131)⟩,
    ⟨(some 133), (some (132, true)), .load true 3 (.t 16)⟩,
    ⟨(some 134), (some (132, true)), .load true 3 (.t 9)⟩,
    ⟨(some 135), (some (132, true)), .call .q (.f 19) [(.t 133), (.t 134)]⟩,
    ⟨(some 136), none, .pick (.t 132) (.t 135) (.c (.bool false))⟩,
    ⟨(some 4), none, .mov (.t 136)⟩])
 (.ret)))))))))))))))⟩
def ifS (d : Nat) (v : Int) (a b : List (TStep d)) : TStep (d + 1) := (2, v, (0, 0, 0), 0, a, b)
theorem stepB_ifS {k d : Nat} {v : Int} {a b : List (TStep d)} : stepB k (d + 1) 3 (ifS d v a b) = (varB k v && (a.all (stepB k d 2) && b.all (stepB k d 2))) := by
  simp [ifS, stepB, Bool.and_assoc]
theorem cntT_ifS {d : Nat} {v : Int} {a b : List (TStep d)} : cntT (d + 1) (ifS d v a b) = 1 + (cntL d a + cntL d b) := rfl
theorem cntL_one {d : Nat} {s : TStep d} : cntL d [s] = cntT d s := by simp [cntL]
theorem progB_if {d : Nat} {ls : List (Int × Int)} {v : Int} {l : List (TStep d)} : progB (d + 1) (ls, [ifS d v l []]) = progB (d + 1) (ls, [ifS d v [] l]) := by
  have h1 : cntL (d + 1) [ifS d v l []] = cntL (d + 1) [ifS d v [] l] := by
    rw [cntL_one, cntL_one, cntT_ifS, cntT_ifS, Int.add_comm (cntL d l)]
  have h2 : ([ifS d v l []] : List (TStep (d + 1))).all (stepB ls.length (d + 1) 3) = ([ifS d v [] l] : List (TStep (d + 1))).all (stepB ls.length (d + 1) 3) := by
    simp only [List.all_cons, List.all_nil, stepB_ifS, Bool.and_true, Bool.true_and]
  simp only [progB, h1, h2]
theorem numsB_if {d : Nat} {ls : List (Int × Int)} {l : List (TStep d)} {nums : List Int} (h : numsB d (ls, l) nums = true) {n : Nat} (l' : List (TStep n)) : numsB n (ls, l') nums = progB n (ls, l') := by
  simp only [numsB, Bool.and_eq_true, decide_eq_true_eq] at h
  simp only [numsB, h.1.2, h.2, decide_true, Bool.and_true]
theorem runT_ifS {d : Nat} {v : Int} {a b : List (TStep d)} {r : RunS} : runT (d + 1) (ifS d v a b) r = if r.1.getD v.toNat 0 = 0 then runL d b r else runL d a r := runT_if
theorem runOf_if {d : Nat} {ls : List (Int × Int)} {v : Int} {a b : List (TStep d)} {nums : List Int} (h : numsB (d + 1) (ls, [ifS d v a b]) nums = true) : runOf (d + 1) (ls, [ifS d v a b]) nums = if nums.getD v.toNat 0 = 0 then runL d b (nums, [], []) else runL d a (nums, [], []) := by
  unfold runOf
  rw [if_pos h]
  exact runT_ifS
theorem ifS_sl {d : Nat} {H : Heap} {v : Int} {av bv : Value} {a b : List (TStep d)} (es et : Nat) (ap so : Bool) (rv : RgI v) (ha : SlR (Co.step d) (vw 0 H) av a) (hb : SlR (Co.step d) (vw 0 H) bv b) : SlR (Co.step (d + 1)) (vw 0 (H ++ [⟨[.int .i64 2, .int .i64 v, .int .i64 0, .int .i64 0, .int .i64 0, .int .i64 0, av, bv], es, et, ap, so⟩])) (sli H.length 0 1) [ifS d v a b] := by
  refine ⟨by simp, _, rfl, .inr ⟨H.length, 0, rfl, fun i hi => ?_⟩⟩
  have : i = 0 := by simpa using hi
  subst this
  refine ⟨_, ?_, step_rd ⟨by omega, by omega⟩ rv ⟨by omega, by omega⟩ ⟨by omega, by omega⟩ ⟨by omega, by omega⟩ ⟨by omega, by omega⟩ (ha.mono (vw_app 0 H _)) (hb.mono (vw_app 0 H _))⟩
  unfold rng vw
  rw [if_pos (Nat.zero_le _), get_new0]
  rfl
theorem ifS_sm {d : Nat} {v : Int} {a b : List (TStep d)} {ls : List (Int × Int)} {l : List (TStep d)} (h : (Co.prog d).sm (ls, l)) (ha : (Co.sl (Co.step d)).sm a) (hb : (Co.sl (Co.step d)).sm b) : (Co.prog (d + 1)).sm (ls, [ifS d v a b]) := by
  refine ⟨h.1, by simp, fun s hs => ?_⟩
  simp only [List.mem_singleton] at hs
  subst hs
  exact step_smM ha hb
theorem nil_sm {α : Type} {A : Co α} : (Co.sl A).sm [] := ⟨by simp, fun a h => by cases h⟩
theorem nil_sl {α : Type} {A : Co α} {V : Vw} : SlR A V nilS [] := ⟨by simp, none, rfl, .inl rfl⟩
set_option maxHeartbeats 4000000 in
theorem lawRI_ok {F : Nat → Option IFn} {f : Nat} (hf : F f = some c_lawRI) (gd : DrawNumsOk F 17) (gs : RunOk F 18) (gr : RunOk F 14) (glr : RunsOk F 19) (gp : ProgOk F 20) : LawB2 F f := by
  intro H v w code more hv hw
  have hv0 := hv
  obtain ⟨h0, a, rfl, _⟩ := hv
  obtain ⟨hm0, am, rfl, _⟩ := hw
  refine QC.mk hf rfl ?_
  refine seq_reg ?_
  simp only [go_sem, binC]
  by_cases hbig : 1048576 < (code.length : Int)
  · refine seq_assoc (seq_reg ?_)
    simp only [go_sem, binC, decide_eq_true hbig]
    refine seq_cond (t := true) rfl ?_
    simp only [go_sem, binC]
    refine seq_assoc (seq_reg ?_)
    simp only [go_sem, binC]
    exact seq_ret ⟨Or.inr rfl, .bool true, by simp only [go_sem, binC], rfl, rfl⟩
  by_cases hbig2 : 1048576 < (more.length : Int)
  · refine seq_assoc (seq_reg ?_)
    simp only [go_sem, binC, decide_eq_false hbig, decide_eq_true hbig2]
    refine seq_cond (t := true) rfl ?_
    simp only [go_sem, binC]
    refine seq_assoc (seq_reg ?_)
    simp only [go_sem, binC]
    exact seq_ret ⟨Or.inr rfl, .bool true, by simp only [go_sem, binC], rfl, rfl⟩
  refine seq_assoc (seq_reg ?_)
  simp only [go_sem, binC, decide_eq_false hbig, decide_eq_false hbig2]
  refine seq_cond (t := false) rfl ?_
  simp only [go_sem, binC]
  refine seq_skip (seq_reg ?_)
  simp only [go_sem, binC]
  obtain ⟨d, lv, sv, nv, ls, l, nums, H1, k, hx, r1, r2, r3, r4⟩ := gd H _ code hv0
  have hl1 := hx.1
  have olv : one lv = true := by obtain ⟨_, a, rfl, _⟩ := r1; rfl
  have osv : one sv = true := by obtain ⟨_, a, rfl, _⟩ := r2; rfl
  refine op_callK (by simp only [go_sem, binC]; exact k) ?_
  simp only [go_sem, binC, olv, osv]
  refine ⟨by omega, ?_⟩
  refine wpc_gen fun H2 hH2 => ?_
  have hb : H2[H1.length]? = some ⟨[lv, sv], 0, 0, false, true⟩ := hH2 ▸ get_new0 _ _
  have hS : Sub (vw 0 H1) (vw 0 H2) := hH2 ▸ vw_app 0 H1 _
  have hl2 : H2.length = H1.length + 1 := by rw [hH2, List.length_append]; rfl
  replace r1 := r1.mono hS
  replace r2 := r2.mono hS
  replace r4 := r4.mono hS
  clear hH2 hS
  obtain ⟨hln, na0, hnv, _⟩ := id r4
  subst hnv
  obtain ⟨hlls, la0, hlv, _⟩ := id r1
  subst hlv
  obtain ⟨hlsv, sa0, hsv, _⟩ := id r2
  subst hsv
  refine seq_reg ?_
  simp only [go_sem, binC, gc_of hb, inBlk_some, osv]
  obtain ⟨nw, ww, tw, H3, k3, hx3, s1, s2, s3⟩ := gs H2 d _ _ _ ls l nums r1 r2 r3 r4
  obtain ⟨_, nwa, rfl, _⟩ := id s1
  obtain ⟨_, wwa, rfl, _⟩ := id s2
  obtain ⟨_, twa, rfl, _⟩ := id s3
  have hl3 := hx3.1
  refine op_callK (by simp only [go_sem, binC]; exact k3) ?_
  simp only [go_sem, binC]
  refine ⟨by omega, ?_⟩
  refine wpc_gen fun H4 hH4 => ?_
  have hx4 : AgX [] H3 H4 := hH4 ▸ AgX.app [] _ _
  have hbw : H4[H3.length]? = some ⟨[.slice nwa (runOf d (ls, l) nums).1.length (runOf d (ls, l) nums).1.length, .slice wwa (runOf d (ls, l) nums).2.1.length (runOf d (ls, l) nums).2.1.length, .slice twa (runOf d (ls, l) nums).2.2.length (runOf d (ls, l) nums).2.2.length], 0, 0, false, true⟩ := hH4 ▸ get_new0 _ _
  have hl4' : H4.length = H3.length + 1 := by rw [hH4, List.length_append]; rfl
  clear hH4
  have hx24 := hx3.tr hx4
  have hb4 := hx24.get hb (by simp)
  have hS4 := agx_sub hx24
  refine seq_reg ?_
  simp only [go_sem, binC, gc_of hb4, inBlk_some, osv]
  obtain ⟨nx, wx, tx, H5, k5, hx5, t1, t2, t3⟩ := gr H4 d _ _ _ ls l nums (r1.mono hS4) (r2.mono hS4) r3 (r4.mono hS4)
  obtain ⟨_, nxa, rfl, _⟩ := id t1
  obtain ⟨_, wxa, rfl, _⟩ := id t2
  obtain ⟨_, txa, rfl, _⟩ := id t3
  have hl5 := hx5.1
  refine op_callK (by simp only [go_sem, binC]; exact k5) ?_
  simp only [go_sem, binC]
  refine ⟨by omega, ?_⟩
  refine wpc_gen fun H6 hH6 => ?_
  have hx6 : AgX [] H5 H6 := hH6 ▸ AgX.app [] _ _
  have hbx : H6[H5.length]? = some ⟨[.slice nxa (runOf d (ls, l) nums).1.length (runOf d (ls, l) nums).1.length, .slice wxa (runOf d (ls, l) nums).2.1.length (runOf d (ls, l) nums).2.1.length, .slice txa (runOf d (ls, l) nums).2.2.length (runOf d (ls, l) nums).2.2.length], 0, 0, false, true⟩ := hH6 ▸ get_new0 _ _
  have hl6 : H6.length = H5.length + 1 := by rw [hH6, List.length_append]; rfl
  clear hH6
  have hx46 := hx5.tr hx6
  have hx26 := hx24.tr hx46
  have hb6 := hx46.get hb4 (by simp)
  have hbw6 := hx46.get hbw (by simp)
  replace r1 := r1.mono (agx_sub hx26)
  replace r2 := r2.mono (agx_sub hx26)
  replace r4 := r4.mono (agx_sub hx26)
  replace s1 := s1.mono (agx_sub (hx4.tr hx46))
  replace s2 := s2.mono (agx_sub (hx4.tr hx46))
  replace s3 := s3.mono (agx_sub (hx4.tr hx46))
  replace t1 := t1.mono (agx_sub hx6)
  replace t2 := t2.mono (agx_sub hx6)
  replace t3 := t3.mono (agx_sub hx6)
  have hEq := glr H6 _ _ _ _ _ _ _ _ t1 t2 t3 s1 s2 s3
  rw [decide_eq_true rfl] at hEq
  have hl2 := hx.1
  have hl24 := hx24.1
  clear k k3 k5
  cases hB : numsB d (ls, l) nums with
  | false =>
    refine seq_assoc (seq_reg ?_)
    simp only [go_sem, binC, hB, beq_self_eq_true, bne_self_eq_false, gc_of hbw6, gc_of hbx, inBlk_some]
    refine op_callQ (by simp only [go_sem, binC]; exact hEq) ?_
    simp only [go_sem, binC]
    refine seq_cond (t := true) rfl ?_
    simp only [go_sem, binC]
    refine seq_assoc (seq_reg ?_)
    simp only [go_sem, binC, hB, beq_self_eq_true, bne_self_eq_false, gc_of hbw6, gc_of hbx, inBlk_some]
    refine op_callQ (by simp only [go_sem, binC]; exact hEq) ?_
    simp only [go_sem, binC]
    exact seq_ret ⟨Or.inr rfl, .bool true, by simp only [go_sem, binC], rfl, rfl⟩
  | true =>
  obtain ⟨hnl, hl4, hrg⟩ := numsB_len hB
  by_cases hz : ls.length = 0
  · have hz1 : ((ls.length : Int) == 0) = true := beq_t (by omega)
    refine seq_assoc (seq_reg ?_)
    simp only [go_sem, binC, hB, beq_self_eq_true, bne_self_eq_false, gc_of hbw6, gc_of hbx, inBlk_some]
    refine op_callQ (by simp only [go_sem, binC]; exact hEq) ?_
    simp only [go_sem, binC, gc_of hb6, inBlk_some, hz1]
    refine seq_cond (t := true) rfl ?_
    simp only [go_sem, binC]
    refine seq_assoc (seq_reg ?_)
    simp only [go_sem, binC, hB, beq_self_eq_true, bne_self_eq_false, gc_of hbw6, gc_of hbx, inBlk_some]
    refine op_callQ (by simp only [go_sem, binC]; exact hEq) ?_
    simp only [go_sem, binC]
    exact seq_ret ⟨Or.inr rfl, .bool true, by simp only [go_sem, binC], rfl, rfl⟩
  have hz1 : ((ls.length : Int) == 0) = false := beq_f (by omega)
  refine seq_assoc (seq_reg ?_)
  simp only [go_sem, binC, hB, beq_self_eq_true, bne_self_eq_false, gc_of hbw6, gc_of hbx, inBlk_some]
  refine op_callQ (by simp only [go_sem, binC]; exact hEq) ?_
  simp only [go_sem, binC, gc_of hb6, inBlk_some, hz1]
  refine seq_cond (t := false) rfl ?_
  simp only [go_sem, binC]
  clear hEq s1 s2 s3 hbw6
  have hv : binI .rem .i64 (more.length : Int) (ls.length : Int) = some (.int .i64 ((more.length % ls.length : Nat) : Int)) := by rw [rem_eq (by omega), Int.tmod_eq_emod_of_nonneg (by omega)]; rfl
  have hvl := Nat.mod_lt more.length (show 0 < ls.length by omega)
  refine seq_skip (seq_reg ?_)
  simp only [go_sem, binC, gc_of hb6, inBlk_some, hv]
  generalize more.length % ls.length = v at hvl hv
  have rv : RgI (v : Int) := by unfold RgI; omega
  refine seq_reg ?_
  simp only [go_sem, binC, gc_of hb6, inBlk_some]
  refine ⟨by omega, ?_⟩
  refine wpc_gen fun H7 hh => ?_
  have hx7 : AgX [] H6 H7 := hh ▸ AgX.app [] _ _
  have hb1 : H7[H6.length + 1]? = some ⟨[.slice la0 ls.length ls.length, sli H6.length 0 1], 0, 0, false, true⟩ := hh ▸ get_new _ _ 1
  have hst1 : SlR (Co.step (d + 1)) (vw 0 H7) (sli H6.length 0 1) [ifS d v l []] := by
    rw [hh]
    have := (ifS_sl (b := []) 8 42 true true rv r2 nil_sl).mono (vw_app 0 _ [⟨[.slice la0 ls.length ls.length, sli H6.length 0 1], 0, 0, false, true⟩])
    rwa [List.append_assoc] at this
  have hl7 : H7.length = H6.length + 2 := by rw [hh, List.length_append]; rfl
  clear hh
  have hb67 := hx7.get hb6 (by simp)
  have r27 := r2.mono (agx_sub hx7)
  refine seq_reg ?_
  simp only [go_sem, binC, gc_of hb67, inBlk_some]
  refine ⟨by omega, ?_⟩
  refine wpc_gen fun H8 hh => ?_
  have hx8 : AgX [] H7 H8 := hh ▸ AgX.app [] _ _
  have hb2 : H8[H7.length + 1]? = some ⟨[.slice la0 ls.length ls.length, sli H7.length 0 1], 0, 0, false, true⟩ := hh ▸ get_new _ _ 1
  have hst2 : SlR (Co.step (d + 1)) (vw 0 H8) (sli H7.length 0 1) [ifS d v [] l] := by
    rw [hh]
    have := (ifS_sl (a := []) 8 42 true true rv nil_sl r27).mono (vw_app 0 _ [⟨[.slice la0 ls.length ls.length, sli H7.length 0 1], 0, 0, false, true⟩])
    rwa [List.append_assoc] at this
  have hl8 : H8.length = H7.length + 2 := by rw [hh, List.length_append]; rfl
  clear hh
  have hb18 := hx8.get hb1 (by simp)
  have hx68 := hx7.tr hx8
  refine seq_reg ?_
  simp only [go_sem, binC, gc_of hb18, inBlk_some]
  obtain ⟨np, wp, tp, H9, kp, hxp, up1, up2, up3⟩ := gr H8 (d + 1) _ _ _ ls [ifS d v l []] nums (r1.mono (agx_sub hx68)) (hst1.mono (agx_sub hx8)) (ifS_sm r3 r3.2 nil_sm) (r4.mono (agx_sub hx68))
  obtain ⟨_, npa, rfl, _⟩ := id up1
  obtain ⟨_, wpa, rfl, _⟩ := id up2
  obtain ⟨_, tpa, rfl, _⟩ := id up3
  have hlp := hxp.1
  refine op_callK (by simp only [go_sem, binC]; exact kp) ?_
  simp only [go_sem, binC]
  refine ⟨by omega, ?_⟩
  refine wpc_gen fun H10 hh => ?_
  have hyp : AgX [] H9 H10 := hh ▸ AgX.app [] _ _
  have hbrp : H10[H9.length]? = some ⟨[.slice npa (runOf (d + 1) (ls, [ifS d v l []]) nums).1.length (runOf (d + 1) (ls, [ifS d v l []]) nums).1.length, .slice wpa (runOf (d + 1) (ls, [ifS d v l []]) nums).2.1.length (runOf (d + 1) (ls, [ifS d v l []]) nums).2.1.length, .slice tpa (runOf (d + 1) (ls, [ifS d v l []]) nums).2.2.length (runOf (d + 1) (ls, [ifS d v l []]) nums).2.2.length], 0, 0, false, true⟩ := hh ▸ get_new0 _ _
  have hmp : H10.length = H9.length + 1 := by rw [hh, List.length_append]; rfl
  clear hh
  have hx810 := hxp.tr hyp
  have hx610 := hx68.tr hx810
  have hb210 := hx810.get hb2 (by simp)
  refine seq_reg ?_
  simp only [go_sem, binC, gc_of hb210, inBlk_some]
  obtain ⟨nq, wq, tq, H11, kq, hxq, uq1, uq2, uq3⟩ := gr H10 (d + 1) _ _ _ ls [ifS d v [] l] nums (r1.mono (agx_sub hx610)) (hst2.mono (agx_sub hx810)) (ifS_sm r3 nil_sm r3.2) (r4.mono (agx_sub hx610))
  obtain ⟨_, nqa, rfl, _⟩ := id uq1
  obtain ⟨_, wqa, rfl, _⟩ := id uq2
  obtain ⟨_, tqa, rfl, _⟩ := id uq3
  have hlq := hxq.1
  refine op_callK (by simp only [go_sem, binC]; exact kq) ?_
  simp only [go_sem, binC]
  refine ⟨by omega, ?_⟩
  refine wpc_gen fun H12 hh => ?_
  have hyq : AgX [] H11 H12 := hh ▸ AgX.app [] _ _
  have hbrq : H12[H11.length]? = some ⟨[.slice nqa (runOf (d + 1) (ls, [ifS d v [] l]) nums).1.length (runOf (d + 1) (ls, [ifS d v [] l]) nums).1.length, .slice wqa (runOf (d + 1) (ls, [ifS d v [] l]) nums).2.1.length (runOf (d + 1) (ls, [ifS d v [] l]) nums).2.1.length, .slice tqa (runOf (d + 1) (ls, [ifS d v [] l]) nums).2.2.length (runOf (d + 1) (ls, [ifS d v [] l]) nums).2.2.length], 0, 0, false, true⟩ := hh ▸ get_new0 _ _
  have hmq : H12.length = H11.length + 1 := by rw [hh, List.length_append]; rfl
  clear hh
  have hx1012 := hxq.tr hyq
  have hb112 := hx1012.get (hx810.get hb18 (by simp)) (by simp)
  have hbrp12 := hx1012.get hbrp (by simp)
  have hx612 := hx610.tr hx1012
  have hbx12 := hx612.get hbx (by simp)
  rw [numsB_if hB, numsB_if hB, ← progB_if]
  have hP1 := prog_rd (r1.mono (agx_sub hx612)) (hst1.mono (agx_sub ((hx8.tr hx810).tr hx1012)))
  cases hPB : progB (d + 1) (ls, [ifS d v l []]) with
  | false =>
    refine seq_assoc (seq_reg ?_)
    simp only [go_sem, binC]
    refine seq_cond (t := true) rfl ?_
    simp only [go_sem, binC]
    refine seq_assoc (seq_reg ?_)
    simp only [go_sem, binC, gc_of hb112, inBlk_some]
    refine op_callQ (by simp only [go_sem, binC]; exact gp H12 (d + 1) _ _ hP1 (ifS_sm r3 r3.2 nil_sm)) ?_
    simp only [go_sem, binC, hPB]
    exact seq_ret ⟨Or.inr rfl, .bool true, by simp only [go_sem, binC], rfl, rfl⟩
  | true =>
  have hN1 : numsB (d + 1) (ls, [ifS d v l []]) nums = true := by rw [numsB_if hB]; exact hPB
  have hN2 : numsB (d + 1) (ls, [ifS d v [] l]) nums = true := by rw [numsB_if hB, ← progB_if]; exact hPB
  have hR1 := runOf_if hN1
  have hR2 := runOf_if hN2
  have hR0 : runL d l (nums, [], []) = runOf d (ls, l) nums := (if_pos hB).symm
  have hR00 : runL d ([] : List (TStep d)) (nums, [], []) = (nums, [], []) := rfl
  rw [hR0, hR00, Int.toNat_natCast] at hR1 hR2
  refine seq_assoc (seq_reg ?_)
  simp only [go_sem, binC]
  refine seq_cond (t := false) rfl ?_
  simp only [go_sem, binC]
  refine seq_skip (seq_reg ?_)
  simp only [go_sem, binC]
  refine ⟨by omega, ?_⟩
  refine wpc_gen fun H13 hh => ?_
  have hx13 : AgX [] H12 H13 := hh ▸ AgX.app [] _ _
  have hbi : H13[H12.length]? = some ⟨[.slice na0 nums.length nums.length, nilS, nilS], 0, 0, false, true⟩ := hh ▸ get_new0 _ _
  clear hh
  have hS13 := agx_sub hx13
  have hS613 := agx_sub (hx612.tr hx13)
  have hbrp13 := hx13.get hbrp12 (by simp)
  have hbrq13 := hx13.get hbrq (by simp)
  have hbx13 := hx13.get hbx12 (by simp)
  replace up1 := up1.mono (agx_sub ((hyp.tr hx1012).tr hx13))
  replace up2 := up2.mono (agx_sub ((hyp.tr hx1012).tr hx13))
  replace up3 := up3.mono (agx_sub ((hyp.tr hx1012).tr hx13))
  replace uq1 := uq1.mono (agx_sub (hyq.tr hx13))
  replace uq2 := uq2.mono (agx_sub (hyq.tr hx13))
  replace uq3 := uq3.mono (agx_sub (hyq.tr hx13))
  replace t1 := t1.mono hS613
  replace t2 := t2.mono hS613
  replace t3 := t3.mono hS613
  have r413 := r4.mono hS613
  have i1 : SlR Co.int (vw 0 H13) (.slice na0 nums.length nums.length) ((nums, ([] : List (Int × Int)), ([] : List (Int × Int))) : RunS).1 := r413
  have qpx := glr H13 _ _ _ _ _ _ _ _ up1 up2 up3 t1 t2 t3
  have qqi := glr H13 _ _ _ _ _ _ _ (nums, [], []) uq1 uq2 uq3 i1 nil_sl nil_sl
  have qpi := glr H13 _ _ _ _ _ _ _ (nums, [], []) up1 up2 up3 i1 nil_sl nil_sl
  have qqx := glr H13 _ _ _ _ _ _ _ _ uq1 uq2 uq3 t1 t2 t3
  obtain ⟨nblk, no, hnv, _⟩ := gcI0 r413 (i := v) (by omega)
  simp only [Value.slice.injEq, and_true] at hnv
  subst hnv
  have gv := gcI2 r413 (i := v) (by omega)
  have gv' : nums.getD v 0 = nums[v]'(by omega) := by simp [List.getD, show v < nums.length by omega]
  rw [← gv'] at gv
  refine seq_assoc (seq_reg ?_)
  simp only [go_sem, binC]
  refine ⟨⟨by omega, by omega⟩, ?_⟩
  simp only [go_sem, binC, Int.toNat_natCast, Nat.mul_one, gv]
  by_cases h0 : nums.getD v 0 = 0
  · rw [if_pos h0] at hR1 hR2
    rw [decide_eq_true hR1] at qpi
    rw [decide_eq_true hR2] at qqx
    have hne : (nums.getD v 0 != 0) = false := by rw [h0]; rfl
    refine seq_cond (t := false) (by simp only [go_sem, binC]; rw [hne]) ?_
    simp only [go_sem, binC]
    refine seq_skip (seq_reg ?_)
    simp only [go_sem, binC, gc_of hbrp13, gc_of hbi, inBlk_some]
    refine op_callQ (by simp only [go_sem, binC]; exact qpi) ?_
    simp only [go_sem, binC, gc_of hbrq13, gc_of hbx13, inBlk_some]
    refine op_callQ (by simp only [go_sem, binC]; exact qqx) ?_
    simp only [go_sem, binC]
    exact wpc_ret ⟨Or.inr rfl, .bool true, by simp only [go_sem, binC], rfl, rfl⟩
  · rw [if_neg h0] at hR1 hR2
    rw [decide_eq_true hR1] at qpx
    rw [decide_eq_true hR2] at qqi
    have hne : (nums.getD v 0 != 0) = true := by simpa using h0
    refine seq_cond (t := true) (by simp only [go_sem, binC]; rw [hne]) ?_
    simp only [go_sem, binC]
    refine seq_assoc (seq_reg ?_)
    simp only [go_sem, binC, gc_of hbrp13, gc_of hbx13, inBlk_some]
    refine op_callQ (by simp only [go_sem, binC]; exact qpx) ?_
    simp only [go_sem, binC, gc_of hbrq13, gc_of hbi, inBlk_some]
    refine op_callQ (by simp only [go_sem, binC]; exact qqi) ?_
    simp only [go_sem, binC]
    exact seq_ret ⟨Or.inr rfl, .bool true, by simp only [go_sem, binC], rfl, rfl⟩
end Go.Proofs.YtpaoppgbgjnkmaaI
end
section
/- The functions that the laws FnRunOf and FnRunIf reach, as ideal functions. -/
set_option linter.unusedVariables false
set_option linter.unusedSimpArgs false
namespace Go.Proofs.YtpaoppgbgjnkmaaI
open Go Go.RowKit
def fnOf : Nat → Option IFn
  | 7 => some (c_lawRI)
  | 8 => some (c_lawRO)
  | 12 => some (c_drNumsOk)
  | 13 => some (c_iNums)
  | 14 => some (c_iRunOf)
  | 15 => some (c_sNums)
  | 16 => some (c_lcInts)
  | 17 => some (c_drRunOf)
  | 18 => some (c_sRunOf)
  | 19 => some (c_lcRun)
  | 20 => some (c_sProg)
  | 21 => some (c_iProgSize)
  | 36 => some (c_lcWrites)
  | 40 => some (c_l6Open)
  | 41 => some (c_drAny)
  | 42 => some (c_drNums)
  | 43 => some (c_iNum)
  | 44 => some (c_iProg)
  | 45 => some (c_cloneInts)
  | 46 => some (c_do)
  | 47 => some (c_clone)
  | 48 => some (c_sIn)
  | 49 => some (c_sDo)
  | 50 => some (c_sLabelOk)
  | 51 => some (c_sSteps)
  | 52 => some (c_sCount)
  | 53 => some (c_iSize)
  | 69 => some (c_sWhy)
  | 72 => some (c_iIn)
  | 74 => some (c_drProg)
  | 75 => some (c_pick)
  | 76 => some (c_drFine)
  | 77 => some (c_drBent)
  | 78 => some (c_con)
  | 79 => some (c_p1)
  | 80 => some (c_iLabelOk)
  | 81 => some (c_iSteps)
  | 82 => some (c_vars)
  | 83 => some (c_set)
  | 84 => some (c_of)
  | 85 => some (c_sNum)
  | 86 => some (c_sSet)
  | 87 => some (c_sStep)
  | 95 => some (c_sAllSteps)
  | 96 => some (c_sTypeAt)
  | 97 => some (c_sFine)
  | 99 => some (c_drLabel)
  | 100 => some (c_drSteps)
  | 101 => some (c_sWithout)
  | 102 => some (c_sCopy)
  | 103 => some (c_idx)
  | 104 => some (c_iSet)
  | 105 => some (c_iVar)
  | 106 => some (c_iVal)
  | 107 => some (c_iHost)
  | 108 => some (c_sAll)
  | 109 => some (c_sVar)
  | 110 => some (c_sVal)
  | 113 => some (c_sAt)
  | 114 => some (c_sAny)
  | 115 => some (c_sFlows)
  | 116 => some (c_sLBoth)
  | 117 => some (c_sValL)
  | 118 => some (c_sHas)
  | 119 => some (c_sBoth)
  | 120 => some (c_drVal)
  | 121 => some (c_sWithin)
  | _ => none
def cmOf (f : Nat) : CM := ⟨fun g => if [7, 8, 13, 15, 16, 19, 20, 21, 36, 43, 44, 48, 50, 51, 52, 53, 69, 72, 78, 79, 80, 81, 84, 85, 86, 87, 97, 103, 104, 105, 106, 107, 108, 109, 110, 114, 115, 116, 117, 118, 119, 121].contains g then .q else if [40, 41, 42, 46, 49, 74, 75, 76, 77, 83, 99, 100, 113, 120].contains g then .n else .k, if [40, 41, 42, 46, 49, 74, 75, 76, 77, 83, 99, 100, 113, 120].contains f then .n else .q, [42].contains f⟩
theorem hF7 : cFn Try.prog cmOf 7 = some (c_lawRI) := by kernel_rfl
theorem hF8 : cFn Try.prog cmOf 8 = some (c_lawRO) := by kernel_rfl
theorem hF12 : cFn Try.prog cmOf 12 = some (c_drNumsOk) := by kernel_rfl
theorem hF13 : cFn Try.prog cmOf 13 = some (c_iNums) := by kernel_rfl
theorem hF14 : cFn Try.prog cmOf 14 = some (c_iRunOf) := by kernel_rfl
theorem hF15 : cFn Try.prog cmOf 15 = some (c_sNums) := by kernel_rfl
theorem hF16 : cFn Try.prog cmOf 16 = some (c_lcInts) := by kernel_rfl
theorem hF17 : cFn Try.prog cmOf 17 = some (c_drRunOf) := by kernel_rfl
theorem hF18 : cFn Try.prog cmOf 18 = some (c_sRunOf) := by kernel_rfl
theorem hF19 : cFn Try.prog cmOf 19 = some (c_lcRun) := by kernel_rfl
theorem hF20 : cFn Try.prog cmOf 20 = some (c_sProg) := by kernel_rfl
theorem hF21 : cFn Try.prog cmOf 21 = some (c_iProgSize) := by kernel_rfl
theorem hF36 : cFn Try.prog cmOf 36 = some (c_lcWrites) := by kernel_rfl
theorem hF40 : cFn Try.prog cmOf 40 = some (c_l6Open) := by kernel_rfl
theorem hF41 : cFn Try.prog cmOf 41 = some (c_drAny) := by kernel_rfl
theorem hF42 : cFn Try.prog cmOf 42 = some (c_drNums) := by kernel_rfl
theorem hF43 : cFn Try.prog cmOf 43 = some (c_iNum) := by kernel_rfl
theorem hF44 : cFn Try.prog cmOf 44 = some (c_iProg) := by kernel_rfl
theorem hF45 : cFn Try.prog cmOf 45 = some (c_cloneInts) := by kernel_rfl
theorem hF46 : cFn Try.prog cmOf 46 = some (c_do) := by kernel_rfl
theorem hF47 : cFn Try.prog cmOf 47 = some (c_clone) := by kernel_rfl
theorem hF48 : cFn Try.prog cmOf 48 = some (c_sIn) := by kernel_rfl
theorem hF49 : cFn Try.prog cmOf 49 = some (c_sDo) := by kernel_rfl
theorem hF50 : cFn Try.prog cmOf 50 = some (c_sLabelOk) := by kernel_rfl
theorem hF51 : cFn Try.prog cmOf 51 = some (c_sSteps) := by kernel_rfl
theorem hF52 : cFn Try.prog cmOf 52 = some (c_sCount) := by kernel_rfl
theorem hF53 : cFn Try.prog cmOf 53 = some (c_iSize) := by kernel_rfl
theorem hF69 : cFn Try.prog cmOf 69 = some (c_sWhy) := by kernel_rfl
theorem hF72 : cFn Try.prog cmOf 72 = some (c_iIn) := by kernel_rfl
theorem hF74 : cFn Try.prog cmOf 74 = some (c_drProg) := by kernel_rfl
theorem hF75 : cFn Try.prog cmOf 75 = some (c_pick) := by kernel_rfl
theorem hF76 : cFn Try.prog cmOf 76 = some (c_drFine) := by kernel_rfl
theorem hF77 : cFn Try.prog cmOf 77 = some (c_drBent) := by kernel_rfl
theorem hF78 : cFn Try.prog cmOf 78 = some (c_con) := by kernel_rfl
theorem hF79 : cFn Try.prog cmOf 79 = some (c_p1) := by kernel_rfl
theorem hF80 : cFn Try.prog cmOf 80 = some (c_iLabelOk) := by kernel_rfl
theorem hF81 : cFn Try.prog cmOf 81 = some (c_iSteps) := by kernel_rfl
theorem hF82 : cFn Try.prog cmOf 82 = some (c_vars) := by kernel_rfl
theorem hF83 : cFn Try.prog cmOf 83 = some (c_set) := by kernel_rfl
theorem hF84 : cFn Try.prog cmOf 84 = some (c_of) := by kernel_rfl
theorem hF85 : cFn Try.prog cmOf 85 = some (c_sNum) := by kernel_rfl
theorem hF86 : cFn Try.prog cmOf 86 = some (c_sSet) := by kernel_rfl
theorem hF87 : cFn Try.prog cmOf 87 = some (c_sStep) := by kernel_rfl
theorem hF95 : cFn Try.prog cmOf 95 = some (c_sAllSteps) := by kernel_rfl
theorem hF96 : cFn Try.prog cmOf 96 = some (c_sTypeAt) := by kernel_rfl
theorem hF97 : cFn Try.prog cmOf 97 = some (c_sFine) := by kernel_rfl
theorem hF99 : cFn Try.prog cmOf 99 = some (c_drLabel) := by kernel_rfl
theorem hF100 : cFn Try.prog cmOf 100 = some (c_drSteps) := by kernel_rfl
theorem hF101 : cFn Try.prog cmOf 101 = some (c_sWithout) := by kernel_rfl
theorem hF102 : cFn Try.prog cmOf 102 = some (c_sCopy) := by kernel_rfl
theorem hF103 : cFn Try.prog cmOf 103 = some (c_idx) := by kernel_rfl
theorem hF104 : cFn Try.prog cmOf 104 = some (c_iSet) := by kernel_rfl
theorem hF105 : cFn Try.prog cmOf 105 = some (c_iVar) := by kernel_rfl
theorem hF106 : cFn Try.prog cmOf 106 = some (c_iVal) := by kernel_rfl
theorem hF107 : cFn Try.prog cmOf 107 = some (c_iHost) := by kernel_rfl
theorem hF108 : cFn Try.prog cmOf 108 = some (c_sAll) := by kernel_rfl
theorem hF109 : cFn Try.prog cmOf 109 = some (c_sVar) := by kernel_rfl
theorem hF110 : cFn Try.prog cmOf 110 = some (c_sVal) := by kernel_rfl
theorem hF113 : cFn Try.prog cmOf 113 = some (c_sAt) := by kernel_rfl
theorem hF114 : cFn Try.prog cmOf 114 = some (c_sAny) := by kernel_rfl
theorem hF115 : cFn Try.prog cmOf 115 = some (c_sFlows) := by kernel_rfl
theorem hF116 : cFn Try.prog cmOf 116 = some (c_sLBoth) := by kernel_rfl
theorem hF117 : cFn Try.prog cmOf 117 = some (c_sValL) := by kernel_rfl
theorem hF118 : cFn Try.prog cmOf 118 = some (c_sHas) := by kernel_rfl
theorem hF119 : cFn Try.prog cmOf 119 = some (c_sBoth) := by kernel_rfl
theorem hF120 : cFn Try.prog cmOf 120 = some (c_drVal) := by kernel_rfl
theorem hF121 : cFn Try.prog cmOf 121 = some (c_sWithin) := by kernel_rfl
theorem hF (g : Nat) (fn : IFn) (h : fnOf g = some fn) : cFn Try.prog cmOf g = some fn := by
  unfold fnOf at h
  split at h
  · rw [← h]; exact hF7
  · rw [← h]; exact hF8
  · rw [← h]; exact hF12
  · rw [← h]; exact hF13
  · rw [← h]; exact hF14
  · rw [← h]; exact hF15
  · rw [← h]; exact hF16
  · rw [← h]; exact hF17
  · rw [← h]; exact hF18
  · rw [← h]; exact hF19
  · rw [← h]; exact hF20
  · rw [← h]; exact hF21
  · rw [← h]; exact hF36
  · rw [← h]; exact hF40
  · rw [← h]; exact hF41
  · rw [← h]; exact hF42
  · rw [← h]; exact hF43
  · rw [← h]; exact hF44
  · rw [← h]; exact hF45
  · rw [← h]; exact hF46
  · rw [← h]; exact hF47
  · rw [← h]; exact hF48
  · rw [← h]; exact hF49
  · rw [← h]; exact hF50
  · rw [← h]; exact hF51
  · rw [← h]; exact hF52
  · rw [← h]; exact hF53
  · rw [← h]; exact hF69
  · rw [← h]; exact hF72
  · rw [← h]; exact hF74
  · rw [← h]; exact hF75
  · rw [← h]; exact hF76
  · rw [← h]; exact hF77
  · rw [← h]; exact hF78
  · rw [← h]; exact hF79
  · rw [← h]; exact hF80
  · rw [← h]; exact hF81
  · rw [← h]; exact hF82
  · rw [← h]; exact hF83
  · rw [← h]; exact hF84
  · rw [← h]; exact hF85
  · rw [← h]; exact hF86
  · rw [← h]; exact hF87
  · rw [← h]; exact hF95
  · rw [← h]; exact hF96
  · rw [← h]; exact hF97
  · rw [← h]; exact hF99
  · rw [← h]; exact hF100
  · rw [← h]; exact hF101
  · rw [← h]; exact hF102
  · rw [← h]; exact hF103
  · rw [← h]; exact hF104
  · rw [← h]; exact hF105
  · rw [← h]; exact hF106
  · rw [← h]; exact hF107
  · rw [← h]; exact hF108
  · rw [← h]; exact hF109
  · rw [← h]; exact hF110
  · rw [← h]; exact hF113
  · rw [← h]; exact hF114
  · rw [← h]; exact hF115
  · rw [← h]; exact hF116
  · rw [← h]; exact hF117
  · rw [← h]; exact hF118
  · rw [← h]; exact hF119
  · rw [← h]; exact hF120
  · rw [← h]; exact hF121
  · cases h
theorem hMixed : Try.prog.follows .mixedOrders = true := by kernel_rfl
theorem ok_iIn : ∀ (H : Heap) (a b c : Int), QC fnOf 72 [.int .i64 a, .int .i64 b, .int .i64 c] H (.bool (inB a b c)) := iIn_ok rfl
theorem ok_sIn : ∀ (H : Heap) (a b c : Int), QC fnOf 48 [.int .i64 a, .int .i64 b, .int .i64 c] H (.bool (inB a b c)) := sIn_ok rfl
theorem ok_iSet : ∀ (H : Heap) (a : Int), QC fnOf 104 [.int .i64 a] H (.bool (inB a 0 7)) := iSet_ok rfl ok_iIn
theorem ok_iHost : ∀ (H : Heap) (a : Int), QC fnOf 107 [.int .i64 a] H (.bool (inB a 0 2)) := iHost_ok rfl ok_iIn
theorem ok_iNum : ∀ (H : Heap) (a : Int), QC fnOf 43 [.int .i64 a] H (.bool (inB a 0 9)) := iNum_ok rfl ok_iIn
theorem ok_sAll : ∀ H, QC fnOf 108 [] H (.int .i64 7) := sAll_ok rfl
theorem ok_sSet : ∀ (H : Heap) (a : Int), QC fnOf 86 [.int .i64 a] H (.bool (inB a 0 7)) := sSet_ok rfl ok_sIn ok_sAll
theorem ok_iLabelOk : LabOk fnOf 80 := iLabelOk_ok rfl ok_iSet
theorem ok_sLabelOk : LabOk fnOf 50 := sLabelOk_ok rfl ok_sSet
theorem ok_iVar : VarOk fnOf 105 := iVar_ok rfl ok_iIn
theorem ok_sVar : VarOk fnOf 109 := sVar_ok rfl ok_sIn
theorem ok_iVal : ValOk fnOf 106 := iVal_ok rfl ok_iNum ok_iVar
theorem ok_sVal : ValOk fnOf 110 := sVal_ok rfl ok_sIn ok_sVar
theorem ok_sSteps : ∀ n, StepsOk fnOf 51 n := fun n => (sSteps_all rfl rfl ok_sIn ok_sVar ok_sVal n).1
theorem ok_iSteps : ∀ n, StepsOk fnOf 81 n := iSteps_all rfl ok_iVar ok_iVal ok_iHost
theorem ok_sCount : ∀ n, CntOk fnOf 52 n := cnt_all (fun _ h => sCount_ok rfl h) (sCount_z rfl)
theorem ok_iSize : ∀ n, CntOk fnOf 53 n := cnt_all (fun _ h => iSize_ok rfl h) (iSize_z rfl)
theorem ok_sProg : ProgOk fnOf 20 := sProg_ok rfl ok_sLabelOk ok_sSteps ok_sCount
theorem ok_iProg : ProgOk fnOf 44 := iProg_ok rfl (con_ok rfl (idx_ok rfl (p1_ok rfl ok_iLabelOk))) ok_iSteps ok_iSize
theorem ok_sHas : HasOk fnOf 118 := sHas_ok rfl
theorem ok_sWit : WitOk fnOf 121 := sWithin_ok rfl ok_sHas
theorem ok_sBoth : BothOk fnOf 119 := sBoth_ok rfl ok_sHas
theorem ok_sLBoth : LBothOk fnOf 116 := sLBoth_ok rfl ok_sLabelOk ok_sBoth
theorem ok_sFlows : FlowsOk fnOf 115 := sFlows_ok rfl ok_sLabelOk ok_sWit
theorem ok_sAny : ∀ H, QC fnOf 114 [] H (.agg #[.int .i64 7, .int .i64 7]) := sAny_ok rfl ok_sAll
theorem ok_sFine : FineOk fnOf 97 := sFine_ok rfl (sValL_ok rfl ok_sAny ok_sLBoth) ok_sLBoth ok_sFlows ok_sBoth ok_sHas
theorem ok_sAllSteps : ∀ n, AllOk fnOf 95 n := sAllSteps_all rfl
theorem ok_sAt : ∀ n, AtOk fnOf 113 n := sAt_all rfl ok_sLBoth
theorem ok_sTypeAt : TypeAtOk fnOf 96 := sTypeAt_ok rfl ok_sProg ok_sAny ok_sAt
theorem ok_sWhy : WhyOk fnOf 69 := sWhy_ok rfl ok_sProg ok_sAllSteps ok_sTypeAt ok_sFine
theorem ok_sCopy : ∀ n, CopyOk fnOf 102 n := sCopy_all rfl
theorem ok_sWithout : ∀ n, WoOk fnOf 101 n := sWithout_all rfl ok_sCount
theorem ok_drProg {H0 : Heap} {rb : Nat} {bv : Value} {code : List Int} (hc : RdC H0 rb bv code) : DrawS fnOf H0 rb bv 74 [] 40000 (ProgQ 3) := drProg_ok rfl rfl rfl rfl rfl ok_sProg hc
theorem ok_drFine {H0 : Heap} {rb : Nat} {bv : Value} {code : List Int} (hc : RdC H0 rb bv code) : DrawS fnOf H0 rb bv 76 [] 40000 (ProgQ 3) := drFine_ok rfl hc (ok_drProg hc) ok_sWhy ok_sWithout
theorem ok_drAny {H0 : Heap} {rb : Nat} {bv : Value} {code : List Int} (hc : RdC H0 rb bv code) : DrawS fnOf H0 rb bv 41 [] 90000 ProgR := drAny_ok rfl rfl hc (ok_drProg hc) (ok_drFine hc) (drBent_ok rfl rfl ok_sCopy hc)
theorem ok_iNums : NumsOk fnOf 13 := iNums_ok rfl ok_iNum ok_iProg
theorem ok_sNums : NumsOk fnOf 15 := sNums_ok rfl ok_sIn ok_sProg
theorem ok_do : ∀ n, DoOk fnOf 46 n := do_all rfl rfl rfl rfl
theorem ok_iRunOf : RunOk fnOf 14 := iRunOf_ok rfl ok_iNums rfl ok_do rfl
theorem ok_drNumsOk : DrawNumsV fnOf 12 := drNumsV_ok rfl rfl rfl rfl ok_drAny
theorem ok_drRunOf : DrawNumsOk fnOf 17 := drRunOf_ok rfl ok_drNumsOk
theorem ok_sDo : ∀ n, DoSOk fnOf 49 n := sDo_all rfl rfl
theorem ok_sRunOf : RunOk fnOf 18 := sRunOf_ok rfl ok_sNums ok_sDo
theorem ok_lcInts : IntsOk fnOf 16 := lcInts_ok rfl
theorem ok_lcWrites : PairsOk fnOf 36 := lcWrites_ok rfl
theorem ok_lcRun : RunsOk fnOf 19 := lcRun_ok rfl ok_lcInts ok_lcWrites
theorem ok_iProgSize : SizeOk fnOf 21 := iProgSize_ok rfl ok_iProg ok_iSize
theorem ok_lawRO : LawB fnOf 8 := lawRO_ok rfl ok_drRunOf ok_sRunOf ok_iRunOf ok_lcRun ok_lcInts ok_iNums ok_iProgSize
theorem ok_lawRI : LawB2 fnOf 7 := lawRI_ok rfl ok_drRunOf ok_sRunOf ok_iRunOf ok_lcRun ok_sProg
end Go.Proofs.YtpaoppgbgjnkmaaI
end
section
/- Laws of one and two arguments, lists of bytes, called in the model. -/
set_option linter.unusedVariables false
set_option linter.unusedSimpArgs false
namespace Go.Proofs.YtpaoppgbgjnkmaaI
open Go Go.RowKit
theorem Good.byte {w : World} {n : Int} (h : (Lit.int .u8 n).wf = true) : Good Co.byte w [.int .u8 n] := fun H m s =>
  ⟨n, [], m, [.int .u8 n], by simpa using s, sub_refl m, ⟨rfl, by simpa [Lit.wf, IntKind.min, IntKind.max, IntKind.signed, IntKind.bits] using h⟩, All2.cons (.inl rfl) All2.nil⟩
theorem good_5 {T : Type} {enc : TypeId × Value → T} {w : World} {spare : Nat → Bool} {held : Bool} {n : Nat} {cs : List Value} {x : DataW T × List MemPlace} (h : DataW.trod enc Try.prog w 0 spare held n 5 cs = some x) : Good Co.byte w cs := by
  obtain ⟨m, rfl, _, hw⟩ := DataW.trod_int Try.underlying5 h
  exact Good.byte hw
theorem good_22 {T : Type} {enc : TypeId × Value → T} {w : World} {spare : Nat → Bool} {held : Bool} {n : Nat} {cs : List Value} {x : DataW T × List MemPlace} (h : DataW.trod enc Try.prog w 0 spare held n 22 cs = some x) : Good (Co.sl Co.byte) w cs :=
  Good.sl Try.underlying22 (by kernel_rfl) (by decide) h fun _ _ _ _ h => good_5 h
theorem lawB_calls {n : Nat} (hl : LawB fnOf n) {W : World} {a : Option Addr} {l c : Nat} (g0 : Good (Co.sl Co.byte) W [.slice a l c]) :
    Calls Try.prog n #[.slice a l c] W fun e w' => e = .returned (.bool true) ∧ Below W.heap.size W w' := by
  obtain ⟨ts, L2, m2, cs1, s2, q2, r2, e2⟩ := g0 [] (fun _ => none) (SL.none _)
  obtain ⟨u, rfl, hu⟩ := r2
  exact law_core hF hMixed s2 (vals := [u]) (All2.cons (VR.one_mk e2) All2.nil) (hl _ u ts hu)
theorem lawB2_calls {n : Nat} (hl : LawB2 fnOf n) {W : World} {a b : Option Addr} {l c l' c' : Nat} (g0 : Good (Co.sl Co.byte) W [.slice a l c]) (g1 : Good (Co.sl Co.byte) W [.slice b l' c']) :
    Calls Try.prog n #[.slice a l c, .slice b l' c'] W fun e w' => e = .returned (.bool true) ∧ Below W.heap.size W w' := by
  obtain ⟨ts, L, m, cs0, s, q, r, e⟩ := g0 [] (fun _ => none) (SL.none _)
  rw [List.nil_append] at s r
  obtain ⟨ts', L2, m2, cs1, s2, q2, r2, e2⟩ := g1 L m s
  obtain ⟨u, rfl, hu⟩ := r
  obtain ⟨u', rfl, hu'⟩ := r2
  exact law_core hF hMixed s2 (vals := [u, u']) (All2.cons (VR.one_mk (e.mono fun _ _ _ h => VR1.mono q2 h)) (All2.cons (VR.one_mk e2) All2.nil)) (hl _ u u' ts ts' (hu.mono (vw_app 0 L L2)) hu')
end Go.Proofs.YtpaoppgbgjnkmaaI
end
