/- Texts of this proof, merged: H12, H13, H14, H15, H16, H17, H18, H20, GL25, BL25. -/
import Derived.Test.YtemnemmnfnpnoaaPe10
import Derived.Test.YtemnemmnfnpnoaaRows
section
/- A program and a row, drawn. -/
set_option linter.unusedVariables false
set_option linter.unusedSimpArgs false
namespace Go.Proofs.YtemnemmnfnpnoaaI
open Go Go.RowKit
def c_drTP : IFn := ⟨1, 11, [.cell true 2 2, .t 3],
 .seq (.reg none [
    ⟨(some 2), none, .new [(.slice none 0 0), (.slice none 0 0)]⟩,
    ⟨(some 3), none, .mov (.c (.slice none 0 0))⟩])
 (.seq (.reg none [
    ⟨(some 5), none, .mov (.t 0)⟩,
    ⟨(some 6), none, .call .n (.f 52) [(.t 5)]⟩,
    ⟨(some 4), none, .mov (.t 6)⟩])
 (.seq (.reg none [
    ⟨(some 7), none, .mov (.t 4)⟩,
    ⟨(some 8), none, .call .n (.f 53) [(.t 7)]⟩,
    ⟨(some 9), none, .mov (.t 4)⟩,
    ⟨(some 10), none, .call .n (.f 54) [(.t 9), (.c (.int .i64 3))]⟩,
    ⟨none, none, .store 2 (.t 2) (.t 8)⟩,
    ⟨(some 3), none, .mov (.t 10)⟩])
 (.ret)))⟩
def DrawNumsOk (F : Nat → Option IFn) (f : Nat) : Prop := ∀ (H : Heap) (v : Value) (code : List Int), SlR Co.byte (vw 0 H) v code → ∃ (d : Nat) (lv sv nv : Value) (ls : List (Int × Int)) (l : List (TStep d)) (nums : List Int) (H' : Heap), KC F f [v] H (.tuple #[.agg #[lv, sv], nv]) H' ∧
  (AgX [] H H' ∧ SlR Co.p2 (vw 0 H') lv ls ∧ SlR (Co.step d) (vw 0 H') sv l ∧ (Co.prog d).sm (ls, l) ∧ SlR Co.int (vw 0 H') nv nums)
def DrawNumsV (F : Nat → Option IFn) (f : Nat) : Prop := ∀ (H : Heap) (v : Value) (code : List Int), SlR Co.byte (vw 0 H) v code → ∃ (d : Nat) (lv sv nv : Value) (ls : List (Int × Int)) (l : List (TStep d)) (nums : List Int) (H' : Heap), KC F f [v] H (.tuple #[.agg #[lv, sv], nv]) H' ∧
  (AgX [] H H' ∧ SlR Co.p2 (vwl H.length [] H') lv ls ∧ SlR (Co.step d) (vwl H.length [] H') sv l ∧ (Co.prog d).sm (ls, l) ∧ SlR Co.int (vwl H.length [] H') nv nums)
theorem DrawNumsV.ok {F : Nat → Option IFn} {f : Nat} (h : DrawNumsV F f) : DrawNumsOk F f := by
  intro H v code hv
  obtain ⟨d, lv, sv, nv, ls, l, nums, H', h1, h2, r1, r2, r3, r4⟩ := h H v code hv
  exact ⟨d, lv, sv, nv, ls, l, nums, H', h1, h2, r1.mono (vwl0 _ _ _), r2.mono (vwl0 _ _ _), r3, r4.mono (vwl0 _ _ _)⟩
theorem drTP_ok {F : Nat → Option IFn} {f : Nat} (hf : F f = some c_drTP) (hop : F 52 = some c_l6Open) (hpk : F 82 = some c_pick) (hrw : F 54 = some c_drRow) (gan : ∀ {H0 : Heap} {rb : Nat} {bv : Value} {code : List Int}, RdC H0 rb bv code → DrawS F H0 rb bv 53 [] 90000 ProgR) : DrawNumsOk F f := by
  refine DrawNumsV.ok fun H v code hv => ?_
  suffices h : ∃ w H', KC F f [v] H w H' ∧ (∃ (d : Nat) (lv sv nv : Value) (ls : List (Int × Int)) (l : List (TStep d)) (nums : List Int), w = .tuple #[.agg #[lv, sv], nv] ∧ (AgX [] H H' ∧ SlR Co.p2 (vwl H.length [] H') lv ls ∧ SlR (Co.step d) (vwl H.length [] H') sv l ∧ (Co.prog d).sm (ls, l) ∧ SlR Co.int (vwl H.length [] H') nv nums)) by
    obtain ⟨w, H', h1, d, lv, sv, nv, ls, l, nums, rfl, h2⟩ := h
    exact ⟨d, lv, sv, nv, ls, l, nums, H', h1, h2⟩
  refine KC.mk hf rfl ?_
  refine seq_reg ?_
  simp only [go_sem, binC]
  refine wpc_gen fun H1 hH1 => ?_
  have ht1 : AgX [] H H1 := hH1 ▸ AgX.app [] _ _
  have hb1 : H1[H.length]? = some ⟨[nilS, nilS], 0, 0, false, true⟩ := hH1 ▸ get_new0 _ _
  have hn1 : H1.length = H.length + 1 := by rw [hH1, List.length_append]; rfl
  clear hH1
  refine seq_reg ?_
  simp only [go_sem, binC]
  obtain ⟨bv, code', k2, hc, hs2⟩ := l6Open_ok hop (hv.mono (agx_sub ht1)) H.length ht1.1
  refine op_callN (by simp only [go_sem, binC]; exact k2) ?_
  simp only [go_sem, binC]
  refine wpc_gen fun H2 hH2 => ?_
  rw [← hH2] at hs2
  have ht2 : AgX [] H H2 := hH2 ▸ ht1.appN _
  have hb2 : H2[H.length]? = some ⟨[nilS, nilS], 0, 0, false, true⟩ := by rw [hH2, List.getElem?_append_left (List.getElem?_eq_some_iff.1 hb1).1]; exact hb1
  have hn2 : H2.length = H1.length + 1 := by rw [hH2, List.length_append]; rfl
  clear hH2
  refine seq_reg ?_
  simp only [go_sem, binC]
  obtain ⟨v3, H3, p3, k3, x3, s3, c3, d, lv, sv, ls, l, rfl, r1, r2, r3, r4, r5⟩ := gan hc H2 0 H.length hs2 (by omega) (by omega) (by omega)
  refine op_callN (by simp only [go_sem, binC]; exact k3) ?_
  have olv : one lv = true := by obtain ⟨_, a, rfl, _⟩ := r1; rfl
  have osv : one sv = true := by obtain ⟨_, a, rfl, _⟩ := r2; rfl
  have hl3 := x3.1
  simp only [go_sem, binC, olv, osv]
  obtain ⟨v5, H5, p5, k5, x5, s5, c5, row, hns, hnl⟩ := drRow_ok hrw hpk hc (n := 3) (by omega) H3 p3 H.length s3 (by omega) (by omega) (by omega)
  refine op_callN (by simp only [go_sem, binC]; exact k5) ?_
  have hb5 := x5.get (x3.get hb2 (by simp; omega)) (by simp; omega)
  have hb5l := (List.getElem?_eq_some_iff.1 hb5).1
  simp only [go_sem, binC, hb5, olv, osv]
  have hvf : Sub (vwl H2.length [] H3) (vwl H.length [] (H5.set H.length ⟨[lv, sv], 0, 0, false, true⟩)) := (vwl_sub x5 (Nat.le_refl _) (xs' := []) fun b' h1 h2 _ => ⟨by simp; omega, by simp⟩ : Sub (vwl H2.length [] H3) (vwl H2.length [] H5)).trans (vwl_sub (AgX.set H5 H.length _) (show H.length ≤ H2.length by omega) (xs' := []) fun b' h1 h2 _ => ⟨by simp; omega, by simp⟩)
  have hvn : Sub (vwl H3.length [] H5) (vwl H.length [] (H5.set H.length ⟨[lv, sv], 0, 0, false, true⟩)) := vwl_sub (AgX.set H5 H.length _) (show H.length ≤ H3.length by omega) (xs' := []) fun b' h1 h2 h3 => ⟨by simp; omega, h3⟩
  refine wpc_ret ⟨Or.inr rfl, .tuple #[.agg #[lv, sv], v5], ?_, ?_⟩
  · obtain ⟨_, a5, rfl, _⟩ := hns
    simp [resV, resL, res1, putE_get, notT, ptr, gc_set hb5l, inBlk_some, valOf]
  · refine ⟨d, lv, sv, v5, ls, l, row, rfl, ?_, r1.mono hvf, r2.mono hvf, r3, hns.mono hvn⟩
    exact (ht2.trans (x3.tr x5) (fun _ h _ => h) (fun b h1 h2 => by simp at h1; omega)).setN (Nat.le_refl _) _
end Go.Proofs.YtemnemmnfnpnoaaI
end
section
/- Programs whose variables are named otherwise, and named back: plain facts. -/
set_option linter.unusedVariables false
set_option linter.unusedSimpArgs false
namespace Go.Proofs.YtemnemmnfnpnoaaI
open Go Go.RowKit
theorem mapT_succ (T : Shal → Shal) (n : Nat) (k x : Int) (v : Int × Int × Int) (g : Int) (th el : List (TStep n)) : mapT T (n + 1) (k, x, v, g, th, el) = ((T (k, x, v, g)).1, (T (k, x, v, g)).2.1, (T (k, x, v, g)).2.2.1, (T (k, x, v, g)).2.2.2, th.map (mapT T n), el.map (mapT T n)) := rfl
theorem cntT_map (T : Shal → Shal) : ∀ (n : Nat) (s : TStep n), cntT n (mapT T n s) = cntT n s
  | 0, s => s.elim
  | n + 1, (k, x, v, g, th, el) => by
    have go : ∀ l : List (TStep n), ((l.map (mapT T n)).map (cntT n)) = l.map (cntT n) := fun l => by
      rw [List.map_map]
      exact List.map_congr_left fun a _ => cntT_map T n a
    rw [mapT_succ]
    show 1 + ((((th.map (mapT T n)).map (cntT n))).sum + (((el.map (mapT T n)).map (cntT n))).sum) = _
    rw [go, go]
    rfl
theorem cntL_map (T : Shal → Shal) {n : Nat} (l : List (TStep n)) : cntL n (l.map (mapT T n)) = cntL n l := by
  unfold cntL
  rw [List.map_map]
  congr 1
  exact List.map_congr_left fun a _ => cntT_map T n a
/-- What leaves steps in form. -/
structure GoodT (k : Nat) (T : Shal → Shal) : Prop where
  kd : ∀ s, (T s).1 = s.1
  vr : ∀ s, varB k s.2.1 = true → varB k (T s).2.1 = true
  vl : ∀ s, valB k s.2.2.1 = true → valB k (T s).2.2.1 = true
  v0 : ∀ s, s.2.2.1 = (0, 0, 0) → (T s).2.2.1 = (0, 0, 0)
  h0 : ∀ s, s.1 ≠ 3 → (T s).2.2.2 = s.2.2.2
  h3 : ∀ s, s.1 = 3 → inB s.2.2.2 0 2 = true → inB (T s).2.2.2 0 2 = true
theorem stepB_map {k : Nat} {T : Shal → Shal} (hT : GoodT k T) : ∀ (n : Nat) (d : Int) (s : TStep n), stepB k n d s = true → stepB k n d (mapT T n s) = true
  | 0, _, s, _ => s.elim
  | n + 1, d, (kd, vr, v, ho, th, el), h => by
    have go : ∀ l : List (TStep n), l.all (stepB k n (d - 1)) = true → (l.map (mapT T n)).all (stepB k n (d - 1)) = true := fun l hl => by
      rw [List.all_eq_true] at hl ⊢
      intro a ha
      obtain ⟨a', ha', rfl⟩ := List.mem_map.1 ha
      exact stepB_map hT n (d - 1) a' (hl a' ha')
    have q0 := hT.kd (kd, vr, v, ho)
    have q1 := hT.vr (kd, vr, v, ho)
    have q2 := hT.vl (kd, vr, v, ho)
    have q3 := hT.v0 (kd, vr, v, ho)
    have q4 := hT.h0 (kd, vr, v, ho)
    have q5 := hT.h3 (kd, vr, v, ho)
    rw [mapT_succ]
    generalize T (kd, vr, v, ho) = t at *
    obtain ⟨kd', vr', v', ho'⟩ := t
    simp only at q0 q1 q2 q3 q4 q5 ⊢
    subst q0
    simp only [stepB, Bool.and_eq_true, decide_eq_true_eq] at h ⊢
    obtain ⟨⟨h1, hv⟩, h⟩ := h
    refine ⟨⟨h1, q1 hv⟩, ?_⟩
    by_cases k1 : kd' = 1
    · rw [if_pos k1] at h ⊢
      simp only [Bool.and_eq_true, decide_eq_true_eq, List.length_map] at h ⊢
      exact ⟨⟨q2 h.1.1, by rw [q4 (by omega)]; exact h.1.2⟩, h.2⟩
    rw [if_neg k1] at h ⊢
    by_cases k3 : kd' = 3
    · rw [if_pos k3] at h ⊢
      simp only [Bool.and_eq_true, decide_eq_true_eq, List.length_map] at h ⊢
      exact ⟨⟨q3 h.1.1, q5 k3 h.1.2⟩, h.2⟩
    rw [if_neg k3] at h ⊢
    by_cases k2 : kd' = 2
    · rw [if_pos k2] at h ⊢
      simp only [Bool.and_eq_true, decide_eq_true_eq] at h ⊢
      exact ⟨⟨⟨q3 h.1.1.1, by rw [q4 (by omega)]; exact h.1.1.2⟩, go th h.1.2⟩, go el h.2⟩
    · rw [if_neg k2] at h; cases h
theorem progB_map {n : Nat} {ls ls' : List (Int × Int)} {l : List (TStep n)} {T : Shal → Shal} (hT : GoodT ls.length T) (h : progB n (ls, l) = true) (hl : ls'.length = ls.length) (hls : ls'.all labB = true) : progB n (ls', l.map (mapT T n)) = true := by
  simp only [progB, Bool.and_eq_true, decide_eq_true_eq] at h ⊢
  obtain ⟨⟨⟨h1, h2⟩, h3⟩, h4⟩ := h
  refine ⟨⟨⟨by rw [hl]; exact h1, hls⟩, ?_⟩, by rw [cntL_map]; exact h4⟩
  rw [hl, List.all_eq_true]
  intro a ha
  obtain ⟨a', ha', rfl⟩ := List.mem_map.1 ha
  exact stepB_map hT n 3 a' (List.all_eq_true.1 h3 a' ha')
theorem step_sm_map {T : Shal → Shal} : ∀ (n : Nat) (s : TStep n), (Co.step n).sm s → (Co.step n).sm (mapT T n s)
  | 0, s, _ => s.elim
  | n + 1, (k, x, v, g, th, el), h => by
    have go : ∀ l : List (TStep n), (Co.sl (Co.step n)).sm l → (Co.sl (Co.step n)).sm (l.map (mapT T n)) := fun l hl => ⟨by rw [List.length_map]; exact hl.1, fun a ha => by
      obtain ⟨a', ha', rfl⟩ := List.mem_map.1 ha
      exact step_sm_map n a' (hl.2 a' ha')⟩
    obtain ⟨h1, h2, h3, h4, h5, h6⟩ := h
    exact ⟨trivial, trivial, ⟨trivial, trivial, trivial⟩, trivial, go th h5, go el h6⟩
theorem steps_sm_map {T : Shal → Shal} {n : Nat} {l : List (TStep n)} (hl : (Co.sl (Co.step n)).sm l) : (Co.sl (Co.step n)).sm (l.map (mapT T n)) := ⟨by rw [List.length_map]; exact hl.1, fun a ha => by
  obtain ⟨a', ha', rfl⟩ := List.mem_map.1 ha
  exact step_sm_map n a' (hl.2 a' ha')⟩
theorem labs_sm {ls : List (Int × Int)} (h : ls.length ≤ 1048576) : (Co.sl Co.p2).sm ls := ⟨h, fun a _ => ⟨trivial, trivial⟩⟩
/-! ### Names -/
theorem nameO_get {row : List Int} {k : Nat} (hr : rowB row k = true) {x : Int} (hx : 0 ≤ x ∧ x < k) : ∃ h : x.toNat < row.length, nameO row x = row[x.toNat] ∧ 0 ≤ nameO row x ∧ nameO row x < k := by
  obtain ⟨h1, h2, h3⟩ := rowB_iff.1 hr
  have h : x.toNat < row.length := by omega
  have e : nameO row x = row[x.toNat] := by
    unfold nameO
    rw [List.getD_eq_getElem?_getD, List.getElem?_eq_getElem h]
    rfl
  have := h2 _ (List.getElem_mem h)
  exact ⟨h, e, by omega, by omega⟩
theorem nameO_back {row : List Int} {k : Nat} (hr : rowB row k = true) {x : Int} (hx : 0 ≤ x ∧ x < k) : nameO (backR row) (nameO row x) = x := by
  obtain ⟨h1, h2, h3⟩ := rowB_iff.1 hr
  obtain ⟨h, e, e1, e2⟩ := nameO_get hr hx
  rw [e] at e1 e2 ⊢
  unfold nameO backR
  rw [List.getD_eq_getElem?_getD, List.getElem?_map, List.getElem?_range (by omega)]
  have h4 : ((row[x.toNat].toNat : Nat) : Int) = row[x.toNat] := by omega
  simp only [Option.map_some, Option.getD_some, h4]
  rw [h3.idxOf_getElem]
  omega
end Go.Proofs.YtemnemmnfnpnoaaI
end
section
/- The law FnTurnVars on the ideal machine. -/
set_option linter.unusedVariables false
set_option linter.unusedSimpArgs false
namespace Go.Proofs.YtemnemmnfnpnoaaI
open Go Go.RowKit
theorem turnO_sm {n : Nat} {m : Nat → Nat} {lab : List Int → List (Int × Int) → List (Int × Int)} {T : List Int → Shal → Shal} {ls : List (Int × Int)} {l : List (TStep n)} {row : List Int} (h : (Co.prog n).sm (ls, l)) (hl : (lab row ls).length = ls.length) : (Co.prog n).sm (turnO n m lab T ls l row) := by
  unfold turnO
  split
  · exact ⟨labs_sm (by rw [hl]; exact h.1.1), steps_sm_map h.2⟩
  · exact ⟨⟨by simp, by simp⟩, ⟨by simp, by simp⟩⟩
end Go.Proofs.YtemnemmnfnpnoaaI
end
section
/- Sets of hosts that are named otherwise. -/
set_option linter.unusedVariables false
set_option linter.unusedSimpArgs false
namespace Go.Proofs.YtemnemmnfnpnoaaI
open Go Go.RowKit
def c_turned : IFn := ⟨2, 24, [.t 4],
 .seq (.reg none [
    ⟨(some 4), none, .mov (.c (.int .i64 0))⟩])
 (.seq (.reg none [
    ⟨(some 5), none, .mov (.c (.int .i64 0))⟩])
 (.seq (.seq (.reg none [
     ⟨(some 8), none, .mov (.t 1)⟩,
     ⟨(some 9), none, .len (.t 8)⟩,
     ⟨(some 10), none, .mov (.c (.int .i64 0))⟩])
  (.block 0 (.loop (.seq (.reg none [
       ⟨(some 11), none, .bin .lss (.t 10) (.t 9)⟩])
    (.seq (.cond (.t 11) (.skip) (.exit 0))
    (.seq (.block 1 (.seq (.reg none [
         ⟨(some 12), none, .mov (.t 10)⟩,
         ⟨(some 13), none, .iad 1 (.t 8) (.t 10)⟩,
         ⟨(some 14), none, .load false 1 (.t 13)⟩,
         ⟨(some 6), none, .mov (.t 12)⟩,
         ⟨(some 7), none, .mov (.t 14)⟩])
      (.seq (.reg none [
         ⟨(some 15), none, .mov (.t 0)⟩,
         ⟨(some 16), none, .mov (.t 6)⟩,
         ⟨(some 17), none, .call .q (.f 92) [(.t 15), (.t 16)]⟩])
      (.cond (.t 17) (.reg none [
         ⟨(some 18), none, .mov (.t 5)⟩,
         ⟨(some 19), none, .mov (.t 7)⟩,
         ⟨(some 20), none, .bin .shl (.c (.int .i64 1)) (.t 19)⟩,
         ⟨(some 21), none, .bin .or (.t 18) (.t 20)⟩,
         ⟨(some 5), none, .mov (.t 21)⟩]) (.skip)))))
    (.reg none [
      ⟨(some 22), none, .bin .add (.t 10) (.c (.int .i64 1))⟩,
      ⟨(some 10), none, .mov (.t 22)⟩])))))))
 (.seq (.reg none [
    ⟨(some 23), none, .mov (.t 5)⟩,
    ⟨(some 4), none, .mov (.t 23)⟩])
 (.ret))))⟩
def c_sTSet : IFn := ⟨2, 30, [.t 4],
 .seq (.reg none [
    ⟨(some 4), none, .mov (.c (.int .i64 0))⟩])
 (.seq (.reg none [
    ⟨(some 5), none, .mov (.c (.int .i64 0))⟩])
 (.seq (.seq (.reg none [
     ⟨(some 6), none, .mov (.c (.int .i64 0))⟩])
  (.block 0 (.loop (.seq (.seq (.reg none [
        ⟨(some 7), none, .mov (.t 6)⟩,
        ⟨(some 8), none, .bin .lss (.t 7) (.c (.int .i64 3))⟩,
        ⟨(some 9), none, .mov (.t 8)⟩,
        ⟨(some 10), (some (9, true)), .mov (.t 0)⟩,
        ⟨(some 11), (some (9, true)), .call .q (.f 90) [(.t 10)]⟩,
        ⟨(some 12), none, .pick (.t 9) (.t 11) (.c (.bool false))⟩,
        ⟨(some 13), none, .mov (.t 12)⟩,
        ⟨(some 14), (some (13, true)), .mov (.t 1)⟩,
        ⟨(some 15), (some (13, true)), .call .q (.f 38) [(.t 14), (.c (.int .i64 3))]⟩,
        ⟨(some 16), none, .pick (.t 13) (.t 15) (.c (.bool false))⟩])
     (.cond (.t 16) (.skip) (.exit 0)))
    (.seq (.block 1 (.seq (.reg none [
         ⟨(some 19), none, .mov (.t 0)⟩,
         ⟨(some 20), none, .mov (.t 6)⟩,
         ⟨(some 21), none, .call .q (.f 91) [(.t 19), (.t 20)]⟩])
      (.cond (.t 21) (.reg none [
         ⟨(some 22), none, .mov (.t 5)⟩,
         ⟨(some 23), none, .mov (.t 1)⟩,
         ⟨(some 24), none, .mov (.t 6)⟩,
         ⟨(some 25), none, .iad 1 (.t 23) (.t 24)⟩,
         ⟨(some 26), none, .load false 1 (.t 25)⟩,
         ⟨(some 27), none, .bin .shl (.c (.int .i64 1)) (.t 26)⟩,
         ⟨(some 28), none, .bin .add (.t 22) (.t 27)⟩,
         ⟨(some 5), none, .mov (.t 28)⟩]) (.skip))))
    (.reg none [
      ⟨(some 17), none, .mov (.t 6)⟩,
      ⟨(some 18), none, .bin .add (.t 17) (.c (.int .i64 1))⟩,
      ⟨(some 6), none, .mov (.t 18)⟩]))))))
 (.seq (.reg none [
    ⟨(some 29), none, .mov (.t 5)⟩,
    ⟨(some 4), none, .mov (.t 29)⟩])
 (.ret))))⟩
theorem row3 {row : List Int} (h : rowB row 3 = true) : row = [0, 1, 2] ∨ row = [0, 2, 1] ∨ row = [1, 0, 2] ∨ row = [1, 2, 0] ∨ row = [2, 0, 1] ∨ row = [2, 1, 0] := by
  obtain ⟨h1, h2, h3⟩ := rowB_iff.1 h
  match row, h1 with
  | [a, b, c], _ =>
    have ha := h2 a (by simp)
    have hb := h2 b (by simp)
    have hc := h2 c (by simp)
    simp only [List.nodup_cons, List.mem_cons, List.not_mem_nil, or_false, not_or, not_false_eq_true, and_true] at h3
    obtain ⟨⟨d1, d2⟩, d3, -⟩ := h3
    have qa : a = 0 ∨ a = 1 ∨ a = 2 := by omega
    have qb : b = 0 ∨ b = 1 ∨ b = 2 := by omega
    have qc : c = 0 ∨ c = 1 ∨ c = 2 := by omega
    rcases qa with rfl | rfl | rfl <;> rcases qb with rfl | rfl | rfl <;> rcases qc with rfl | rfl | rfl <;> first | (exfalso; omega) | simp
/-- The set of new names, host by host. -/
def tsI (row : List Int) (s : Int) : Nat → Int
  | 0 => 0
  | i + 1 => tsI row s i + (if hasB s i = true then 2 ^ (row.getD i 0).toNat else 0)
def tset (row : List Int) (s : Int) : Int := tsI row s 3
theorem set8c {s : Int} (h : 0 ≤ s ∧ s ≤ 7) : s = 0 ∨ s = 1 ∨ s = 2 ∨ s = 3 ∨ s = 4 ∨ s = 5 ∨ s = 6 ∨ s = 7 := by omega
theorem ts_or {row : List Int} {s : Int} {i : Nat} (hr : rowB row 3 = true) (hs : 0 ≤ s ∧ s ≤ 7) (hi : i < 3) :
    IntKind.i64.wrap ((BitVec.ofInt 64 (tsI row s i) ||| BitVec.ofInt 64 (2 ^ (row.getD i 0).toNat)).toNat : Nat) = tsI row s i + 2 ^ (row.getD i 0).toNat ∧ IntKind.i64.wrap (tsI row s i + 2 ^ (row.getD i 0).toNat) = tsI row s i + 2 ^ (row.getD i 0).toNat ∧ IntKind.i64.wrap (1 * 2 ^ (min (row.getD i 0).toNat 64)) = 2 ^ (row.getD i 0).toNat := by
  have qi : i = 0 ∨ i = 1 ∨ i = 2 := by omega
  rcases row3 hr with rfl | rfl | rfl | rfl | rfl | rfl <;> rcases qi with rfl | rfl | rfl <;> rcases set8c hs with rfl | rfl | rfl | rfl | rfl | rfl | rfl | rfl <;> decide +kernel
theorem binI_or (k : IntKind) (x y : Int) : binI .or k x y = some (.int k (k.wrap ((BitVec.ofInt k.bits x ||| BitVec.ofInt k.bits y).toNat : Nat))) := rfl
theorem binI_shl {k : IntKind} {x y : Int} (h : 0 ≤ y) : binI .shl k x y = some (.int k (k.wrap (x * 2 ^ (min y.toNat k.bits)))) := by
  show (if y < 0 then none else _) = _
  rw [if_neg (by omega)]
theorem getD_int {l : List Int} {i : Nat} (h : i < l.length) : l.getD i 0 = l[i] := by simp [List.getD, h]
theorem turned_ok {F : Nat → Option IFn} {f : Nat} (hf : F f = some c_turned) (gh : HasOk F 92) : ∀ (H : Heap) (s : Int) (v : Value) (row : List Int), 0 ≤ s ∧ s ≤ 7 → rowB row 3 = true → SlR Co.int (vw 0 H) v row → QC F f [.int .i64 s, v] H (.int .i64 (tset row s)) := by
  intro H s v row hs hr r
  obtain ⟨_, a, rfl, _⟩ := id r
  obtain ⟨hr1, hr2, hr3⟩ := rowB_iff.1 hr
  refine QC.mk hf rfl ?_
  refine seq_reg ?_
  simp only [go_sem, binC]
  refine seq_reg ?_
  simp only [go_sem, binC]
  refine seq_assoc (seq_reg ?_)
  simp only [go_sem, binC]
  refine seq_block (wpc_loop ?_)
  suffices h : ∀ (k i : Nat) (e : Env), i + k = 3 → e 0 = .int .i64 s → e 5 = .int .i64 (tsI row s i) → e 8 = .slice a row.length row.length → e 9 = .int .i64 row.length → e 10 = .int .i64 i → W F H.length _ e H _ from
    h 3 0 _ rfl (by simp only [go_sem, binC]) (by (simp only [go_sem, binC]) <;> rfl) (by simp only [go_sem, binC]) (by simp only [go_sem, binC]) (by (simp only [go_sem, binC]) <;> rfl)
  intro k
  induction k with
  | zero =>
    intro i e hi e0 e5 e8 e9 e10
    obtain rfl : i = 3 := hi
    refine lp_step ?_
    refine seq_reg ?_
    simp only [go_sem, binC, e9, e10]
    refine seq_cond (t := false) (by simp only [go_sem, binC]; rw [decide_eq_false (by omega)]) ?_
    simp only [go_sem, binC]
    refine seq_exit ?_
    simp only [go_sem, binC, thenX_e, out_e, thenX_n]
    refine seq_reg ?_
    simp only [go_sem, binC, e5]
    exact wpc_ret ⟨Or.inr rfl, _, (by (simp only [go_sem, binC]) <;> rfl), rfl, rfl⟩
  | succ k ih =>
    intro i e hi e0 e5 e8 e9 e10
    have hil : i < row.length := by omega
    have hw1 : IntKind.i64.wrap ((i : Int) + 1) = ((i + 1 : Nat) : Int) := by rw [wrap_id (by omega) (by omega)]; omega
    obtain ⟨b, o, hv1, hg⟩ := gcI r hil
    simp only [Value.slice.injEq, and_true] at hv1
    subst hv1
    obtain ⟨t1, t2, t3⟩ := ts_or hr hs (i := i) (by omega)
    have hgd := getD_int hil
    have h0 := (hr2 _ (List.getElem_mem hil)).1
    refine lp_step ?_
    refine seq_reg ?_
    simp only [go_sem, binC, e9, e10]
    refine seq_cond (t := true) (by simp only [go_sem, binC]; rw [decide_eq_true (by omega)]) ?_
    simp only [go_sem, binC]
    refine seq_skip (seq_block (seq_reg ?_))
    simp only [go_sem, binC, e8, e10]
    refine ⟨⟨by omega, by omega⟩, ?_⟩
    simp only [go_sem, binC, Int.toNat_natCast, Nat.mul_one, hg]
    refine seq_reg ?_
    simp only [go_sem, binC, e0]
    refine op_callB (by simp only [go_sem, binC, e0]; exact gh H s i hs.1 hs.2) (fun hh => ?_) (fun hh => ?_)
    · simp only [go_sem, binC]
      refine wpc_cond (t := true) rfl ?_
      simp only [go_sem, binC]
      refine wpc_reg ?_
      rw [hgd] at t1 t2 t3
      have hsh : binI .shl .i64 1 row[i] = some (.int .i64 (2 ^ row[i].toNat)) := by rw [binI_shl h0]; exact congrArg _ (congrArg _ t3)
      have hor : binI .or .i64 (tsI row s i) (2 ^ row[i].toNat) = some (.int .i64 (tsI row s (i + 1))) := by
        rw [binI_or]
        refine congrArg _ (congrArg _ (t1.trans ?_))
        show _ = tsI row s i + (if hasB s i = true then 2 ^ (row.getD i 0).toNat else 0)
        rw [if_pos hh, hgd]
      simp only [go_sem, binC, e5, hsh, hor]
      simp only [go_sem, binC, out_n, thenX_n]
      refine wpc_reg ?_
      simp only [go_sem, binC, e10, hw1]
      simp only [go_sem, binC, thenX_n]
      exact ih (i + 1) _ (by omega) (by simp only [go_sem, binC, e0]) (by simp only [go_sem, binC]) (by simp only [go_sem, binC, e8]) (by simp only [go_sem, binC, e9]) (by simp only [go_sem, binC])
    · simp only [go_sem, binC]
      refine wpc_cond (t := false) rfl ?_
      simp only [go_sem, binC]
      refine wpc_skip ?_
      simp only [go_sem, binC, out_n, thenX_n]
      refine wpc_reg ?_
      simp only [go_sem, binC, e10, hw1]
      simp only [go_sem, binC, thenX_n]
      have hsm : tsI row s (i + 1) = tsI row s i := by
        show tsI row s i + (if hasB s i = true then 2 ^ (row.getD i 0).toNat else 0) = _
        rw [if_neg (by rw [hh]; simp), Int.add_zero]
      exact ih (i + 1) _ (by omega) (by simp only [go_sem, binC, e0]) (by simp only [go_sem, binC, e5, hsm]) (by simp only [go_sem, binC, e8]) (by simp only [go_sem, binC, e9]) (by simp only [go_sem, binC])
/-- The set of new names; none, of what is no set, or by what is no row. -/
def tsetO (row : List Int) (s : Int) : Int := if (inB s 0 7 && rowB row 3) = true then tset row s else 0
def TSetOk (F : Nat → Option IFn) (f : Nat) : Prop := ∀ (H : Heap) (s : Int) (v : Value) (row : List Int), SlR Co.int (vw 0 H) v row → QC F f [.int .i64 s, v] H (.int .i64 (tsetO row s))
theorem sTSet_ok {F : Nat → Option IFn} {f : Nat} (hf : F f = some c_sTSet) (gh : HasOk F 91) (gs : ∀ (H : Heap) (a : Int), QC F 90 [.int .i64 a] H (.bool (inB a 0 7))) (gr : RowOk F 38) : TSetOk F f := by
  intro H s v row r
  obtain ⟨_, a, rfl, _⟩ := id r
  refine QC.mk hf rfl ?_
  refine seq_reg ?_
  simp only [go_sem, binC]
  refine seq_reg ?_
  simp only [go_sem, binC]
  refine seq_assoc (seq_reg ?_)
  simp only [go_sem, binC]
  refine seq_block (wpc_loop ?_)
  cases hS : inB s 0 7 with
  | false =>
    refine lp_step ?_
    refine seq_assoc (seq_reg ?_)
    have hd : decide ((0 : Int) < 3) = true := rfl
    simp only [go_sem, binC, hd]
    refine op_callQ (by simp only [go_sem, binC]; exact gs H s) ?_
    simp only [go_sem, binC, hS]
    refine seq_cond (t := false) rfl ?_
    simp only [go_sem, binC]
    refine seq_exit ?_
    simp only [go_sem, binC, thenX_e, out_e, thenX_n]
    refine seq_reg ?_
    simp only [go_sem, binC]
    refine wpc_ret ⟨Or.inr rfl, .int .i64 0, (by (simp only [go_sem, binC]) <;> rfl), ?_, rfl⟩
    unfold tsetO
    rw [hS]
    rfl
  | true =>
  cases hR : rowB row 3 with
  | false =>
    refine lp_step ?_
    refine seq_assoc (seq_reg ?_)
    have hd : decide ((0 : Int) < 3) = true := rfl
    simp only [go_sem, binC, hd]
    refine op_callQ (by simp only [go_sem, binC]; exact gs H s) ?_
    simp only [go_sem, binC, hS]
    refine op_callQ (by simp only [go_sem, binC]; exact gr H _ row 3 (by omega) r) ?_
    simp only [go_sem, binC, hR]
    refine seq_cond (t := false) rfl ?_
    simp only [go_sem, binC]
    refine seq_exit ?_
    simp only [go_sem, binC, thenX_e, out_e, thenX_n]
    refine seq_reg ?_
    simp only [go_sem, binC]
    refine wpc_ret ⟨Or.inr rfl, .int .i64 0, (by (simp only [go_sem, binC]) <;> rfl), ?_, rfl⟩
    unfold tsetO
    rw [hS, hR]
    rfl
  | true =>
  have hs := inB_iff.1 hS
  obtain ⟨hr1, hr2, hr3⟩ := rowB_iff.1 hR
  suffices h : ∀ (k i : Nat) (e : Env), i + k = 3 → e 0 = .int .i64 s → e 1 = .slice a row.length row.length → e 5 = .int .i64 (tsI row s i) → e 6 = .int .i64 i → W F H.length _ e H _ from
    h 3 0 _ rfl (by simp only [go_sem, binC]) (by simp only [go_sem, binC]) (by (simp only [go_sem, binC]) <;> rfl) (by (simp only [go_sem, binC]) <;> rfl)
  intro k
  induction k with
  | zero =>
    intro i e hi e0 e1 e5 e6
    obtain rfl : i = 3 := hi
    refine lp_step ?_
    refine seq_assoc (seq_reg ?_)
    have hd : decide (((3 : Nat) : Int) < 3) = false := rfl
    simp only [go_sem, binC, e6, hd]
    refine seq_cond (t := false) (by simp only [go_sem, binC]) ?_
    simp only [go_sem, binC]
    refine seq_exit ?_
    simp only [go_sem, binC, thenX_e, out_e, thenX_n]
    refine seq_reg ?_
    simp only [go_sem, binC, e5]
    refine wpc_ret ⟨Or.inr rfl, _, (by (simp only [go_sem, binC]) <;> rfl), ?_, rfl⟩
    unfold tsetO
    rw [hS, hR]
    rfl
  | succ k ih =>
    intro i e hi e0 e1 e5 e6
    have hil : i < row.length := by omega
    have hw1 : IntKind.i64.wrap ((i : Int) + 1) = ((i + 1 : Nat) : Int) := by rw [wrap_id (by omega) (by omega)]; omega
    obtain ⟨b, o, hv1, hg⟩ := gcI r hil
    simp only [Value.slice.injEq, and_true] at hv1
    subst hv1
    obtain ⟨t1, t2, t3⟩ := ts_or hR hs (i := i) (by omega)
    have hgd := getD_int hil
    have h0 := (hr2 _ (List.getElem_mem hil)).1
    have hd : decide ((i : Int) < 3) = true := decide_eq_true (by omega)
    refine lp_step ?_
    refine seq_assoc (seq_reg ?_)
    simp only [go_sem, binC, e0, e6, hd]
    refine op_callQ (by simp only [go_sem, binC, e0]; exact gs H s) ?_
    simp only [go_sem, binC, e1, hS]
    refine op_callQ (by simp only [go_sem, binC, e1]; exact gr H _ row 3 (by omega) r) ?_
    simp only [go_sem, binC, hR]
    refine seq_cond (t := true) (by simp only [go_sem, binC]) ?_
    simp only [go_sem, binC]
    refine seq_skip (seq_block (seq_reg ?_))
    simp only [go_sem, binC, e0, e6]
    refine op_callB (by simp only [go_sem, binC, e0, e6]; exact gh H s i hs.1 hs.2) (fun hh => ?_) (fun hh => ?_)
    · simp only [go_sem, binC]
      refine wpc_cond (t := true) rfl ?_
      simp only [go_sem, binC]
      refine wpc_reg ?_
      rw [hgd] at t1 t2 t3
      have hsh : binI .shl .i64 1 row[i] = some (.int .i64 (2 ^ row[i].toNat)) := by rw [binI_shl h0]; exact congrArg _ (congrArg _ t3)
      have hor : IntKind.i64.wrap (tsI row s i + 2 ^ row[i].toNat) = tsI row s (i + 1) := by
        refine t2.trans ?_
        show _ = tsI row s i + (if hasB s i = true then 2 ^ (row.getD i 0).toNat else 0)
        rw [if_pos hh, hgd]
      simp only [go_sem, binC, e1, e5, e6]
      refine ⟨⟨by omega, by omega⟩, ?_⟩
      simp only [go_sem, binC, Int.toNat_natCast, Nat.mul_one, hg, e5, hsh, hor]
      simp only [go_sem, binC, out_n, thenX_n]
      refine wpc_reg ?_
      simp only [go_sem, binC, e6, hw1]
      simp only [go_sem, binC, thenX_n]
      exact ih (i + 1) _ (by omega) (by simp only [go_sem, binC, e0]) (by simp only [go_sem, binC, e1]) (by simp only [go_sem, binC]) (by simp only [go_sem, binC])
    · simp only [go_sem, binC]
      refine wpc_cond (t := false) rfl ?_
      simp only [go_sem, binC]
      refine wpc_skip ?_
      simp only [go_sem, binC, out_n, thenX_n]
      refine wpc_reg ?_
      simp only [go_sem, binC, e6, hw1]
      simp only [go_sem, binC, thenX_n]
      have hsm : tsI row s (i + 1) = tsI row s i := by
        show tsI row s i + (if hasB s i = true then 2 ^ (row.getD i 0).toNat else 0) = _
        rw [if_neg (by rw [hh]; simp), Int.add_zero]
      exact ih (i + 1) _ (by omega) (by simp only [go_sem, binC, e0]) (by simp only [go_sem, binC, e1]) (by simp only [go_sem, binC, e5, hsm]) (by simp only [go_sem, binC])
/-! ### Facts of sets -/
theorem tset_bd {row : List Int} {s : Int} (hr : rowB row 3 = true) (hs : 0 ≤ s ∧ s ≤ 7) : 0 ≤ tset row s ∧ tset row s ≤ 7 := by
  rcases row3 hr with rfl | rfl | rfl | rfl | rfl | rfl <;> rcases set8c hs with rfl | rfl | rfl | rfl | rfl | rfl | rfl | rfl <;> decide +kernel
def turnLH (row : List Int) (ls : List (Int × Int)) : List (Int × Int) := ls.map fun a => (tset row a.1, tset row a.2)
theorem turnLH_len (row : List Int) (ls : List (Int × Int)) : (turnLH row ls).length = ls.length := by simp [turnLH]
theorem labB_iff {a : Int × Int} : labB a = true ↔ (0 ≤ a.1 ∧ a.1 ≤ 7) ∧ 0 ≤ a.2 ∧ a.2 ≤ 7 := by
  simp only [labB, Bool.and_eq_true, inB_iff]
theorem turnLH_lab {row : List Int} {ls : List (Int × Int)} (hr : rowB row 3 = true) (h : ls.all labB = true) : (turnLH row ls).all labB = true := by
  rw [List.all_eq_true] at h ⊢
  intro p hp
  obtain ⟨a, ha, rfl⟩ := List.mem_map.1 hp
  have := labB_iff.1 (h a ha)
  exact labB_iff.2 ⟨tset_bd hr this.1, tset_bd hr this.2⟩
theorem nameO_bd {row : List Int} (hr : rowB row 3 = true) {x : Int} (hx : 0 ≤ x ∧ x ≤ 2) : 0 ≤ nameO row x ∧ nameO row x ≤ 2 := by
  have := (nameO_get hr (x := x) (by omega)).2.2
  omega
theorem turnH_good {row : List Int} {k : Nat} (hr : rowB row 3 = true) : GoodT k (turnH row) := by
  refine ⟨fun s => rfl, fun s h => h, fun s h => h, fun s h => h, fun s h => if_neg h, fun s h3 h => ?_⟩
  show inB (if s.1 = 3 then nameO row s.2.2.2 else s.2.2.2) 0 2 = true
  rw [if_pos h3]
  exact inB_iff.2 (nameO_bd hr (inB_iff.1 h))
theorem progB_labs {n : Nat} {ls : List (Int × Int)} {l : List (TStep n)} (h : progB n (ls, l) = true) : ls.all labB = true := by
  simp only [progB, Bool.and_eq_true] at h
  exact h.1.1.2
theorem turnP_ok {n : Nat} {ls : List (Int × Int)} {l : List (TStep n)} {row : List Int} (h : progB n (ls, l) = true) (hr : rowB row 3 = true) : progB n (turnLH row ls, l.map (mapT (turnH row) n)) = true :=
  progB_map (turnH_good hr) h (turnLH_len _ _) (turnLH_lab hr (progB_labs h))
end Go.Proofs.YtemnemmnfnpnoaaI
end
section
/- Programs whose hosts are named otherwise. -/
set_option linter.unusedVariables false
set_option linter.unusedSimpArgs false
namespace Go.Proofs.YtemnemmnfnpnoaaI
open Go Go.RowKit
def c_tp1 : IFn := ⟨2, 18, [],
 .seq (.reg none [
    ⟨(some 3), none, .mov (.t 0)⟩,
    ⟨(some 4), none, .nilck (.t 3)⟩,
    ⟨(some 5), none, .fad 0 (.t 4)⟩,
    ⟨(some 6), none, .load false 1 (.t 5)⟩,
    ⟨(some 7), none, .bin .eql (.t 6) (.c (.int .i64 3))⟩])
 (.cond (.t 7) (.reg (some 8) [
    ⟨(some 8), none, .mov (.t 0)⟩,
    ⟨(some 9), none, .load false 1 (.t 1)⟩,
    ⟨(some 10), none, .mov (.t 0)⟩,
    ⟨(some 11), none, .nilck (.t 10)⟩,
    ⟨(some 12), none, .fad 5 (.t 11)⟩,
    ⟨(some 13), none, .load false 1 (.t 12)⟩,
    ⟨(some 14), none, .iad 1 (.t 9) (.t 13)⟩,
    ⟨(some 15), none, .load false 1 (.t 14)⟩,
    ⟨(some 16), none, .nilck (.t 8)⟩,
    ⟨(some 17), none, .fad 5 (.t 16)⟩,
    ⟨none, none, .store 1 (.t 17) (.t 15)⟩]) (.skip))⟩
def c_iTurnProg : IFn := ⟨2, 47, [.cell true 2 4, .t 5],
 .seq (.reg none [
    ⟨(some 2), none, .box (.t 0)⟩,
    ⟨(some 3), none, .box (.t 1)⟩,
    ⟨(some 4), none, .new [(.slice none 0 0), (.slice none 0 0)]⟩,
    ⟨(some 5), none, .mov (.c (.bool false))⟩])
 (.seq (.seq (.reg none [
     ⟨(some 9), none, .load true 2 (.t 2)⟩,
     ⟨(some 10), none, .call .q (.f 24) [(.t 9)]⟩,
     ⟨(some 11), none, .un .not (.t 10)⟩,
     ⟨(some 12), none, .mov (.t 11)⟩,
     ⟨(some 13), (some (12, false)), .load false 1 (.t 3)⟩,
     ⟨(some 14), (some (12, false)), .call .q (.f 42) [(.t 13), (.c (.int .i64 3))]⟩,
     ⟨(some 15), (some (12, false)), .un .not (.t 14)⟩,
     ⟨(some 16), none, .pick (.t 12) (.c (.bool true)) (.t 15)⟩])
  (.cond (.t 16) (.seq (.reg none [
      ⟨(some 17), none, .build [(.slice none 0 0), (.slice none 0 0)] []⟩,
      ⟨none, none, .store 2 (.t 4) (.t 17)⟩,
      ⟨(some 5), none, .mov (.c (.bool false))⟩])
   (.ret)) (.skip)))
 (.seq (.reg none [
    ⟨(some 18), none, .load true 2 (.t 2)⟩,
    ⟨(some 19), none, .call .k (.f 43) [(.t 18)]⟩,
    ⟨(some 6), none, .new [(.slice none 0 0), (.slice none 0 0)]⟩,
    ⟨none, none, .store 2 (.t 6) (.t 19)⟩])
 (.seq (.seq (.reg none [
     ⟨(some 20), none, .fad 0 (.t 6)⟩,
     ⟨(some 21), none, .load false 1 (.t 20)⟩,
     ⟨(some 22), none, .len (.t 21)⟩,
     ⟨(some 23), none, .mov (.c (.int .i64 0))⟩])
  (.block 0 (.loop (.seq (.reg none [
       ⟨(some 24), none, .bin .lss (.t 23) (.t 22)⟩])
    (.seq (.cond (.t 24) (.skip) (.exit 0))
    (.seq (.block 1 (.seq (.reg none [
         ⟨(some 25), none, .mov (.t 23)⟩,
         ⟨(some 26), none, .iad 2 (.t 21) (.t 23)⟩,
         ⟨(some 27), none, .load true 2 (.t 26)⟩,
         ⟨(some 8), none, .new [(.int .i64 0), (.int .i64 0)]⟩,
         ⟨(some 7), none, .mov (.t 25)⟩,
         ⟨none, none, .store 2 (.t 8) (.t 27)⟩])
      (.reg (some 12) [
        ⟨(some 28), none, .fad 0 (.t 6)⟩,
        ⟨(some 29), none, .load false 1 (.t 28)⟩,
        ⟨(some 30), none, .mov (.t 7)⟩,
        ⟨(some 31), none, .fad 0 (.t 8)⟩,
        ⟨(some 32), none, .load false 1 (.t 31)⟩,
        ⟨(some 33), none, .load false 1 (.t 3)⟩,
        ⟨(some 34), none, .call .q (.f 63) [(.t 32), (.t 33)]⟩,
        ⟨(some 35), none, .fad 1 (.t 8)⟩,
        ⟨(some 36), none, .load false 1 (.t 35)⟩,
        ⟨(some 37), none, .load false 1 (.t 3)⟩,
        ⟨(some 38), none, .call .q (.f 63) [(.t 36), (.t 37)]⟩,
        ⟨(some 39), none, .build [(.int .i64 0), (.int .i64 0)] [(0, 1, (.t 34)), (1, 1, (.t 38))]⟩,
        ⟨(some 40), none, .iad 2 (.t 29) (.t 30)⟩,
        ⟨none, none, .store 2 (.t 40) (.t 39)⟩])))
    (.reg none [
      ⟨(some 41), none, .bin .add (.t 23) (.c (.int .i64 1))⟩,
      ⟨(some 23), none, .mov (.t 41)⟩])))))))
 (.seq (.reg none [
    ⟨(some 42), none, .fad 1 (.t 6)⟩,
    ⟨(some 43), none, .load false 1 (.t 42)⟩,
    ⟨(some 44), none, .mkf 64 [] [(.t 3)]⟩,
    ⟨(some 45), none, .call .n (.f 44) [(.t 43), (.t 44)]⟩])
 (.seq (.reg none [
    ⟨(some 46), none, .load true 2 (.t 6)⟩,
    ⟨none, none, .store 2 (.t 4) (.t 46)⟩,
    ⟨(some 5), none, .mov (.c (.bool true))⟩])
 (.ret))))))⟩
def c_sTurnProg : IFn := ⟨2, 53, [.cell true 2 4, .t 5],
 .seq (.reg none [
    ⟨(some 2), none, .box (.t 0)⟩,
    ⟨(some 4), none, .new [(.slice none 0 0), (.slice none 0 0)]⟩,
    ⟨(some 5), none, .mov (.c (.bool false))⟩])
 (.seq (.seq (.reg none [
     ⟨(some 8), none, .load true 2 (.t 2)⟩,
     ⟨(some 9), none, .call .q (.f 29) [(.t 8)]⟩,
     ⟨(some 10), none, .un .not (.t 9)⟩,
     ⟨(some 11), none, .mov (.t 10)⟩,
     ⟨(some 12), (some (11, false)), .mov (.t 1)⟩,
     ⟨(some 13), (some (11, false)), .call .q (.f 38) [(.t 12), (.c (.int .i64 3))]⟩,
     ⟨(some 14), (some (11, false)), .un .not (.t 13)⟩,
     ⟨(some 15), none, .pick (.t 11) (.c (.bool true)) (.t 14)⟩])
  (.cond (.t 15) (.seq (.reg none [
      ⟨(some 16), none, .build [(.slice none 0 0), (.slice none 0 0)] []⟩,
      ⟨none, none, .store 2 (.t 4) (.t 16)⟩,
      ⟨(some 5), none, .mov (.c (.bool false))⟩])
   (.ret)) (.skip)))
 (.seq (.reg none [
    ⟨(some 17), none, .lit 2 63 0 [] []⟩,
    ⟨(some 18), none, .fad 1 (.t 2)⟩,
    ⟨(some 19), none, .load false 1 (.t 18)⟩,
    ⟨(some 20), none, .mov (.t 1)⟩,
    ⟨(some 21), none, .call .k (.f 61) [(.t 19), (.t 20)]⟩,
    ⟨(some 22), none, .build [(.slice none 0 0), (.slice none 0 0)] [(0, 1, (.t 17)), (1, 1, (.t 21))]⟩,
    ⟨(some 6), none, .new [(.slice none 0 0), (.slice none 0 0)]⟩,
    ⟨none, none, .store 2 (.t 6) (.t 22)⟩])
 (.seq (.seq (.reg none [
     ⟨(some 7), none, .mov (.c (.int .i64 0))⟩])
  (.block 0 (.loop (.seq (.seq (.reg none [
        ⟨(some 23), none, .mov (.t 7)⟩,
        ⟨(some 24), none, .fad 0 (.t 2)⟩,
        ⟨(some 25), none, .load false 1 (.t 24)⟩,
        ⟨(some 26), none, .len (.t 25)⟩,
        ⟨(some 27), none, .bin .lss (.t 23) (.t 26)⟩])
     (.cond (.t 27) (.skip) (.exit 0)))
    (.seq (.block 1 (.reg (some 20) [
        ⟨(some 30), none, .fad 0 (.t 6)⟩,
        ⟨(some 31), none, .load false 1 (.t 30)⟩,
        ⟨(some 32), none, .fad 0 (.t 2)⟩,
        ⟨(some 33), none, .load false 1 (.t 32)⟩,
        ⟨(some 34), none, .mov (.t 7)⟩,
        ⟨(some 35), none, .iad 2 (.t 33) (.t 34)⟩,
        ⟨(some 36), none, .fad 0 (.t 35)⟩,
        ⟨(some 37), none, .load false 1 (.t 36)⟩,
        ⟨(some 38), none, .mov (.t 1)⟩,
        ⟨(some 39), none, .call .q (.f 62) [(.t 37), (.t 38)]⟩,
        ⟨(some 40), none, .fad 0 (.t 2)⟩,
        ⟨(some 41), none, .load false 1 (.t 40)⟩,
        ⟨(some 42), none, .mov (.t 7)⟩,
        ⟨(some 43), none, .iad 2 (.t 41) (.t 42)⟩,
        ⟨(some 44), none, .fad 1 (.t 43)⟩,
        ⟨(some 45), none, .load false 1 (.t 44)⟩,
        ⟨(some 46), none, .mov (.t 1)⟩,
        ⟨(some 47), none, .call .q (.f 62) [(.t 45), (.t 46)]⟩,
        ⟨(some 48), none, .build [(.int .i64 0), (.int .i64 0)] [(0, 1, (.t 39)), (1, 1, (.t 47))]⟩,
        ⟨(some 49), none, .lit 2 63 1 [(.int .i64 0), (.int .i64 0)] [(0, 2, (.t 48))]⟩,
        ⟨(some 50), none, .app 2 63 16 false (.t 31) (.t 49)⟩,
        ⟨(some 51), none, .fad 0 (.t 6)⟩,
        ⟨none, none, .store 1 (.t 51) (.t 50)⟩]))
    (.reg none [
      ⟨(some 28), none, .mov (.t 7)⟩,
      ⟨(some 29), none, .bin .add (.t 28) (.c (.int .i64 1))⟩,
      ⟨(some 7), none, .mov (.t 29)⟩]))))))
 (.seq (.reg none [
    ⟨(some 52), none, .load true 2 (.t 6)⟩,
    ⟨none, none, .store 2 (.t 4) (.t 52)⟩,
    ⟨(some 5), none, .mov (.c (.bool true))⟩])
 (.ret)))))⟩
theorem setL_same8 {cs a : List Value} {o : Nat} (ha : a.length = 8) (h : (cs.drop o).take 8 = a) (ho : o + 8 ≤ cs.length) : setL cs o a = cs := by
  have h0 : 0 < a.length := by omega
  have e := set8 (v := a[0]) ha h ho (j := 0) (by omega)
  rw [List.set_getElem_self] at e
  rw [← e]
  have h1 : o + 0 < cs.length := by omega
  have h2 : a[0] = cs[o + 0] := by
    have : a[0]? = cs[o + 0]? := by rw [← h, List.getElem?_take_of_lt (by omega), List.getElem?_drop]
    rw [List.getElem?_eq_getElem h0, List.getElem?_eq_getElem h1, Option.some.injEq] at this
    exact this
  rw [h2, List.set_getElem_self]
theorem tp1_ok {F : Nat → Option IFn} {H0 : Heap} {rb k : Nat} {w : Value} {row : List Int} (hf : F 64 = some c_tp1) (hw : SlR Co.int (vw 0 H0) w row) (hrb : H0[rb]? = some ⟨[w], 0, 0, false, true⟩) (hrow : rowB row 3 = true) : CloOk F 64 #[] #[ptr rb 0] H0 (okS k) (turnH row) := by
  intro H b cs i s tv ev lo hx0 hb0 hlo hb hl8 h8 hrg hP otv oev
  obtain ⟨sk, sx, ⟨sa, sb, sc⟩, sg⟩ := s
  obtain ⟨p1, p2, p3, p4, p5⟩ := hP
  simp only at p5
  have hrgT : shRg (turnH row (sk, sx, (sa, sb, sc), sg)) := by
    obtain ⟨r1, r2, r3, r4, r5, r6⟩ := hrg
    refine ⟨r1, r2, r3, r4, r5, ?_⟩
    show RgI (if sk = 3 then nameO row sg else sg)
    split
    · rename_i h
      have := nameO_bd hrow (p5 h)
      unfold RgI; omega
    · exact r6
  refine ⟨hrgT, ?_⟩
  simp only [List.nil_append, List.singleton_append]
  refine NC.mkE hf rfl ?_
  obtain ⟨hrl, ra, rfl, _⟩ := id hw
  have hbl := (List.getElem?_eq_some_iff.1 hb).1
  have g0 := gc_k (j := 0) hb hl8 h8 (v := .int .i64 sk) rfl (by omega)
  have g5 := gc_k (j := 5) hb hl8 h8 (v := .int .i64 sg) rfl (by omega)
  rw [Nat.add_zero] at g0
  refine seq_reg ?_
  simp only [go_sem, binC, g0]
  by_cases h3 : sk = 3
  · simp only [go_sem, binC, beq_t h3]
    refine wpc_cond (t := true) rfl ?_
    simp only [go_sem, binC]
    obtain ⟨hgl, hge, hgr⟩ := nameO_get hrow (x := sg) (by have := p5 h3; omega)
    obtain ⟨rblk, ro, hrv, _⟩ := gcI0 hw hgl
    simp only [Value.slice.injEq, and_true] at hrv
    subst hrv
    have hro : getCells H rblk (ro + sg.toNat) 1 = some [.int .i64 row[sg.toNat]] := gcI2 (hw.mono (agx_sub hx0)) hgl
    have hrbx : H[rb]? = some ⟨[.slice (some ⟨rblk, ro, none⟩) row.length row.length], 0, 0, false, true⟩ := hx0.get hrb (by simp)
    refine wpc_regD ?_
    simp only [go_sem, binC, gc_of hrbx, inBlk_some, g5]
    refine ⟨⟨by have := p5 h3; omega, by omega⟩, ?_⟩
    simp only [go_sem, binC, Nat.mul_one, hro, hb]
    refine ⟨⟨by omega, by omega⟩, ?_⟩
    rw [set8 (shV_len _ _ _) h8 hl8 (by omega), ← hge]
    refine ⟨Or.inl rfl, _, rfl, rfl, ?_⟩
    show H.set b ⟨setL cs (i * 8) (shV (sk, sx, (sa, sb, sc), nameO row sg) tv ev), 8, 72, true, true⟩ = _
    rw [show turnH row (sk, sx, (sa, sb, sc), sg) = (sk, sx, (sa, sb, sc), nameO row sg) by simp [turnH, h3]]
  · simp only [go_sem, binC, beq_f h3]
    refine wpc_cond (t := false) rfl ?_
    simp only [go_sem, binC]
    refine wpc_skip ⟨Or.inl rfl, _, rfl, rfl, ?_⟩
    rw [show turnH row (sk, sx, (sa, sb, sc), sg) = (sk, sx, (sa, sb, sc), sg) by simp [turnH, h3], setL_same8 (shV_len _ _ _) h8 hl8]
    rw [List.getElem?_eq_getElem hbl, Option.some.injEq] at hb
    rw [← hb, List.set_getElem_self]
theorem iTurnProg_ok {F : Nat → Option IFn} {f : Nat} (hf : F f = some c_iTurnProg) (gp : ProgOk F 24) (gr : RowOk F 42) (gpc : PCloneOk F 43) (hch : F 44 = some c_change) (hc1 : F 64 = some c_tp1) (gt : ∀ (H : Heap) (s : Int) (v : Value) (row : List Int), 0 ≤ s ∧ s ≤ 7 → rowB row 3 = true → SlR Co.int (vw 0 H) v row → QC F 63 [.int .i64 s, v] H (.int .i64 (tset row s))) : TurnPOk F f (fun _ => 3) turnLH turnH := by
  intro H n lv sv w ls l row r1 r2 hsm r3
  suffices h : ∃ v H', KC F f [.agg #[lv, sv], w] H v H' ∧ (∃ lv' sv', v = .tuple #[.agg #[lv', sv'], .bool (turnB n (fun _ => 3) ls l row)] ∧ AgX [] H H' ∧ SlR Co.p2 (vw 0 H') lv' (turnO n (fun _ => 3) turnLH turnH ls l row).1 ∧ SlR (Co.step n) (vw 0 H') sv' (turnO n (fun _ => 3) turnLH turnH ls l row).2) by
    obtain ⟨_, H', h1, lv', sv', rfl, h2⟩ := h
    exact ⟨lv', sv', H', h1, h2⟩
  have osv : one sv = true := by obtain ⟨_, a, rfl, _⟩ := r2; rfl
  obtain ⟨_, wa, rfl, _⟩ := id r3
  obtain ⟨_, la, rfl, _⟩ := id r1
  have hls0 : ls.length ≤ 1048576 := hsm.1.1
  refine KC.mk hf rfl ?_
  refine seq_reg ?_
  simp only [go_sem, binC, osv]
  refine wpc_gen fun H1 hH1 => ?_
  have hx1 : AgX [] H H1 := hH1 ▸ AgX.app [] _ _
  have hb2 : H1[H.length]? = some ⟨[.slice la ls.length ls.length, sv], 0, 0, false, true⟩ := hH1 ▸ get_new0 _ _
  have hb3 : H1[H.length + 1]? = some ⟨[.slice wa row.length row.length], 0, 0, false, true⟩ := hH1 ▸ get_new _ _ 1
  have hb4 : H1[H.length + 2]? = some ⟨[nilS, nilS], 0, 0, false, true⟩ := hH1 ▸ get_new _ _ 2
  have hln1 : H1.length = H.length + 3 := by rw [hH1]; simp
  clear hH1
  have r1' := r1.mono (agx_sub hx1)
  have r2' := r2.mono (agx_sub hx1)
  have r3' := r3.mono (agx_sub hx1)
  have hb4l := (List.getElem?_eq_some_iff.1 hb4).1
  refine seq_assoc (seq_reg ?_)
  simp only [go_sem, binC, gc_of hb2, inBlk_some, osv]
  refine op_callB (by simp only [go_sem, binC]; exact gp H1 n _ (ls, l) (prog_rd r1' r2') hsm) (fun hP => ?_) (fun hP => ?_)
  rotate_left
  · simp only [go_sem, binC]
    refine seq_cond (t := true) rfl ?_
    simp only [go_sem, binC]
    refine seq_assoc (seq_reg ?_)
    simp only [go_sem, binC, hb4]
    have hB : turnB n (fun _ => 3) ls l row = false := by simp [turnB, hP]
    have hr : turnO n (fun _ => 3) turnLH turnH ls l row = ([], []) := if_neg (by rw [hB]; simp)
    refine seq_ret ⟨Or.inr rfl, .tuple #[.agg #[nilS, nilS], .bool false], ?_, nilS, nilS, by rw [hB], hx1.setN (by omega) _, ?_, ?_⟩
    · simp [resV, resL, res1, putE_get, notT, ptr, gc_set hb4l, inBlk_some, valOf]
    all_goals (rw [hr]; exact ⟨by simp, none, rfl, .inl rfl⟩)
  have hls : ls.length ≤ 4 := by
    have := hP
    simp only [progB, Bool.and_eq_true, decide_eq_true_eq] at this; have := this.1.1.1; omega
  simp only [go_sem, binC, gc_of hb3, inBlk_some]
  refine op_callB (by simp only [go_sem, binC]; exact gr H1 _ row 3 (by omega) r3') (fun hR => ?_) (fun hR => ?_)
  rotate_left
  · simp only [go_sem, binC]
    refine seq_cond (t := true) rfl ?_
    simp only [go_sem, binC]
    refine seq_assoc (seq_reg ?_)
    simp only [go_sem, binC, hb4]
    have hB : turnB n (fun _ => 3) ls l row = false := by simp [turnB, hR]
    have hr : turnO n (fun _ => 3) turnLH turnH ls l row = ([], []) := if_neg (by rw [hB]; simp)
    refine seq_ret ⟨Or.inr rfl, .tuple #[.agg #[nilS, nilS], .bool false], ?_, nilS, nilS, by rw [hB], hx1.setN (by omega) _, ?_, ?_⟩
    · simp [resV, resL, res1, putE_get, notT, ptr, gc_set hb4l, inBlk_some, valOf]
    all_goals (rw [hr]; exact ⟨by simp, none, rfl, .inl rfl⟩)
  have hB : turnB n (fun _ => 3) ls l row = true := by simp [turnB, hP, hR]
  have hO : turnO n (fun _ => 3) turnLH turnH ls l row = (turnLH row ls, l.map (mapT (turnH row) n)) := if_pos hB
  obtain ⟨hr1, hr2, hr3⟩ := rowB_iff.1 hR
  simp only [go_sem, binC]
  refine seq_cond (t := false) rfl ?_
  simp only [go_sem, binC]
  refine seq_skip (seq_reg ?_)
  simp only [go_sem, binC, gc_of hb2, inBlk_some, osv]
  obtain ⟨lv2, sv2, B, H2, k2, hx2, hL2, o2⟩ := gpc H1 n _ sv ls l r1' r2' hsm
  obtain ⟨la2, hlv2⟩ := hL2.shape
  obtain ⟨_, sa2, hsv2⟩ := id o2.len
  refine op_callK (by simp only [go_sem, binC]; exact k2) ?_
  simp only [go_sem, binC]
  rw [hlv2, hsv2]
  simp only [go_sem, binC, get_new0]
  refine ⟨by have := hx1.1; have := hx2.1; omega, ?_⟩
  rw [← hlv2, ← hsv2]
  refine wpc_genH fun H3 hH3 => ?_
  have hx3 : AgX [] H2 H3 := hH3 ▸ AgX.app [] _ _
  have hb6 : H3[H2.length]? = some ⟨[lv2, sv2], 0, 0, false, true⟩ := hH3 ▸ get_new0 _ _
  clear hH3
  have hx23 := hx2.tr hx3
  have hL3 := hL2.keep (Nat.le_refl _) hx3 (fun b _ _ => by simp)
  have o3 : OwnT H1.length H3 n sv2 l B := o2.keep (Nat.le_refl _) fun b hb => hx3.2 b (o2.ge b hb).2.1 (by simp)
  have hl2 := hx2.1
  have hl3 := hx3.1
  have hb6l := (List.getElem?_eq_some_iff.1 hb6).1
  have hb23 := hx23.get hb2 (by simp)
  have hb33 := hx23.get hb3 (by simp)
  have hb43 := hx23.get hb4 (by simp)
  have hbB : ∀ b ∈ blkOf lv2, b ∉ B := fun b h1 h2 => by
    obtain ⟨_, _, q⟩ := hL3.blk h1
    obtain ⟨_, _, cs, q2⟩ := o3.ge b h2
    rw [q] at q2
    simp at q2
  clear k2
  have hlab := List.all_eq_true.1 (progB_labs hP)
  refine seq_assoc (seq_reg ?_)
  simp only [go_sem, binC, gc_of hb6, inBlk_some]
  rw [hlv2]
  simp only [go_sem, binC]
  refine seq_block (wpc_loop ?_)
  suffices h : ∀ (k i : Nat) (e : Env) (Hc : Heap) (cur : List (Int × Int)), i + k = ls.length → AgX (blkOf lv2) H3 Hc → cur.length = ls.length → LabV H1.length Hc lv2 cur → (∀ p ∈ cur, RgI p.1 ∧ RgI p.2) → (∀ j (h' : j < ls.length), cur[j]? = some (if j < i then (tset row ls[j].1, tset row ls[j].2) else ls[j])) → e 2 = ptr H.length 0 → e 3 = ptr (H.length + 1) 0 → e 4 = ptr (H.length + 2) 0 → e 6 = ptr H2.length 0 → e 21 = .slice la2 ls.length ls.length → e 22 = .int .i64 ls.length → e 23 = .int .i64 i → W F H.length _ e Hc _ from
    h ls.length 0 _ H3 ls (by omega) (AgX.refl _ _) rfl hL3 (p2_rg r1) (fun j h' => by rw [if_neg (by omega), List.getElem?_eq_getElem h']) (by simp only [go_sem, binC]) (by simp only [go_sem, binC]) (by simp only [go_sem, binC]) (by simp only [go_sem, binC]) (by (simp only [go_sem, binC]) <;> rfl) (by (simp only [go_sem, binC]) <;> rfl) (by (simp only [go_sem, binC]) <;> rfl)
  intro k
  induction k with
  | zero =>
    intro i e Hc cur hi hxc hcl hLc hrg hcur e2 e3 e4 e6 e21 e22 e23
    refine lp_step ?_
    refine seq_reg ?_
    simp only [go_sem, binC, e22, e23]
    refine seq_cond (t := false) (by simp only [go_sem, binC]; rw [decide_eq_false (by omega)]) ?_
    simp only [go_sem, binC]
    refine seq_exit ?_
    simp only [go_sem, binC, thenX_e, out_e, thenX_n]
    have hb6c := hxc.get hb6 (fun h => by have := (hL3.blk h).2.2; rw [hb6] at this; simp at this)
    have hb3c := hxc.get hb33 (fun h => by have := (hL3.blk h).1; omega)
    have hb4c := hxc.get hb43 (fun h => by have := (hL3.blk h).1; omega)
    have hx1c : AgX [] H1 Hc := hx23.trans hxc (fun _ h _ => h) (fun b h1 h2 => by have := (hL3.blk h1).1; omega)
    have hcT : cur = turnLH row ls := List.ext_getElem (by rw [turnLH_len, hcl]) fun j h1 h2 => by
      have hj : j < ls.length := by omega
      have := hcur j hj
      rw [List.getElem?_eq_getElem h1, Option.some.injEq, if_pos (by omega)] at this
      rw [this]
      simp [turnLH]
    have oc : OwnT H1.length Hc n sv2 l B := o3.keep (Nat.le_refl _) fun b hb => hxc.2 b (o3.ge b hb).2.1 (fun h => hbB b h hb)
    have hclo : CloOk F 64 #[] #[ptr (H.length + 1) 0] H1 (okS ls.length) (turnH row) := tp1_ok hc1 r3' hb3 hR
    obtain ⟨H5, k5, o5, hx5⟩ := change_all hch hclo n Hc sv2 l B H.length oc hx1c (by omega) (progB_okS hP)
    have osv2 := o2.one
    refine seq_reg ?_
    simp only [go_sem, binC, e6, e3, gc_of hb6c, inBlk_some, osv2]
    refine ⟨rfl, ?_⟩
    refine op_callN (by simp only [go_sem, binC]; exact k5) ?_
    have hBb : ∀ b, (∃ cs, Hc[b]? = some ⟨cs, 0, 0, false, true⟩) → b ∉ B := fun b h1 h2 => by
      obtain ⟨cs, h1⟩ := h1
      obtain ⟨_, _, cs2, q2⟩ := oc.ge b h2
      rw [h1] at q2
      simp at q2
    have hb65 := hx5.get hb6c (hBb _ ⟨_, hb6c⟩)
    have hb45 := hx5.get hb4c (hBb _ ⟨_, hb4c⟩)
    have hb45l := (List.getElem?_eq_some_iff.1 hb45).1
    simp only [go_sem, binC]
    refine seq_reg ?_
    rw [hlv2, hsv2] at hb65
    simp only [go_sem, binC, e6, e4, gc_of hb65, inBlk_some, hb45]
    have hx15 : AgX [] H1 H5 := hx1c.trans hx5 (fun _ h _ => h) (fun b h1 h2 => by have := (oc.ge b h1).1; omega)
    have hxf : AgX [H.length + 2] H5 (H5.set (H.length + 2) ⟨[.slice la2 ls.length ls.length, .slice sa2 l.length l.length], 0, 0, false, true⟩) := AgX.set _ _ _
    have hL5 := (hLc.keep (Nat.le_refl _) hx5 (fun b h1 h2 h3 => by
      obtain ⟨_, _, cs2, q2⟩ := oc.ge b h3
      rw [h2] at q2
      simp at q2)).keep (Nat.le_refl _) hxf (fun b h1 _ h2 => by simp only [List.mem_singleton] at h2; omega)
    have o6 := o5.keep (lo' := H1.length) (H' := H5.set (H.length + 2) ⟨[.slice la2 ls.length ls.length, .slice sa2 l.length l.length], 0, 0, false, true⟩) (Nat.le_refl _) fun b hb => hxf.2 b (o5.ge b hb).2.1 (fun h => by simp only [List.mem_singleton] at h; have := (o5.ge b hb).1; omega)
    refine wpc_ret ⟨Or.inr rfl, .tuple #[.agg #[lv2, sv2], .bool true], ?_, lv2, sv2, by rw [hB], (hx1.tr hx15).setN (by omega) _, ?_, ?_⟩
    · rw [hlv2, hsv2]
      simp [resV, resL, res1, putE_get, notT, ptr, gc_set hb45l, inBlk_some, valOf, e4]
    · rw [hO]
      show SlR Co.p2 _ _ (turnLH row ls)
      rw [← hcT]
      exact hL5.sl hrg (by omega)
    · rw [hO]
      exact (o6.sl.mono (vws_vw _ _)).mono (vw_grow (Nat.zero_le _) fun _ _ _ => rfl)
  | succ k ih =>
    intro i e Hc cur hi hxc hcl hLc hrg hcur e2 e3 e4 e6 e21 e22 e23
    have hil : i < ls.length := by omega
    have hw1 : IntKind.i64.wrap ((i : Int) + 1) = ((i + 1 : Nat) : Int) := by rw [wrap_id (by omega) (by omega)]; omega
    have hx1c : AgX [] H1 Hc := hx23.trans hxc (fun _ h _ => h) (fun b h1 h2 => by have := (hL3.blk h1).1; omega)
    have hb6c := hxc.get hb6 (fun h => by have := (hL3.blk h).2.2; rw [hb6] at this; simp at this)
    have hb3c := hxc.get hb33 (fun h => by have := (hL3.blk h).1; omega)
    have hne : cur ≠ [] := fun h => by rw [h] at hcl; simp at hcl; omega
    obtain ⟨bl, hbl0, hlv, _, hbl⟩ := hLc.resolve_left (fun h => hne h.2)
    have hbll := (List.getElem?_eq_some_iff.1 hbl).1
    have hci := hcur i hil
    rw [if_neg (by omega)] at hci
    have hcil : i < cur.length := by omega
    obtain ⟨pb, po, hpv, hpg⟩ := gcP (blk_slP hbl hrg (by omega)) hcil
    rw [← hlv, hlv2, hcl] at hpv
    simp only [Value.slice.injEq, and_true] at hpv
    obtain rfl := hpv
    rw [List.getElem?_eq_getElem hcil, Option.some.injEq] at hci
    rw [hci] at hpg
    have hlb := labB_iff.1 (hlab ls[i] (List.getElem_mem hil))
    have hlv' : lv2 = sli bl 0 ls.length := by rw [← hcl]; exact hlv
    rw [hlv2] at hlv'
    simp only [sli, Value.slice.injEq, Option.some.injEq, Addr.mk.injEq, and_true] at hlv'
    obtain ⟨rfl, rfl⟩ := hlv'
    simp only [Nat.zero_add] at hpg
    refine lp_step ?_
    refine seq_reg ?_
    simp only [go_sem, binC, e22, e23]
    refine seq_cond (t := true) (by simp only [go_sem, binC]; rw [decide_eq_true (by omega)]) ?_
    simp only [go_sem, binC]
    refine seq_skip (seq_block (seq_reg ?_))
    simp only [go_sem, binC, e21, e23]
    refine ⟨⟨by omega, by omega⟩, ?_⟩
    simp only [go_sem, binC, hpg, Int.toNat_natCast]
    refine ⟨by have := hx1.1; have := hx1c.1; omega, ?_⟩
    refine wpc_genH fun H5 hH5 => ?_
    have hx5 : AgX [] Hc H5 := hH5 ▸ AgX.app [] _ _
    have hb8 : H5[Hc.length]? = some ⟨[.int .i64 ls[i].1, .int .i64 ls[i].2], 0, 0, false, true⟩ := hH5 ▸ get_new0 _ _
    clear hH5
    have hb65 := hx5.get hb6c (by simp)
    have hb35 := hx5.get hb3c (by simp)
    have hbl5 := hx5.get hbl (by simp)
    have hfl := flat_len (fl := fp) (w := 2) (fun _ => rfl) cur
    rw [hlv2] at hb65
    have r35 := r3'.mono (agx_sub (hx1c.tr hx5))
    refine wpc_regD ?_
    simp only [go_sem, binC, e6, e3, gc_of hb65, gc_of hb35, gc_of hb8, inBlk_some]
    refine op_callQ (by simp only [go_sem, binC]; exact gt H5 _ _ row hlb.1 hR r35) ?_
    simp only [go_sem, binC, e3, gc_of hb35, gc_of hb8, inBlk_some]
    refine op_callQ (by simp only [go_sem, binC]; exact gt H5 _ _ row hlb.2 hR r35) ?_
    simp only [go_sem, binC, e23]
    refine ⟨⟨by omega, by omega⟩, ?_⟩
    simp only [go_sem, binC, Int.toNat_natCast, hbl5]
    refine ⟨⟨by omega, by omega⟩, ?_⟩
    simp only [go_sem, binC, out_n, thenX_n, Nat.zero_add]
    rw [show ((cur.flatMap fp).set (i * 2) (.int .i64 (tset row ls[i].1))).set (i * 2 + 1) (.int .i64 (tset row ls[i].2)) = (cur.set i (tset row ls[i].1, tset row ls[i].2)).flatMap fp from flat_set _ _ (tset row ls[i].1, tset row ls[i].2) hcil]
    have hbl5l := (List.getElem?_eq_some_iff.1 hbl5).1
    generalize hT : ((tset row ls[i].1, tset row ls[i].2) : Int × Int) = tv
    have hxs : AgX [pb] H5 (H5.set pb ⟨(cur.set i tv).flatMap fp, 2, 63, true, true⟩) := AgX.set _ _ _
    have hgs : (H5.set pb ⟨(cur.set i tv).flatMap fp, 2, 63, true, true⟩)[pb]? = some ⟨(cur.set i tv).flatMap fp, 2, 63, true, true⟩ := List.getElem?_set_self hbl5l
    refine wpc_reg ?_
    simp only [go_sem, binC, e23, hw1]
    simp only [go_sem, binC, thenX_n]
    refine ih (i + 1) _ _ (cur.set i tv) (by omega) ((hxc.trans hx5 (fun _ h _ => h) (fun _ h _ => by simp at h)).trans hxs (fun _ h _ => h) (fun b' h1 _ => by simp only [List.mem_singleton] at h1; subst h1; rw [hlv2]; simp [blkOf])) (by rw [List.length_set]; exact hcl) (.inr ⟨pb, hbl0, by rw [List.length_set]; exact hlv, fun h => hne (List.eq_nil_of_length_eq_zero (by simpa using congrArg List.length h)), hgs⟩) (fun p hp => ?_) (fun j hj => ?_) (by simp only [go_sem, binC, e2]) (by simp only [go_sem, binC, e3]) (by simp only [go_sem, binC, e4]) (by simp only [go_sem, binC, e6]) (by simp only [go_sem, binC, e21]) (by simp only [go_sem, binC, e22]) (by simp only [go_sem, binC])
    · rcases List.mem_or_eq_of_mem_set hp with h | h
      · exact hrg p h
      · have a1 := tset_bd hR hlb.1
        have a2 := tset_bd hR hlb.2
        rw [h, ← hT]
        exact ⟨by show RgI (tset row ls[i].1); unfold RgI; omega, by show RgI (tset row ls[i].2); unfold RgI; omega⟩
    · rw [List.getElem?_set]
      by_cases hji : i = j
      · subst hji
        rw [if_pos rfl, if_pos hcil, if_pos (by omega), ← hT]
      · rw [if_neg hji, hcur j hj]
        by_cases hlt : j < i
        · rw [if_pos hlt, if_pos (by omega)]
        · rw [if_neg hlt, if_neg (by omega)]
end Go.Proofs.YtemnemmnfnpnoaaI
end
section
/- Programs whose hosts are named otherwise (the reference's). -/
set_option linter.unusedVariables false
set_option linter.unusedSimpArgs false
namespace Go.Proofs.YtemnemmnfnpnoaaI
open Go Go.RowKit
theorem sTurnProg_ok {F : Nat → Option IFn} {f : Nat} (hf : F f = some c_sTurnProg) (gp : ProgOk F 29) (gr : RowOk F 38) (gv : F 61 = some c_sHosts) (gt : TSetOk F 62) : TurnPOk F f (fun _ => 3) turnLH turnH := by
  intro H n lv sv w ls l row r1 r2 hsm r3
  suffices h : ∃ v H', KC F f [.agg #[lv, sv], w] H v H' ∧ (∃ lv' sv', v = .tuple #[.agg #[lv', sv'], .bool (turnB n (fun _ => 3) ls l row)] ∧ AgX [] H H' ∧ SlR Co.p2 (vw 0 H') lv' (turnO n (fun _ => 3) turnLH turnH ls l row).1 ∧ SlR (Co.step n) (vw 0 H') sv' (turnO n (fun _ => 3) turnLH turnH ls l row).2) by
    obtain ⟨_, H', h1, lv', sv', rfl, h2⟩ := h
    exact ⟨lv', sv', H', h1, h2⟩
  have osv : one sv = true := by obtain ⟨_, a, rfl, _⟩ := r2; rfl
  obtain ⟨_, la, rfl, _⟩ := id r1
  obtain ⟨_, wa, rfl, _⟩ := id r3
  have hls0 : ls.length ≤ 1048576 := hsm.1.1
  refine KC.mk hf rfl ?_
  refine seq_reg ?_
  simp only [go_sem, binC, osv]
  refine wpc_gen fun H1 hH1 => ?_
  have hx1 : AgX [] H H1 := hH1 ▸ AgX.app [] _ _
  have hb2 : H1[H.length]? = some ⟨[.slice la ls.length ls.length, sv], 0, 0, false, true⟩ := hH1 ▸ get_new0 _ _
  have hb4 : H1[H.length + 1]? = some ⟨[nilS, nilS], 0, 0, false, true⟩ := hH1 ▸ get_new _ _ 1
  have hln1 : H1.length = H.length + 2 := by rw [hH1]; simp
  clear hH1
  have r1' := r1.mono (agx_sub hx1)
  have r2' := r2.mono (agx_sub hx1)
  have r3' := r3.mono (agx_sub hx1)
  have hb4l := (List.getElem?_eq_some_iff.1 hb4).1
  refine seq_assoc (seq_reg ?_)
  simp only [go_sem, binC, gc_of hb2, inBlk_some, osv]
  refine op_callB (by simp only [go_sem, binC]; exact gp H1 n _ (ls, l) (prog_rd r1' r2') hsm) (fun hP => ?_) (fun hP => ?_)
  rotate_left
  · simp only [go_sem, binC]
    refine seq_cond (t := true) rfl ?_
    simp only [go_sem, binC]
    refine seq_assoc (seq_reg ?_)
    simp only [go_sem, binC, hb4]
    have hB : turnB n (fun _ => 3) ls l row = false := by simp [turnB, hP]
    have hr : turnO n (fun _ => 3) turnLH turnH ls l row = ([], []) := if_neg (by rw [hB]; simp)
    refine seq_ret ⟨Or.inr rfl, .tuple #[.agg #[nilS, nilS], .bool false], ?_, nilS, nilS, by rw [hB], hx1.setN (by omega) _, ?_, ?_⟩
    · simp [resV, resL, res1, putE_get, notT, ptr, gc_set hb4l, inBlk_some, valOf]
    all_goals (rw [hr]; exact ⟨by simp, none, rfl, .inl rfl⟩)
  have hls : ls.length ≤ 4 := by
    have := hP
    simp only [progB, Bool.and_eq_true, decide_eq_true_eq] at this; have := this.1.1.1; omega
  simp only [go_sem, binC, gc_of hb2, inBlk_some]
  refine op_callB (by simp only [go_sem, binC]; exact gr H1 _ row 3 (by omega) r3') (fun hR => ?_) (fun hR => ?_)
  rotate_left
  · simp only [go_sem, binC]
    refine seq_cond (t := true) rfl ?_
    simp only [go_sem, binC]
    refine seq_assoc (seq_reg ?_)
    simp only [go_sem, binC, hb4]
    have hB : turnB n (fun _ => 3) ls l row = false := by simp [turnB, hR]
    have hr : turnO n (fun _ => 3) turnLH turnH ls l row = ([], []) := if_neg (by rw [hB]; simp)
    refine seq_ret ⟨Or.inr rfl, .tuple #[.agg #[nilS, nilS], .bool false], ?_, nilS, nilS, by rw [hB], hx1.setN (by omega) _, ?_, ?_⟩
    · simp [resV, resL, res1, putE_get, notT, ptr, gc_set hb4l, inBlk_some, valOf]
    all_goals (rw [hr]; exact ⟨by simp, none, rfl, .inl rfl⟩)
  have hB : turnB n (fun _ => 3) ls l row = true := by simp [turnB, hP, hR]
  have hO : turnO n (fun _ => 3) turnLH turnH ls l row = (turnLH row ls, l.map (mapT (turnH row) n)) := if_pos hB
  obtain ⟨hr1, hr2, hr3⟩ := rowB_iff.1 hR
  simp only [go_sem, binC]
  refine seq_cond (t := false) rfl ?_
  simp only [go_sem, binC]
  refine seq_skip (seq_reg ?_)
  simp only [go_sem, binC]
  generalize hHa : H1 ++ [(⟨[], 2, 63, true, true⟩ : Blk)] = Ha
  have hxa : AgX [] H1 Ha := hHa ▸ AgX.app [] _ _
  have hOa : OwnL Co.p2 2 63 H1.length [] Ha H1.length true [] := hHa ▸ OwnG.nil (Nat.le_refl _)
  clear hHa
  have hb2a := hxa.get hb2 (by simp)
  simp only [go_sem, binC, gc_of hb2a, inBlk_some, osv]
  obtain ⟨bv, sov, H2, k2, hx2, o2⟩ := sHosts_all gv hR (by omega) n Ha sv _ l (r2'.mono (agx_sub hxa)) hsm.2 (r3'.mono (agx_sub hxa)) (progB_okS hP)
  refine op_callK (by simp only [go_sem, binC]; exact k2) ?_
  simp only [go_sem, binC, get_new0]
  refine ⟨by have := hx1.1; have := hxa.1; have := hx2.1; omega, ?_⟩
  refine wpc_genH fun H3 hH3 => ?_
  have hx3 : AgX [] H2 H3 := hH3 ▸ AgX.app [] _ _
  have hb6 : H3[H2.length]? = some ⟨[sli H1.length 0 0, sli bv 0 l.length], 0, 0, false, true⟩ := hH3 ▸ get_new0 _ _
  have hl23 : H3.length = H2.length + 1 := by rw [hH3, List.length_append]; rfl
  clear hH3 k2
  have hxa3 := hx2.tr hx3
  have hx13 := hxa.tr hxa3
  have hl2 := hx2.1
  have hl3 := hx3.1
  have hla := hxa.1
  have hal := (List.getElem?_eq_some_iff.1 hOa.2.2.choose_spec.1).1
  have hO3 : OwnL Co.p2 2 63 H1.length [H2.length] H3 H1.length true [] := hOa.sub hxa3 (by simp) fun b' h1 h2 h3 _ => ⟨by simp, by simp; omega⟩
  have s2 : SlR (Co.step n) (vwl Ha.length [] H2) (sli bv 0 l.length) (l.map (mapT (turnH row) n)) := by
    have := o2.slR (step_w n) (by simp)
    rwa [List.length_map] at this
  have hb43 := hx13.get hb4 (by simp)
  have hb23 := hx13.get hb2 (by simp)
  have hlab := List.all_eq_true.1 (progB_labs hP)
  have hlb0 : ∀ p ∈ ls, labB p = true := hlab
  refine seq_assoc (seq_reg ?_)
  simp only [go_sem, binC]
  refine seq_block (wpc_loop ?_)
  suffices h : ∀ (k i : Nat) (e : Env) (Hc : Heap) (b : Nat) (so : Bool), i + k = ls.length → (H2.length ≠ b ∧ (b = H1.length ∨ H2.length < b)) → AgX [b, H1.length, H2.length] H3 Hc → (b = H1.length ∨ H3.length ≤ b) → Hc[H2.length]? = some ⟨[sli b 0 i, sli bv 0 l.length], 0, 0, false, true⟩ → OwnL Co.p2 2 63 H1.length [H2.length] Hc b so (turnLH row (ls.take i)) → e 1 = .slice wa row.length row.length → e 2 = ptr H.length 0 → e 4 = ptr (H.length + 1) 0 → e 6 = ptr H2.length 0 → e 7 = .int .i64 i → W F H.length _ e Hc _ from
    h ls.length 0 _ H3 H1.length true (by omega) ⟨by omega, .inl rfl⟩ (AgX.refl _ _) (.inl rfl) hb6 hO3 (by simp only [go_sem, binC]) (by simp only [go_sem, binC]) (by simp only [go_sem, binC]) (by simp only [go_sem, binC]) (by (simp only [go_sem, binC]) <;> rfl)
  intro k
  induction k with
  | zero =>
    intro i e Hc b so hi hbb hxc hb0 hb6c hOc e1 e2 e4 e6 e7
    have hb4c := hxc.get hb43 (by simp; omega)
    have hb4cl := (List.getElem?_eq_some_iff.1 hb4c).1
    refine lp_step ?_
    refine seq_assoc (seq_reg ?_)
    have hb2c := hxc.get hb23 (by simp; omega)
    simp only [go_sem, binC, e2, e7, gc_of hb2c, inBlk_some]
    refine seq_cond (t := false) (by simp only [go_sem, binC]; rw [decide_eq_false (by omega)]) ?_
    simp only [go_sem, binC]
    refine seq_exit ?_
    simp only [go_sem, binC, thenX_e, out_e, thenX_n]
    obtain rfl : i = ls.length := by omega
    rw [List.take_of_length_le (Nat.le_refl _)] at hOc
    refine seq_reg ?_
    simp only [go_sem, binC, e6, e4, gc_of hb6c, inBlk_some, hb4c]
    have hxf : AgX [H.length + 1] Hc (Hc.set (H.length + 1) ⟨[sli b 0 ls.length, sli bv 0 l.length], 0, 0, false, true⟩) := AgX.set _ _ _
    have hxH : AgX [H1.length, H2.length] H2 Hc := hx3.trans hxc (fun _ h _ => by cases h) (fun b' h1 h2 => by
      simp only [List.mem_cons, List.not_mem_nil, or_false] at h1 ⊢
      rcases h1 with rfl | h | h
      · rcases hb0 with h | h
        · exact .inl h
        · omega
      · exact .inl h
      · exact .inr h)
    have hx1c : AgX [] H1 Hc := (hxa.tr hx2).trans hxH (fun _ h _ => h) (fun b' h1 h2 => by simp only [List.mem_cons, List.not_mem_nil, or_false] at h1; omega)
    refine wpc_ret ⟨Or.inr rfl, .tuple #[.agg #[sli b 0 ls.length, sli bv 0 l.length], .bool true], ?_, _, _, by rw [hB], (hx1.tr hx1c).setN (by omega) _, ?_, ?_⟩
    · simp [resV, resL, res1, putE_get, notT, ptr, gc_set hb4cl, inBlk_some, valOf, e4, sli]
    · rw [hO]
      show SlR Co.p2 _ _ (turnLH row ls)
      have hq := hOc.sub (xs' := [H2.length]) hxf (by simp; rcases hb0 with h | h <;> omega) fun b' h1 h2 h3 h4 => ⟨by simp; omega, h4⟩
      have := hq.slR rfl (by simpa using fun h => hbb.1 h.symm)
      rw [turnLH_len] at this
      exact this.mono (vwl0 _ _ _)
    · rw [hO]
      refine s2.mono ?_
      exact ((vwl_sub (hxH.trans hxf (fun b' h _ => List.mem_cons_of_mem _ h) (fun b' h _ => by simp only [List.mem_singleton] at h; rw [h]; exact List.mem_cons_self) : AgX [H.length + 1, H1.length, H2.length] H2 _) (Nat.le_refl _) (xs' := []) (fun b' h0 h1 h2 => ⟨by simp; omega, by simp⟩))).trans (vwl0 _ _ _)
  | succ k ih =>
    intro i e Hc b so hi hbb hxc hb0 hb6c hOc e1 e2 e4 e6 e7
    have hil : i < ls.length := by omega
    have hw1 : IntKind.i64.wrap ((i : Int) + 1) = ((i + 1 : Nat) : Int) := by rw [wrap_id (by omega) (by omega)]; omega
    have hb2c := hxc.get hb23 (by simp; omega)
    have hxH : AgX [H1.length, H2.length] H2 Hc := hx3.trans hxc (fun _ h _ => by cases h) (fun b' h1 h2 => by
      simp only [List.mem_cons, List.not_mem_nil, or_false] at h1 ⊢
      rcases h1 with rfl | h | h
      · rcases hb0 with h | h
        · exact .inl h
        · omega
      · exact .inl h
      · exact .inr h)
    have hx1c : AgX [] H1 Hc := (hxa.tr hx2).trans hxH (fun _ h _ => h) (fun b' h1 h2 => by simp only [List.mem_cons, List.not_mem_nil, or_false] at h1; omega)
    obtain ⟨pb, po, hpv, hpg⟩ := gcP (r1'.mono (agx_sub hx1c)) hil
    simp only [Value.slice.injEq, and_true] at hpv
    subst hpv
    have hlb := labB_iff.1 (hlab ls[i] (List.getElem_mem hil))
    have r3c := r3'.mono (agx_sub hx1c)
    have gp0 : getCells Hc pb (po + i * 2) 1 = some [.int .i64 ls[i].1] := gc_part (off := 0) (k := 1) hpg (by omega)
    have gp1 : getCells Hc pb (po + i * 2 + 1) 1 = some [.int .i64 ls[i].2] := gc_part (off := 1) (k := 1) hpg (by omega)
    have htO : ∀ s : Int, 0 ≤ s ∧ s ≤ 7 → tsetO row s = tset row s := fun s hs => by
      unfold tsetO
      rw [inB_iff.2 hs, hR]
      rfl
    have hlc := hxc.1
    have hbcl := (List.getElem?_eq_some_iff.1 hb6c).1
    have hx1cl := hx1c.1
    refine lp_step ?_
    refine seq_assoc (seq_reg ?_)
    simp only [go_sem, binC, e2, e7, gc_of hb2c, inBlk_some]
    refine seq_cond (t := true) (by simp only [go_sem, binC]; rw [decide_eq_true (by omega)]) ?_
    simp only [go_sem, binC]
    refine seq_skip (seq_block (wpc_regD ?_))
    simp only [go_sem, binC, e1, e2, e6, e7, gc_of hb6c, gc_of hb2c, inBlk_some]
    refine ⟨⟨by omega, by omega⟩, ?_⟩
    simp only [go_sem, binC, Int.toNat_natCast, gp0, e1]
    refine op_callQ (by simp only [go_sem, binC, e1]; exact gt Hc _ _ row r3c) ?_
    simp only [go_sem, binC, e1, e2, e7, gc_of hb2c, inBlk_some]
    refine ⟨⟨by omega, by omega⟩, ?_⟩
    simp only [go_sem, binC, Int.toNat_natCast, gp1, e1]
    refine op_callQ (by simp only [go_sem, binC, e1]; exact gt Hc _ _ row r3c) ?_
    rw [htO _ hlb.1, htO _ hlb.2]
    have a1 := tset_bd hR hlb.1
    have a2 := tset_bd hR hlb.2
    simp only [go_sem, binC, e6]
    have hlt : (turnLH row (ls.take i)).length = i := by rw [turnLH_len, List.length_take]; omega
    refine op_app_own (A := Co.p2) (lo := H1.length) (a := (tset row ls[i].1, tset row ls[i].2)) hOc (by simp only [go_sem, binC, hlt]) (by (simp only [go_sem, binC]) <;> rfl) (by omega) rfl ⟨[.int .i64 (tset row ls[i].1)], [.int .i64 (tset row ls[i].2)], rfl, ⟨rfl, by omega, by omega⟩, ⟨rfl, by omega, by omega⟩⟩ (by omega) (by omega) (by simp; omega) fun H4 hx4 hO4 => ?_
    have hb64 := hx4.get hb6c (by simpa using hbb.1)
    have hx4l := hx4.1
    simp only [go_sem, binC, e6, hb64]
    refine ⟨by omega, ?_⟩
    simp only [go_sem, binC, out_n, thenX_n]
    have hb64l := (List.getElem?_eq_some_iff.1 hb64).1
    have htk : turnLH row (ls.take i) ++ [(tset row ls[i].1, tset row ls[i].2)] = turnLH row (ls.take (i + 1)) := by
      unfold turnLH
      rw [List.take_add_one, List.getElem?_eq_getElem hil, List.map_append]
      rfl
    rw [htk] at hO4
    rw [hlt]
    have hxs : AgX [H2.length] H4 (H4.set H2.length ⟨[sli (Hc.length + 1) 0 (i + 1), sli bv 0 l.length], 0, 0, false, true⟩) := AgX.set _ _ _
    have hO5 := hO4.sub (xs' := [H2.length]) hxs (by simp; omega) fun b' h1 h2 h3 h4 => ⟨by simpa using h4, h4⟩
    refine wpc_reg ?_
    simp only [go_sem, binC, e7, hw1]
    simp only [go_sem, binC, thenX_n]
    refine ih (i + 1) _ _ (Hc.length + 1) _ (by omega) ⟨by omega, .inr (by omega)⟩ ?_ (.inr (by omega)) (List.getElem?_set_self hb64l) hO5 (by simp only [go_sem, binC, e1]) (by simp only [go_sem, binC, e2]) (by simp only [go_sem, binC, e4]) (by simp only [go_sem, binC, e6]) (by simp only [go_sem, binC])
    refine (hxc.trans hx4 (zs := [Hc.length + 1, H1.length, H2.length]) (fun b' h1 h2 => ?_) (fun b' h1 h2 => ?_)).trans hxs (fun _ h _ => h) (fun b' h _ => by simp only [List.mem_singleton] at h; rw [h]; simp)
    · simp only [List.mem_cons, List.not_mem_nil, or_false] at h1 ⊢
      rcases h1 with rfl | h | h
      · rcases hb0 with h | h
        · exact .inr (.inl h)
        · omega
      · exact .inr (.inl h)
      · exact .inr (.inr h)
    · simp only [List.mem_cons, List.not_mem_nil, or_false] at h1 ⊢
      subst h1
      rcases hb0 with h | h
      · exact .inr (.inl h)
      · omega
end Go.Proofs.YtemnemmnfnpnoaaI
end
section
/- The laws FnTurnProg and FnTurnSame on the ideal machine. -/
set_option linter.unusedVariables false
set_option linter.unusedSimpArgs false
namespace Go.Proofs.YtemnemmnfnpnoaaI
open Go Go.RowKit
end Go.Proofs.YtemnemmnfnpnoaaI
end
section
/- The law FnTurnRun on the ideal machine. -/
set_option linter.unusedVariables false
set_option linter.unusedSimpArgs false
namespace Go.Proofs.YtemnemmnfnpnoaaI
open Go Go.RowKit
def c_lawTR : IFn := ⟨2, 126, [.t 4],
 .seq (.reg none [
    ⟨(some 4), none, .mov (.c (.bool false))⟩])
 (.seq (.seq (.reg none [
     ⟨(some 18), none, .mov (.t 0)⟩,
     ⟨(some 19), none, .len (.t 18)⟩,
     ⟨(some 20), none, .bin .gtr (.t 19) (.c (.int .i64 1048576))⟩,
     ⟨(some 21), none, .mov (.t 20)⟩,
     ⟨(some 22), (some (21, false)), .mov (.t 1)⟩,
     ⟨(some 23), (some (21, false)), .len (.t 22)⟩,
     ⟨(some 24), (some (21, false)), .bin .gtr (.t 23) (.c (.int .i64 1048576))⟩,
     ⟨(some 25), none, .pick (.t 21) (.c (.bool true)) (.t 24)⟩])
  (.cond (.t 25) (.seq (.reg none [
      ⟨(some 4), none, .mov (.c (.bool true))⟩])
   (.ret)) (.skip)))
 (.seq (.reg none [
    ⟨(some 27), none, .mov (.t 0)⟩,
    ⟨(some 28), none, .call .k (.f 27) [(.t 27)]⟩,
    ⟨(some 26), none, .mov (.t 28)⟩,
    ⟨(some 29), none, .ext (.t 26) 0⟩,
    ⟨(some 30), none, .ext (.t 26) 1⟩,
    ⟨(some 5), none, .new [(.slice none 0 0), (.slice none 0 0)]⟩,
    ⟨none, none, .store 2 (.t 5) (.t 29)⟩,
    ⟨(some 6), none, .mov (.t 30)⟩])
 (.seq (.reg none [
    ⟨(some 32), none, .load true 2 (.t 5)⟩,
    ⟨(some 33), none, .mov (.t 6)⟩,
    ⟨(some 34), none, .call .k (.f 25) [(.t 32), (.t 33)]⟩,
    ⟨(some 31), none, .mov (.t 34)⟩,
    ⟨(some 35), none, .ext (.t 31) 0⟩,
    ⟨(some 36), none, .ext (.t 31) 1⟩,
    ⟨(some 7), none, .new [(.slice none 0 0), (.slice none 0 0)]⟩,
    ⟨none, none, .store 2 (.t 7) (.t 35)⟩,
    ⟨(some 8), none, .mov (.t 36)⟩])
 (.seq (.reg none [
    ⟨(some 38), none, .load true 2 (.t 5)⟩,
    ⟨(some 39), none, .mov (.t 6)⟩,
    ⟨(some 40), none, .call .k (.f 26) [(.t 38), (.t 39)]⟩,
    ⟨(some 37), none, .mov (.t 40)⟩,
    ⟨(some 41), none, .ext (.t 37) 0⟩,
    ⟨(some 42), none, .ext (.t 37) 1⟩,
    ⟨(some 9), none, .new [(.slice none 0 0), (.slice none 0 0)]⟩,
    ⟨none, none, .store 2 (.t 9) (.t 41)⟩,
    ⟨(some 10), none, .mov (.t 42)⟩])
 (.seq (.seq (.reg none [
     ⟨(some 43), none, .mov (.t 10)⟩,
     ⟨(some 44), none, .mov (.t 8)⟩,
     ⟨(some 45), none, .beq true (.t 43) (.t 44)⟩,
     ⟨(some 46), none, .mov (.t 45)⟩,
     ⟨(some 47), (some (46, false)), .load true 2 (.t 9)⟩,
     ⟨(some 48), (some (46, false)), .load true 2 (.t 7)⟩,
     ⟨(some 49), (some (46, false)), .call .q (.f 22) [(.t 47), (.t 48)]⟩,
     ⟨(some 50), (some (46, false)), .un .not (.t 49)⟩,
     ⟨(some 51), none, .pick (.t 46) (.c (.bool true)) (.t 50)⟩,
     ⟨(some 52), none, .mov (.t 51)⟩,
     ⟨(some 53), (some (52, false)), .mov (.t 10)⟩,
     ⟨(some 54), (some (52, false)), .un .not (.t 53)⟩,
     ⟨(some 55), none, .pick (.t 52) (.c (.bool true)) (.t 54)⟩])
  (.cond (.t 55) (.seq (.reg none [
      ⟨(some 56), none, .mov (.t 10)⟩,
      ⟨(some 57), none, .mov (.t 8)⟩,
      ⟨(some 58), none, .beq false (.t 56) (.t 57)⟩,
      ⟨(some 59), none, .mov (.t 58)⟩,
      ⟨(some 60), (some (59, true)), .load true 2 (.t 9)⟩,
      ⟨(some 61), (some (59, true)), .load true 2 (.t 7)⟩,
      ⟨(some 62), (some (59, true)), .call .q (.f 22) [(.t 60), (.t 61)]⟩,
      ⟨(some 63), none, .pick (.t 59) (.t 62) (.c (.bool false))⟩,
      ⟨(some 4), none, .mov (.t 63)⟩])
   (.ret)) (.skip)))
 (.seq (.reg none [
    ⟨(some 64), none, .lit 1 3 0 [] []⟩,
    ⟨(some 11), none, .mov (.t 64)⟩])
 (.seq (.seq (.reg none [
     ⟨(some 12), none, .mov (.c (.int .i64 0))⟩])
  (.block 0 (.loop (.seq (.seq (.reg none [
        ⟨(some 65), none, .mov (.t 12)⟩,
        ⟨(some 66), none, .fad 0 (.t 5)⟩,
        ⟨(some 67), none, .load false 1 (.t 66)⟩,
        ⟨(some 68), none, .len (.t 67)⟩,
        ⟨(some 69), none, .bin .lss (.t 65) (.t 68)⟩])
     (.cond (.t 69) (.skip) (.exit 0)))
    (.seq (.block 1 (.reg none [
        ⟨(some 72), none, .mov (.t 11)⟩,
        ⟨(some 73), none, .mov (.t 1)⟩,
        ⟨(some 74), none, .len (.t 73)⟩,
        ⟨(some 75), none, .mov (.t 12)⟩,
        ⟨(some 76), none, .bin .mul (.t 75) (.c (.int .i64 3))⟩,
        ⟨(some 77), none, .bin .add (.t 74) (.t 76)⟩,
        ⟨(some 78), none, .bin .rem (.t 77) (.c (.int .i64 10))⟩,
        ⟨(some 79), none, .lit 1 3 1 [(.int .i64 0)] [(0, 1, (.t 78))]⟩,
        ⟨(some 80), none, .app 1 3 8 false (.t 72) (.t 79)⟩,
        ⟨(some 11), none, .mov (.t 80)⟩]))
    (.reg none [
      ⟨(some 70), none, .mov (.t 12)⟩,
      ⟨(some 71), none, .bin .add (.t 70) (.c (.int .i64 1))⟩,
      ⟨(some 12), none, .mov (.t 71)⟩]))))))
 (.seq (.reg none [
    ⟨(some 82), none, .load true 2 (.t 5)⟩,
    ⟨(some 83), none, .mov (.t 11)⟩,
    ⟨(some 84), none, .call .k (.f 32) [(.t 82), (.t 83)]⟩,
    ⟨(some 81), none, .mov (.t 84)⟩,
    ⟨(some 85), none, .ext (.t 81) 0⟩,
    ⟨(some 86), none, .ext (.t 81) 1⟩,
    ⟨(some 13), none, .new [(.slice none 0 0), (.slice none 0 0), (.slice none 0 0)]⟩,
    ⟨none, none, .store 3 (.t 13) (.t 85)⟩,
    ⟨(some 14), none, .mov (.t 86)⟩])
 (.seq (.reg none [
    ⟨(some 88), none, .load true 2 (.t 9)⟩,
    ⟨(some 89), none, .mov (.t 11)⟩,
    ⟨(some 90), none, .call .k (.f 32) [(.t 88), (.t 89)]⟩,
    ⟨(some 87), none, .mov (.t 90)⟩,
    ⟨(some 91), none, .ext (.t 87) 0⟩,
    ⟨(some 92), none, .ext (.t 87) 1⟩,
    ⟨(some 15), none, .new [(.slice none 0 0), (.slice none 0 0), (.slice none 0 0)]⟩,
    ⟨none, none, .store 3 (.t 15) (.t 91)⟩,
    ⟨(some 16), none, .mov (.t 92)⟩])
 (.seq (.seq (.reg none [
     ⟨(some 17), none, .mov (.c (.int .i64 0))⟩])
  (.block 2 (.loop (.seq (.seq (.reg none [
        ⟨(some 93), none, .mov (.t 17)⟩,
        ⟨(some 94), none, .bin .lss (.t 93) (.c (.int .i64 3))⟩])
     (.cond (.t 94) (.skip) (.exit 2)))
    (.seq (.block 3 (.seq (.reg (some 8) [
         ⟨(some 97), none, .load true 3 (.t 13)⟩,
         ⟨(some 98), none, .mov (.t 17)⟩,
         ⟨(some 99), none, .call .k (.f 34) [(.t 97), (.t 98)]⟩,
         ⟨(some 100), none, .load true 3 (.t 15)⟩,
         ⟨(some 101), none, .mov (.t 6)⟩,
         ⟨(some 102), none, .mov (.t 17)⟩,
         ⟨(some 103), none, .iad 1 (.t 101) (.t 102)⟩,
         ⟨(some 104), none, .load false 1 (.t 103)⟩,
         ⟨(some 105), none, .call .k (.f 34) [(.t 100), (.t 104)]⟩,
         ⟨(some 106), none, .call .q (.f 33) [(.t 99), (.t 105)]⟩,
         ⟨(some 107), none, .un .not (.t 106)⟩])
      (.cond (.t 107) (.seq (.reg none [
          ⟨(some 4), none, .mov (.c (.bool false))⟩])
       (.ret)) (.skip))))
    (.reg none [
      ⟨(some 95), none, .mov (.t 17)⟩,
      ⟨(some 96), none, .bin .add (.t 95) (.c (.int .i64 1))⟩,
      ⟨(some 17), none, .mov (.t 96)⟩]))))))
 (.seq (.reg none [
    ⟨(some 108), none, .mov (.t 14)⟩,
    ⟨(some 109), none, .mov (.t 108)⟩,
    ⟨(some 110), (some (109, true)), .mov (.t 16)⟩,
    ⟨(some 111), none, .pick (.t 109) (.t 110) (.c (.bool false))⟩,
    ⟨(some 112), none, .mov (.t 111)⟩,
    ⟨(some 113), (some (112, true)), .fad 0 (.t 13)⟩,
    ⟨(some 114), (some (112, true)), .load false 1 (.t 113)⟩,
    ⟨(some 115), (some (112, true)), .fad 0 (.t 15)⟩,
    ⟨(some 116), (some (112, true)), .load false 1 (.t 115)⟩,
    ⟨(some 117), (some (112, true)), .call .q (.f 33) [(.t 114), (.t 116)]⟩,
    ⟨(some 118), none, .pick (.t 112) (.t 117) (.c (.bool false))⟩,
    ⟨(some 119), none, .mov (.t 118)⟩,
    ⟨(some 120), (some (119, true)), .fad 1 (.t 13)⟩,
    ⟨(some 121), (some (119, true)), .load false 1 (.t 120)⟩,
    ⟨(some 122), (some (119, true)), .fad 1 (.t 15)⟩,
    ⟨(some 123), (some (119, true)), .load false 1 (.t 122)⟩,
    ⟨(some 124), (some (119, true)), .call .q (.f 35) [(.t 121), (.t 123)]⟩,
    ⟨(some 125), none, .pick (.t 119) (.t 124) (.c (.bool false))⟩,
    ⟨(some 4), none, .mov (.t 125)⟩])
 (.ret))))))))))))⟩
def c_lcWrites : IFn := ⟨2, 26, [.t 4],
 .seq (.reg none [
    ⟨(some 4), none, .mov (.c (.bool false))⟩])
 (.seq (.seq (.reg none [
     ⟨(some 6), none, .mov (.t 0)⟩,
     ⟨(some 7), none, .len (.t 6)⟩,
     ⟨(some 8), none, .mov (.t 1)⟩,
     ⟨(some 9), none, .len (.t 8)⟩,
     ⟨(some 10), none, .bin .neq (.t 7) (.t 9)⟩])
  (.cond (.t 10) (.seq (.reg none [
      ⟨(some 4), none, .mov (.c (.bool false))⟩])
   (.ret)) (.skip)))
 (.seq (.seq (.reg none [
     ⟨(some 5), none, .mov (.c (.int .i64 0))⟩])
  (.block 0 (.loop (.seq (.seq (.reg none [
        ⟨(some 11), none, .mov (.t 5)⟩,
        ⟨(some 12), none, .mov (.t 0)⟩,
        ⟨(some 13), none, .len (.t 12)⟩,
        ⟨(some 14), none, .bin .lss (.t 11) (.t 13)⟩])
     (.cond (.t 14) (.skip) (.exit 0)))
    (.seq (.block 1 (.seq (.reg (some 8) [
         ⟨(some 17), none, .mov (.t 0)⟩,
         ⟨(some 18), none, .mov (.t 5)⟩,
         ⟨(some 19), none, .iad 2 (.t 17) (.t 18)⟩,
         ⟨(some 20), none, .load true 2 (.t 19)⟩,
         ⟨(some 21), none, .mov (.t 1)⟩,
         ⟨(some 22), none, .mov (.t 5)⟩,
         ⟨(some 23), none, .iad 2 (.t 21) (.t 22)⟩,
         ⟨(some 24), none, .load true 2 (.t 23)⟩,
         ⟨(some 25), none, .eqs true 2 (.t 20) (.t 24)⟩])
      (.cond (.t 25) (.seq (.reg none [
          ⟨(some 4), none, .mov (.c (.bool false))⟩])
       (.ret)) (.skip))))
    (.reg none [
      ⟨(some 15), none, .mov (.t 5)⟩,
      ⟨(some 16), none, .bin .add (.t 15) (.c (.int .i64 1))⟩,
      ⟨(some 5), none, .mov (.t 16)⟩]))))))
 (.seq (.reg none [
    ⟨(some 4), none, .mov (.c (.bool true))⟩])
 (.ret))))⟩
def c_iRunTo : IFn := ⟨2, 26, [.t 4],
 .seq (.reg none [
    ⟨(some 2), none, .box (.t 0)⟩,
    ⟨(some 4), none, .mov (.c (.slice none 0 0))⟩])
 (.seq (.reg none [
    ⟨(some 5), none, .mov (.c (.slice none 0 0))⟩])
 (.seq (.seq (.reg none [
     ⟨(some 8), none, .fad 2 (.t 2)⟩,
     ⟨(some 9), none, .load false 1 (.t 8)⟩,
     ⟨(some 10), none, .len (.t 9)⟩,
     ⟨(some 11), none, .mov (.c (.int .i64 0))⟩])
  (.block 0 (.loop (.seq (.reg none [
       ⟨(some 12), none, .bin .lss (.t 11) (.t 10)⟩])
    (.seq (.cond (.t 12) (.skip) (.exit 0))
    (.seq (.block 1 (.seq (.reg none [
         ⟨(some 13), none, .iad 2 (.t 9) (.t 11)⟩,
         ⟨(some 14), none, .load true 2 (.t 13)⟩,
         ⟨(some 7), none, .new [(.int .i64 0), (.int .i64 0)]⟩,
         ⟨none, none, .store 2 (.t 7) (.t 14)⟩])
      (.seq (.reg none [
         ⟨(some 15), none, .fad 0 (.t 7)⟩,
         ⟨(some 16), none, .load false 1 (.t 15)⟩,
         ⟨(some 17), none, .mov (.t 1)⟩,
         ⟨(some 18), none, .bin .eql (.t 16) (.t 17)⟩])
      (.cond (.t 18) (.reg none [
         ⟨(some 19), none, .mov (.t 5)⟩,
         ⟨(some 20), none, .fad 1 (.t 7)⟩,
         ⟨(some 21), none, .load false 1 (.t 20)⟩,
         ⟨(some 22), none, .lit 1 3 1 [(.int .i64 0)] [(0, 1, (.t 21))]⟩,
         ⟨(some 23), none, .app 1 3 8 false (.t 19) (.t 22)⟩,
         ⟨(some 5), none, .mov (.t 23)⟩]) (.skip)))))
    (.reg none [
      ⟨(some 24), none, .bin .add (.t 11) (.c (.int .i64 1))⟩,
      ⟨(some 11), none, .mov (.t 24)⟩])))))))
 (.seq (.reg none [
    ⟨(some 25), none, .mov (.t 5)⟩,
    ⟨(some 4), none, .mov (.t 25)⟩])
 (.ret))))⟩
theorem lcWrites_ok {F : Nat → Option IFn} {f : Nat} (hf : F f = some c_lcWrites) : PairsOk F f := by
  intro H v w l l' hv hw
  obtain ⟨h0, a, rfl, _⟩ := id hv
  obtain ⟨h0', a', rfl, _⟩ := id hw
  refine QC.mk hf rfl ?_
  refine seq_reg ?_
  simp only [go_sem, binC]
  by_cases hl : l.length = l'.length
  rotate_left
  · have hne : ((l.length : Int) != (l'.length : Int)) = true := by simp; omega
    refine seq_assoc (seq_reg ?_)
    simp only [go_sem, binC, hne]
    refine seq_cond (t := true) rfl ?_
    simp only [go_sem, binC]
    refine seq_assoc (seq_reg ?_)
    simp only [go_sem, binC]
    refine seq_ret ⟨Or.inr rfl, .bool false, by simp only [go_sem, binC], ?_, rfl⟩
    rw [decide_eq_false (fun h => hl (by rw [h]))]
  have hne : ((l.length : Int) != (l'.length : Int)) = false := by simp; omega
  refine seq_assoc (seq_reg ?_)
  simp only [go_sem, binC, hne]
  refine seq_cond (t := false) rfl ?_
  simp only [go_sem, binC]
  refine seq_skip (seq_assoc (seq_reg ?_))
  simp only [go_sem, binC]
  refine seq_block (wpc_loop ?_)
  suffices h : ∀ (k i : Nat) (e : Env), i + k = l.length → e 0 = .slice a l.length l.length → e 1 = .slice a' l'.length l'.length → e 5 = .int .i64 i → (l = l' ↔ l.drop i = l'.drop i) → W F H.length _ e _ _ from
    h l.length 0 _ (by omega) (by simp only [go_sem, binC]) (by simp only [go_sem, binC]) (by (simp only [go_sem, binC]) <;> rfl) (by simp)
  intro k
  induction k with
  | zero =>
    intro i e hi e0 e1 e5 heq
    refine lp_step ?_
    refine seq_assoc (seq_reg ?_)
    simp only [go_sem, binC, e0, e5]
    refine seq_cond (t := false) (by simp only [go_sem, binC]; rw [decide_eq_false (by omega)]) ?_
    simp only [go_sem, binC]
    refine seq_exit ?_
    simp only [go_sem, binC, thenX_e, out_e, thenX_n]
    refine seq_reg ?_
    simp only [go_sem, binC]
    refine wpc_ret ⟨Or.inr rfl, .bool true, by simp only [go_sem, binC], ?_, rfl⟩
    rw [decide_eq_true (heq.2 (by rw [List.drop_of_length_le (by omega), List.drop_of_length_le (by omega)]))]
  | succ k ih =>
    intro i e hi e0 e1 e5 heq
    have hil : i < l.length := by omega
    have hil' : i < l'.length := by omega
    obtain ⟨b, o, hv1, hg⟩ := gcP hv hil
    obtain ⟨b', o', hv2, hg'⟩ := gcP hw hil'
    simp only [Value.slice.injEq, and_true] at hv1 hv2
    subst hv1 hv2
    have hw1 : IntKind.i64.wrap ((i : Int) + 1) = ((i + 1 : Nat) : Int) := by rw [wrap_id (by omega) (by omega)]; omega
    rw [List.drop_eq_getElem_cons hil, List.drop_eq_getElem_cons hil', List.cons.injEq] at heq
    refine lp_step ?_
    refine seq_assoc (seq_reg ?_)
    simp only [go_sem, binC, e0, e5]
    refine seq_cond (t := true) (by simp only [go_sem, binC]; rw [decide_eq_true (by omega)]) ?_
    simp only [go_sem, binC]
    refine seq_skip (seq_block (seq_regD ?_))
    simp only [go_sem, binC, e0, e5]
    refine ⟨⟨by omega, by omega⟩, ?_⟩
    simp only [go_sem, binC, Int.toNat_natCast, hg, e1, e5]
    refine ⟨⟨by omega, by omega⟩, ?_⟩
    simp only [go_sem, binC, Int.toNat_natCast, hg', eqsV2]
    by_cases hq : l[i] = l'[i]
    · have hb : (!decide ((l[i].1, l[i].2) = (l'[i].1, l'[i].2))) = false := by simp [hq]
      simp only [go_sem, binC, hb]
      refine wpc_cond (t := false) (by (simp only [go_sem, binC]) <;> rfl) ?_
      simp only [go_sem, binC]
      refine wpc_skip ?_
      simp only [go_sem, binC, out_n, thenX_n]
      refine wpc_reg ?_
      simp only [go_sem, binC, e5, hw1]
      simp only [go_sem, binC, thenX_n]
      exact ih (i + 1) _ (by omega) (by simp only [go_sem, binC, e0]) (by simp only [go_sem, binC, e1]) (by simp only [go_sem, binC]) (by rw [heq]; exact ⟨fun h => h.2, fun h => ⟨hq, h⟩⟩)
    · have hb : (!decide ((l[i].1, l[i].2) = (l'[i].1, l'[i].2))) = true := by
        rw [decide_eq_false (fun h => hq (Prod.ext (by simpa using congrArg Prod.fst h) (by simpa using congrArg Prod.snd h)))]; rfl
      simp only [go_sem, binC, hb]
      refine wpc_cond (t := true) (by (simp only [go_sem, binC]) <;> rfl) ?_
      simp only [go_sem, binC]
      refine seq_reg ?_
      simp only [go_sem, binC]
      refine wpc_ret ?_
      simp only [go_sem, binC, out_r, thenX_r]
      refine ⟨Or.inr rfl, .bool false, by simp only [go_sem, binC], ?_, rfl⟩
      rw [decide_eq_false (fun h => hq (heq.1 h).1)]
def toldL (h : Int) (ss : List (Int × Int)) : List Int := (ss.filter (fun w => decide (w.1 = h))).map (·.2)
def ToldOk (F : Nat → Option IFn) (f : Nat) : Prop := ∀ (H : Heap) (nv wv sv : Value) (r : RunS) (h : Int), one nv = true → one wv = true → SlR Co.p2 (vw 0 H) sv r.2.2 → r.2.2.length ≤ 1000 → (∀ w ∈ r.2.2, RgI w.1 ∧ RgI w.2) → ∃ z H', KC F f [.agg #[nv, wv, sv], .int .i64 h] H z H' ∧ AgX [] H H' ∧ SlR Co.int (vw 0 H') z (toldL h r.2.2)
theorem iRunTo_ok {F : Nat → Option IFn} {f : Nat} (hf : F f = some c_iRunTo) : ToldOk F f := by
  intro H nv wv sv r h on ow hs hl hrg
  suffices hh : ∃ z H', KC F f [.agg #[nv, wv, sv], .int .i64 h] H z H' ∧ (AgX [] H H' ∧ SlR Co.int (vw 0 H') z (toldL h r.2.2)) from hh
  obtain ⟨_, sa, rfl, _⟩ := id hs
  generalize r.2.2 = ss at hs hl hrg
  refine KC.mk hf rfl ?_
  refine seq_reg ?_
  simp only [go_sem, binC, on, ow]
  refine wpc_gen fun H1 hH1 => ?_
  have hx1 : AgX [] H H1 := hH1 ▸ AgX.app [] _ _
  have hb : H1[H.length]? = some ⟨[nv, wv, .slice sa ss.length ss.length], 0, 0, false, true⟩ := hH1 ▸ get_new0 _ _
  clear hH1
  have hl1 := hx1.1
  have hlt : ∀ l : List (Int × Int), (toldL h l).length ≤ l.length := fun l => by unfold toldL; rw [List.length_map]; exact List.length_filter_le _ _
  refine seq_reg ?_
  simp only [go_sem, binC]
  refine seq_assoc (seq_reg ?_)
  simp only [go_sem, binC, gc_of hb, inBlk_some]
  refine seq_block (wpc_loop ?_)
  suffices hh : ∀ (k i : Nat) (e : Env) (Hc : Heap) (v5 : Value), i + k = ss.length → AgX [] H1 Hc → GLi fi 1 3 H1.length Hc v5 (toldL h (ss.take i)) → e 1 = .int .i64 h → e 5 = v5 → e 9 = .slice sa ss.length ss.length → e 10 = .int .i64 ss.length → e 11 = .int .i64 i → W F H.length _ e Hc _ from
    hh ss.length 0 _ H1 _ (by omega) (AgX.refl _ _) (.inl ⟨rfl, rfl⟩) (by simp only [go_sem, binC]) (by simp only [go_sem, binC]) (by simp only [go_sem, binC]) (by simp only [go_sem, binC]) (by (simp only [go_sem, binC]) <;> rfl)
  intro k
  induction k with
  | zero =>
    intro i e Hc v5 hi hxc q e1 e5 e9 e10 e11
    refine lp_step ?_
    refine seq_reg ?_
    simp only [go_sem, binC, e10, e11]
    refine seq_cond (t := false) (by simp only [go_sem, binC]; rw [decide_eq_false (by omega)]) ?_
    simp only [go_sem, binC]
    refine seq_exit ?_
    simp only [go_sem, binC, thenX_e, out_e, thenX_n]
    refine seq_reg ?_
    simp only [go_sem, binC, e5]
    rw [List.take_of_length_le (by omega)] at q
    refine wpc_ret ⟨Or.inr rfl, _, (by (simp only [go_sem, binC]) <;> rfl), hx1.tr hxc, q.slI (es := 1) (fun x hx => ?_) (Nat.le_trans (hlt _) hl)⟩
    unfold toldL at hx
    obtain ⟨w, hw, rfl⟩ := List.mem_map.1 hx
    exact (hrg w (List.mem_filter.1 hw).1).2
  | succ k ih =>
    intro i e Hc v5 hi hxc q e1 e5 e9 e10 e11
    have hil : i < ss.length := by omega
    obtain ⟨b, o, hv1, hg⟩ := gcP (hs.mono (agx_sub (hx1.tr hxc))) hil
    simp only [Value.slice.injEq, and_true] at hv1
    subst hv1
    have hw1 : IntKind.i64.wrap ((i : Int) + 1) = ((i + 1 : Nat) : Int) := by rw [wrap_id (by omega) (by omega)]; omega
    have htk : toldL h (ss.take (i + 1)) = toldL h (ss.take i) ++ (if ss[i].1 = h then [ss[i].2] else []) := by
      unfold toldL
      rw [List.take_add_one, List.getElem?_eq_getElem hil, List.filter_append, List.map_append]
      congr 1
      by_cases hh : ss[i].1 = h <;> simp [hh]
    have hlc := hxc.1
    refine lp_step ?_
    refine seq_reg ?_
    simp only [go_sem, binC, e10, e11]
    refine seq_cond (t := true) (by simp only [go_sem, binC]; rw [decide_eq_true (by omega)]) ?_
    simp only [go_sem, binC]
    refine seq_skip (seq_block (seq_reg ?_))
    simp only [go_sem, binC, e9, e11]
    refine ⟨⟨by omega, by omega⟩, ?_⟩
    simp only [go_sem, binC, Int.toNat_natCast, hg]
    refine ⟨by omega, ?_⟩
    refine wpc_gen fun H2 hH2 => ?_
    have hx2 : AgX [] Hc H2 := hH2 ▸ AgX.app [] _ _
    have hb7 : H2[Hc.length]? = some ⟨[.int .i64 ss[i].1, .int .i64 ss[i].2], 0, 0, false, true⟩ := hH2 ▸ get_new0 _ _
    clear hH2
    have q2 := q.keep hx2 (fun _ _ _ _ _ => by simp)
    have hl2 := hx2.1
    refine seq_reg ?_
    simp only [go_sem, binC, e1, gc_of hb7, inBlk_some]
    by_cases he : ss[i].1 = h
    · rw [if_pos he] at htk
      simp only [go_sem, binC, beq_t he]
      refine wpc_cond (t := true) (by first | rfl | (simp only [go_sem, binC]; rw [beq_t he])) ?_
      simp only [go_sem, binC]
      refine wpc_reg ?_
      simp only [go_sem, binC, e5, gc_of hb7, inBlk_some]
      refine op_app_fl (fl := fi) (a := ss[i].2) (lo := H1.length) (fun _ => rfl) q2 (by simp only [go_sem, binC, e5]) (by (simp only [go_sem, binC]) <;> rfl) hl1 (by omega) (by have := hlt (ss.take i); rw [List.length_take] at this; omega) (by omega) fun H3 w3 hx3 q3 => ?_
      rw [← htk] at q3
      have hblk := q2.blk
      simp only [go_sem, binC, out_n, thenX_n]
      refine wpc_reg ?_
      simp only [go_sem, binC, e11, hw1]
      simp only [go_sem, binC, thenX_n]
      exact ih (i + 1) _ H3 w3 (by omega) ((hxc.tr hx2).trans hx3 (fun _ h _ => h) (fun b h1 h2 => by have := hblk b h1; omega)) q3 (by simp only [go_sem, binC, e1]) (by simp only [go_sem, binC]) (by simp only [go_sem, binC, e9]) (by simp only [go_sem, binC, e10]) (by simp only [go_sem, binC])
    · rw [if_neg he, List.append_nil] at htk
      simp only [go_sem, binC, beq_f he]
      refine wpc_cond (t := false) (by first | rfl | (simp only [go_sem, binC]; rw [beq_f he])) ?_
      simp only [go_sem, binC]
      refine wpc_skip ?_
      simp only [go_sem, binC, out_n, thenX_n]
      refine wpc_reg ?_
      simp only [go_sem, binC, e11, hw1]
      simp only [go_sem, binC, thenX_n]
      exact ih (i + 1) _ H2 v5 (by omega) (hxc.tr hx2) (by rw [htk]; exact q2) (by simp only [go_sem, binC, e1]) (by simp only [go_sem, binC, e5]) (by simp only [go_sem, binC, e9]) (by simp only [go_sem, binC, e10]) (by simp only [go_sem, binC])
/-! ### Plainly -/
def Mh (row : List Int) (r : RunS) : RunS := (r.1, r.2.1, r.2.2.map fun w => (nameO row w.1, w.2))
def hostsOk (r : RunS) : Prop := ∀ w ∈ r.2.2, 0 ≤ w.1 ∧ w.1 ≤ 2
theorem runT_turn {row : List Int} {k : Nat} (hr : rowB row 3 = true) : ∀ (n : Nat) (d : Int) (s : TStep n) (r : RunS), stepB k n d s = true → hostsOk r → runT n (mapT (turnH row) n s) (Mh row r) = Mh row (runT n s r) ∧ hostsOk (runT n s r)
  | 0, _, s, _, _, _ => s.elim
  | n + 1, d, (kd, vr, v, ho, th, el), r, h, hh => by
    have go : ∀ l : List (TStep n), l.all (stepB k n (d - 1)) = true → ∀ r, hostsOk r → runL n (l.map (mapT (turnH row) n)) (Mh row r) = Mh row (runL n l r) ∧ hostsOk (runL n l r) := by
      intro l
      induction l with
      | nil => intro _ r hr; exact ⟨rfl, hr⟩
      | cons a l ih =>
        intro hl r hr'
        rw [List.all_cons, Bool.and_eq_true] at hl
        obtain ⟨q1, q2⟩ := runT_turn hr n (d - 1) a r hl.1 hr'
        have := ih hl.2 _ q2
        simp only [runL, List.map_cons, List.foldl_cons] at this ⊢
        rw [q1]
        exact this
    simp only [stepB, Bool.and_eq_true, decide_eq_true_eq] at h
    obtain ⟨_, h⟩ := h
    have e : mapT (turnH row) (n + 1) (kd, vr, v, ho, th, el) = (kd, vr, v, (if kd = 3 then nameO row ho else ho), th.map (mapT (turnH row) n), el.map (mapT (turnH row) n)) := rfl
    rw [e]
    by_cases k1 : kd = 1
    · subst k1
      rw [runT_set, runT_set]
      exact ⟨rfl, hh⟩
    rw [if_neg k1] at h
    by_cases k3 : kd = 3
    · subst k3
      rw [if_pos rfl] at h ⊢
      simp only [Bool.and_eq_true, decide_eq_true_eq, inB_iff] at h
      rw [runT_tell (by decide) (by decide), runT_tell (by decide) (by decide)]
      refine ⟨?_, fun w hw => ?_⟩
      · unfold Mh
        simp only [List.map_append, List.map_cons, List.map_nil]
      · simp only [List.mem_append, List.mem_singleton] at hw
        rcases hw with hw | rfl
        · exact hh w hw
        · exact h.1.2
    rw [if_neg k3] at h
    by_cases k2 : kd = 2
    · subst k2
      rw [if_pos rfl] at h
      simp only [Bool.and_eq_true, decide_eq_true_eq] at h
      rw [runT_if, runT_if]
      show (if r.1.getD vr.toNat 0 = 0 then _ else _) = _ ∧ _
      by_cases h0 : r.1.getD vr.toNat 0 = 0
      · rw [if_pos h0, if_pos h0]
        exact go el h.2 r hh
      · rw [if_neg h0, if_neg h0]
        exact go th h.1.2 r hh
    · rw [if_neg k2] at h; cases h
theorem runL_turn {row : List Int} {k : Nat} (hr : rowB row 3 = true) {n : Nat} {d : Int} : ∀ (l : List (TStep n)), l.all (stepB k n d) = true → ∀ r, hostsOk r → runL n (l.map (mapT (turnH row) n)) (Mh row r) = Mh row (runL n l r) ∧ hostsOk (runL n l r)
  | [], _, r, hr' => ⟨rfl, hr'⟩
  | a :: l, hl, r, hr' => by
    rw [List.all_cons, Bool.and_eq_true] at hl
    obtain ⟨q1, q2⟩ := runT_turn hr n d a r hl.1 hr'
    have := runL_turn hr l hl.2 _ q2
    simp only [runL, List.map_cons, List.foldl_cons] at this ⊢
    rw [q1]
    exact this
theorem runOf_turn {n : Nat} {ls : List (Int × Int)} {l : List (TStep n)} {row nums : List Int} (h : progB n (ls, l) = true) (hr : rowB row 3 = true) : runOf n (turnLH row ls, l.map (mapT (turnH row) n)) nums = Mh row (runOf n (ls, l) nums) ∧ hostsOk (runOf n (ls, l) nums) := by
  have hB : numsB n (turnLH row ls, l.map (mapT (turnH row) n)) nums = numsB n (ls, l) nums := by
    unfold numsB
    rw [h, turnP_ok h hr, turnLH_len]
  unfold runOf
  rw [hB]
  split
  · have hs := h
    simp only [progB, Bool.and_eq_true] at hs
    exact runL_turn (row := row) hr l hs.1.2 (nums, [], []) (fun w hw => by cases hw)
  · exact ⟨rfl, fun w hw => by cases hw⟩
theorem toldL_turn {row : List Int} (hr : rowB row 3 = true) {ss : List (Int × Int)} {h : Int} (hs : ∀ w ∈ ss, 0 ≤ w.1 ∧ w.1 ≤ 2) (hh : 0 ≤ h ∧ h ≤ 2) : toldL (nameO row h) (ss.map fun w => (nameO row w.1, w.2)) = toldL h ss := by
  unfold toldL
  rw [List.filter_map, List.map_map]
  have : ss.filter ((fun w : Int × Int => decide (w.1 = nameO row h)) ∘ fun w => (nameO row w.1, w.2)) = ss.filter fun w => decide (w.1 = h) := by
    refine List.filter_congr fun w hw => ?_
    simp only [Function.comp_apply, decide_eq_decide]
    refine ⟨fun e => ?_, fun e => by rw [e]⟩
    have q1 := nameO_back hr (x := w.1) (by have := hs w hw; omega)
    have q2 := nameO_back hr (x := h) (by omega)
    rw [← q1, ← q2, e]
  rw [this]
  rfl
/-- The numbers that the law takes. -/
def nmL (m k : Nat) : List Int := (List.range k).map fun (i : Nat) => ((m : Int) + (i : Int) * 3) % 10
theorem nmL_len (m k : Nat) : (nmL m k).length = k := by simp [nmL]
theorem nmL_succ (m k : Nat) : nmL m k ++ [((m : Int) + (k : Int) * 3) % 10] = nmL m (k + 1) := by simp [nmL, List.range_succ]
theorem nmL_rg {m k : Nat} : ∀ x ∈ nmL m k, 0 ≤ x ∧ x ≤ 9 := by
  intro x hx
  simp only [nmL, List.mem_map, List.mem_range] at hx
  obtain ⟨i, _, rfl⟩ := hx
  omega
theorem numsB_nm {n : Nat} {ls : List (Int × Int)} {l : List (TStep n)} (h : progB n (ls, l) = true) (m : Nat) : numsB n (ls, l) (nmL m ls.length) = true := by
  unfold numsB
  rw [h, nmL_len]
  simp only [decide_true, Bool.true_and, Bool.and_true, List.all_eq_true]
  exact fun x hx => inB_iff.2 (nmL_rg x hx)
theorem binI_remJ {x : Int} (h : 0 ≤ x) : binI .rem .i64 x 10 = some (.int .i64 (x % 10)) := by
  show (if (10 : Int) = 0 then none else some (Value.int .i64 (x.tmod 10))) = _
  rw [if_neg (by decide), Int.tmod_eq_emod_of_nonneg h]
theorem RunOk.bd {n : Nat} {p : TProg n} {nums : List Int} (h : progB n p = true) (hsm : (Co.prog n).sm p) : (runOf n p nums).2.2.length ≤ 1000 := by
  have key : ∀ (m : Nat) (s : TStep m) (r : RunS), (runT m s r).2.2.length ≤ r.2.2.length + (allT m s).length := by
    intro m
    induction m with
    | zero => intro s; exact s.elim
    | succ m ih =>
      rintro ⟨kd, vr, v, ho, th, el⟩ r
      have go : ∀ (l : List (TStep m)) (r : RunS), (runL m l r).2.2.length ≤ r.2.2.length + (allL m l).length := by
        intro l
        induction l with
        | nil => intro r; simp [runL, allL]
        | cons a l ihl =>
          intro r
          have h1 := ih a r
          have h2 := ihl (runT m a r)
          simp only [runL, List.foldl_cons] at h2 ⊢
          have h3 : (allL m (a :: l)).length = (allT m a).length + (allL m l).length := by simp [allL]
          omega
      rw [allT_succ]
      simp only [List.length_cons, List.length_append]
      by_cases k1 : kd = 1
      · subst k1; rw [runT_set]; simp only; omega
      by_cases k2 : kd = 2
      · subst k2
        rw [runT_if]
        split
        · have := go el r; omega
        · have := go th r; omega
      · rw [runT_tell k1 k2]; simp only [List.length_append, List.length_singleton]; omega
  have go : ∀ (l : List (TStep n)) (r : RunS), (runL n l r).2.2.length ≤ r.2.2.length + (allL n l).length := by
    intro l
    induction l with
    | nil => intro r; simp [runL, allL]
    | cons a l ihl =>
      intro r
      have h1 := key n a r
      have h2 := ihl (runT n a r)
      simp only [runL, List.foldl_cons] at h2 ⊢
      have h3 : (allL n (a :: l)).length = (allT n a).length + (allL n l).length := by simp [allL]
      omega
  have hc := progB_cnt h hsm
  unfold runOf
  split
  · have := go p.2 (nums, [], [])
    simp only [List.length_nil] at this
    omega
  · simp
set_option maxHeartbeats 4000000 in
theorem lawTR_ok {F : Nat → Option IFn} {f : Nat} (hf : F f = some c_lawTR) (gd : DrawNumsOk F 27) (gs : TurnPOk F 25 (fun _ => 3) turnLH turnH) (gi : TurnPOk F 26 (fun _ => 3) turnLH turnH) (gl : SamePOk F 22) (gr : RunOk F 32) (gtl : ToldOk F 34) (gli : IntsOk F 33) (glw : PairsOk F 35) : LawB2 F f := by
  intro H v wv code more hv hw
  have hv0 := hv
  have hw0 := hw
  obtain ⟨h0, a, rfl, _⟩ := hv
  obtain ⟨h00, am, rfl, _⟩ := hw
  refine QC.mk hf rfl ?_
  refine seq_reg ?_
  simp only [go_sem, binC]
  refine seq_assoc (seq_reg ?_)
  simp only [go_sem, binC]
  by_cases hbig : 1048576 < (code.length : Int)
  · simp only [go_sem, binC, decide_eq_true hbig]
    refine seq_cond (t := true) (by simp only [go_sem, binC]) ?_
    simp only [go_sem, binC]
    refine seq_assoc (seq_reg ?_)
    simp only [go_sem, binC]
    exact seq_ret ⟨Or.inr rfl, .bool true, by simp only [go_sem, binC], rfl, rfl⟩
  simp only [go_sem, binC, decide_eq_false hbig]
  by_cases hbigm : 1048576 < (more.length : Int)
  · simp only [go_sem, binC, decide_eq_true hbigm]
    refine seq_cond (t := true) (by simp only [go_sem, binC]) ?_
    simp only [go_sem, binC]
    refine seq_assoc (seq_reg ?_)
    simp only [go_sem, binC]
    exact seq_ret ⟨Or.inr rfl, .bool true, by simp only [go_sem, binC], rfl, rfl⟩
  simp only [go_sem, binC, decide_eq_false hbigm]
  refine seq_cond (t := false) (by simp only [go_sem, binC]) ?_
  simp only [go_sem, binC]
  refine seq_skip (seq_reg ?_)
  simp only [go_sem, binC]
  obtain ⟨d, lv, sv, nv, ls, l, row, H1, k, hx, r1, r2, r3, r4⟩ := gd H _ code hv0
  have hl1 := hx.1
  obtain ⟨_, la0, rfl, _⟩ := id r1
  have osv : one sv = true := by obtain ⟨_, a, rfl, _⟩ := r2; rfl
  obtain ⟨_, na0, rfl, _⟩ := id r4
  refine op_callK (by simp only [go_sem, binC]; exact k) ?_
  simp only [go_sem, binC, osv]
  refine ⟨by omega, ?_⟩
  refine wpc_gen fun H2 hH2 => ?_
  have hb : H2[H1.length]? = some ⟨[.slice la0 ls.length ls.length, sv], 0, 0, false, true⟩ := hH2 ▸ get_new0 _ _
  have hy : AgX [] H1 H2 := hH2 ▸ AgX.app [] _ _
  have hl2 : H2.length = H1.length + 1 := by rw [hH2, List.length_append]; rfl
  replace r1 := r1.mono (agx_sub hy)
  replace r2 := r2.mono (agx_sub hy)
  replace r4 := r4.mono (agx_sub hy)
  clear hH2
  have hls0 : ls.length ≤ 1048576 := r3.1.1
  have hOs : (Co.prog d).sm (turnO d (fun _ => 3) turnLH turnH ls l row) := turnO_sm r3 (by simp [turnLH])
  refine seq_reg ?_
  simp only [go_sem, binC, gc_of hb, inBlk_some, osv]
  obtain ⟨lw, sw, H3, k3, x3, w1, w2⟩ := gs H2 d _ _ _ ls l row r1 r2 r3 r4
  obtain ⟨_, lwa, rfl, _⟩ := id w1
  have osw : one sw = true := by obtain ⟨_, a, rfl, _⟩ := w2; rfl
  have hl3 := x3.1
  refine op_callK (by simp only [go_sem, binC]; exact k3) ?_
  simp only [go_sem, binC, osw]
  refine ⟨by omega, ?_⟩
  refine wpc_gen fun H4 hH4 => ?_
  have x4 : AgX [] H3 H4 := hH4 ▸ AgX.app [] _ _
  have hbw : H4[H3.length]? = some ⟨[.slice lwa (turnO d (fun _ => 3) turnLH turnH ls l row).1.length (turnO d (fun _ => 3) turnLH turnH ls l row).1.length, sw], 0, 0, false, true⟩ := hH4 ▸ get_new0 _ _
  have hl4 : H4.length = H3.length + 1 := by rw [hH4, List.length_append]; rfl
  clear hH4
  have x24 := x3.tr x4
  have hb4 := x24.get hb (by simp)
  replace w1 := w1.mono (agx_sub x4)
  replace w2 := w2.mono (agx_sub x4)
  replace r1 := r1.mono (agx_sub x24)
  replace r2 := r2.mono (agx_sub x24)
  replace r4 := r4.mono (agx_sub x24)
  refine seq_reg ?_
  simp only [go_sem, binC, gc_of hb4, inBlk_some, osv]
  obtain ⟨lq, sq, H5, k5, x5, q1, q2⟩ := gi H4 d _ _ _ ls l row r1 r2 r3 r4
  obtain ⟨_, lqa, rfl, _⟩ := id q1
  have osq : one sq = true := by obtain ⟨_, a, rfl, _⟩ := q2; rfl
  have hl5 := x5.1
  refine op_callK (by simp only [go_sem, binC]; exact k5) ?_
  simp only [go_sem, binC, osq]
  refine ⟨by omega, ?_⟩
  refine wpc_gen fun H6 hH6 => ?_
  have x6 : AgX [] H5 H6 := hH6 ▸ AgX.app [] _ _
  have hbq : H6[H5.length]? = some ⟨[.slice lqa (turnO d (fun _ => 3) turnLH turnH ls l row).1.length (turnO d (fun _ => 3) turnLH turnH ls l row).1.length, sq], 0, 0, false, true⟩ := hH6 ▸ get_new0 _ _
  have hl6 : H6.length = H5.length + 1 := by rw [hH6, List.length_append]; rfl
  clear hH6
  have x46 := x5.tr x6
  have hb6 := x46.get hb4 (by simp)
  have hbw6 := x46.get hbw (by simp)
  replace q1 := q1.mono (agx_sub x6)
  replace q2 := q2.mono (agx_sub x6)
  replace w1 := w1.mono (agx_sub x46)
  replace w2 := w2.mono (agx_sub x46)
  replace r1 := r1.mono (agx_sub x46)
  replace r2 := r2.mono (agx_sub x46)
  replace r4 := r4.mono (agx_sub x46)
  have hEq : QC F 22 [.agg #[.slice lqa (turnO d (fun _ => 3) turnLH turnH ls l row).1.length (turnO d (fun _ => 3) turnLH turnH ls l row).1.length, sq], .agg #[.slice lwa (turnO d (fun _ => 3) turnLH turnH ls l row).1.length (turnO d (fun _ => 3) turnLH turnH ls l row).1.length, sw]] H6 (.bool true) := gl H6 d _ _ _ _ _ _ q1 q2 w1 w2 hOs
  have hx26 : AgX [] H2 H6 := x24.tr x46
  clear k k3 k5
  refine seq_assoc (seq_reg ?_)
  cases hB : turnB d (fun _ => 3) ls l row with
  | false =>
    simp only [go_sem, binC, hB, beq_self_eq_true, gc_of hbq, gc_of hbw6, inBlk_some, osq, osw]
    refine op_callQ (by simp only [go_sem, binC]; exact hEq) ?_
    simp only [go_sem, binC, hB]
    refine seq_cond (t := true) rfl ?_
    simp only [go_sem, binC]
    refine seq_assoc (seq_reg ?_)
    simp only [go_sem, binC, hB, beq_self_eq_true, gc_of hbq, gc_of hbw6, inBlk_some, osq, osw]
    refine op_callQ (by simp only [go_sem, binC]; exact hEq) ?_
    simp only [go_sem, binC]
    exact seq_ret ⟨Or.inr rfl, .bool true, by simp only [go_sem, binC], rfl, rfl⟩
  | true =>
  simp only [go_sem, binC, hB, beq_self_eq_true, gc_of hbq, gc_of hbw6, inBlk_some, osq, osw]
  refine op_callQ (by simp only [go_sem, binC]; exact hEq) ?_
  simp only [go_sem, binC, hB]
  refine seq_cond (t := false) rfl ?_
  simp only [go_sem, binC]
  have hPR : (progB d (ls, l) && rowB row 3) = true := hB
  rw [Bool.and_eq_true] at hPR
  obtain ⟨hP, hR⟩ := hPR
  have hO : turnO d (fun _ => 3) turnLH turnH ls l row = (turnLH row ls, l.map (mapT (turnH row) d)) := if_pos hB
  clear hEq w1 w2 hbw6 hbw
  rw [hO] at q1 q2 hbq hOs
  simp only at q1 q2 hbq
  have hls4 : ls.length ≤ 4 := by
    have := hP
    simp only [progB, Bool.and_eq_true, decide_eq_true_eq] at this; have := this.1.1.1; omega
  obtain ⟨hr1, hr2, hr3⟩ := rowB_iff.1 hR
  have hlH6 : H.length ≤ H6.length := by have := hx26.1; omega
  refine seq_skip (seq_reg ?_)
  simp only [go_sem, binC]
  refine wpc_gen fun H7 hH7 => ?_
  have x7 : AgX [] H6 H7 := hH7 ▸ AgX.app [] _ _
  have hO7 : OwnL Co.int 1 3 H6.length [] H7 H6.length true [] := hH7 ▸ OwnG.nil (Nat.le_refl _)
  clear hH7
  refine seq_assoc (seq_reg ?_)
  simp only [go_sem, binC]
  refine seq_block (wpc_loop ?_)
  suffices hh : ∀ (k i : Nat) (e : Env) (Hc : Heap) (b : Nat) (so : Bool), i + k = ls.length → AgX [] H6 Hc → OwnL Co.int 1 3 H6.length [] Hc b so (nmL more.length i) → e 1 = .slice am more.length more.length → e 5 = ptr H1.length 0 → e 6 = .slice na0 row.length row.length → e 9 = ptr H5.length 0 → e 11 = sli b 0 i → e 12 = .int .i64 i → W F H.length _ e Hc _ from
    hh ls.length 0 _ H7 H6.length true (by omega) x7 hO7 (by simp only [go_sem, binC]) (by simp only [go_sem, binC]) (by simp only [go_sem, binC]) (by simp only [go_sem, binC]) (by simp only [go_sem, binC]) (by (simp only [go_sem, binC]) <;> rfl)
  intro k
  induction k with
  | succ k ih =>
    intro i e Hc b so hi hxc hOc e1 e5 e6 e9 e11 e12
    have hil : i < ls.length := by omega
    have hw1 : IntKind.i64.wrap ((i : Int) + 1) = ((i + 1 : Nat) : Int) := by rw [wrap_id (by omega) (by omega)]; omega
    have hw3 : IntKind.i64.wrap ((i : Int) * 3) = (i : Int) * 3 := wrap_id (by omega) (by omega)
    have hwa : IntKind.i64.wrap ((more.length : Int) + (i : Int) * 3) = (more.length : Int) + (i : Int) * 3 := wrap_id (by omega) (by omega)
    have hrm := binI_remJ (x := (more.length : Int) + (i : Int) * 3) (by omega)
    have hbc := hxc.get hb6 (by simp)
    have hHc := hxc.1
    refine lp_step ?_
    refine seq_assoc (seq_reg ?_)
    simp only [go_sem, binC, e5, e12, gc_of hbc, inBlk_some]
    refine seq_cond (t := true) (by simp only [go_sem, binC]; rw [decide_eq_true (by omega)]) ?_
    simp only [go_sem, binC]
    refine seq_skip (seq_block (wpc_reg ?_))
    simp only [go_sem, binC, e1, e11, e12, hw3, hwa, hrm]
    refine op_app_own (A := Co.int) (lo := H6.length) (a := ((more.length : Int) + (i : Int) * 3) % 10) hOc (by simp only [go_sem, binC, e11, nmL_len]) (by (simp only [go_sem, binC]) <;> rfl) (by omega) rfl ⟨rfl, by omega, by omega⟩ (by rw [nmL_len]; omega) (by omega) (by simp) fun H8 hx8 hO8 => ?_
    simp only [go_sem, binC, out_n, thenX_n]
    refine wpc_reg ?_
    simp only [go_sem, binC, e12, hw1]
    simp only [go_sem, binC, thenX_n]
    rw [nmL_succ] at hO8
    have hbl := hOc.1
    exact ih (i + 1) _ H8 (Hc.length + 1) _ (by omega) (hxc.trans hx8 (fun _ h _ => h) (fun b' h1 h2 => by simp only [List.mem_singleton] at h1; omega)) hO8 (by simp only [go_sem, binC, e1]) (by simp only [go_sem, binC, e5]) (by simp only [go_sem, binC, e6]) (by simp only [go_sem, binC, e9]) (by simp only [go_sem, binC, nmL_len]) (by simp only [go_sem, binC])
  | zero =>
    intro i e Hc b so hi hxc hOc e1 e5 e6 e9 e11 e12
    obtain rfl : i = ls.length := by omega
    have hbc := hxc.get hb6 (by simp)
    have hbqc := hxc.get hbq (by simp)
    refine lp_step ?_
    refine seq_assoc (seq_reg ?_)
    simp only [go_sem, binC, e5, e12, gc_of hbc, inBlk_some]
    refine seq_cond (t := false) (by simp only [go_sem, binC]; rw [decide_eq_false (by omega)]) ?_
    simp only [go_sem, binC]
    refine seq_exit ?_
    simp only [go_sem, binC, thenX_e, out_e, thenX_n]
    have hHc := hxc.1
    have rowN : SlR Co.int (vw 0 Hc) (sli b 0 (nmL more.length ls.length).length) (nmL more.length ls.length) := (hOc.slR rfl (by simp)).mono (vwl0 _ _ _)
    rw [nmL_len] at rowN
    have hN := numsB_nm hP more.length
    have hbd := RunOk.bd (nums := nmL more.length ls.length) hP r3
    obtain ⟨hT1, hT2⟩ := runOf_turn (nums := nmL more.length ls.length) hP hR
    have hNq : numsB d (turnLH row ls, l.map (mapT (turnH row) d)) (nmL more.length ls.length) = true := by
      have := numsB_nm (turnP_ok hP hR) more.length
      rwa [turnLH_len] at this
    generalize nmL more.length ls.length = nums at rowN hN hbd hT1 hT2 hNq
    obtain ⟨nx, wx, tx, H8, k8, x8, s1, s2, s3⟩ := gr Hc d _ _ _ ls l nums (r1.mono (agx_sub hxc)) (r2.mono (agx_sub hxc)) r3 rowN
    rw [hN] at k8
    obtain ⟨_, nxa, rfl, _⟩ := id s1
    obtain ⟨_, wxa, rfl, _⟩ := id s2
    obtain ⟨_, txa, rfl, _⟩ := id s3
    have hl8 := x8.1
    refine seq_reg ?_
    simp only [go_sem, binC, e5, e11, gc_of hbc, inBlk_some, osv]
    refine op_callK (by simp only [go_sem, binC, e11]; exact k8) ?_
    simp only [go_sem, binC]
    refine ⟨by omega, ?_⟩
    refine wpc_gen fun H9 hh => ?_
    have x9 : AgX [] H8 H9 := hh ▸ AgX.app [] _ _
    have hbx := (hh ▸ get_new0 _ _ : H9[H8.length]? = some ⟨[.slice nxa (runOf d (ls, l) nums).1.length (runOf d (ls, l) nums).1.length, .slice wxa (runOf d (ls, l) nums).2.1.length (runOf d (ls, l) nums).2.1.length, .slice txa (runOf d (ls, l) nums).2.2.length (runOf d (ls, l) nums).2.2.length], 0, 0, false, true⟩)
    clear hh
    have xc9 := x8.tr x9
    have hx69 := hxc.tr xc9
    have hbq9 := xc9.get hbqc (by simp)
    have hl9 := x9.1
    obtain ⟨ny, wy, ty, H10, k10, x10, u1, u2, u3⟩ := gr H9 d _ _ _ _ _ nums (q1.mono (agx_sub hx69)) (q2.mono (agx_sub hx69)) hOs (rowN.mono (agx_sub xc9))
    rw [hNq] at k10
    rw [hT1] at u1 u2 u3
    obtain ⟨_, nya, rfl, _⟩ := id u1
    obtain ⟨_, wya, rfl, _⟩ := id u2
    obtain ⟨_, tya, rfl, _⟩ := id u3
    have hl10 := x10.1
    refine seq_reg ?_
    simp only [go_sem, binC, e9, e11, gc_of hbq9, inBlk_some, osq]
    refine op_callK (by simp only [go_sem, binC, e11]; exact k10) ?_
    simp only [go_sem, binC]
    refine ⟨by omega, ?_⟩
    refine wpc_gen fun H11 hh => ?_
    have x11 : AgX [] H10 H11 := hh ▸ AgX.app [] _ _
    have hby := (hh ▸ get_new0 _ _ : H11[H10.length]? = some ⟨[.slice nya (Mh row (runOf d (ls, l) nums)).1.length (Mh row (runOf d (ls, l) nums)).1.length, .slice wya (Mh row (runOf d (ls, l) nums)).2.1.length (Mh row (runOf d (ls, l) nums)).2.1.length, .slice tya (Mh row (runOf d (ls, l) nums)).2.2.length (Mh row (runOf d (ls, l) nums)).2.2.length], 0, 0, false, true⟩)
    clear hh
    have x911 := x10.tr x11
    have hbx11 := x911.get hbx (by simp)
    have x611 := hx69.tr x911
    have hx8_11 := x9.tr x911
    replace s1 := s1.mono (agx_sub hx8_11)
    replace s2 := s2.mono (agx_sub hx8_11)
    replace s3 := s3.mono (agx_sub hx8_11)
    replace u1 := u1.mono (agx_sub x11)
    replace u2 := u2.mono (agx_sub x11)
    replace u3 := u3.mono (agx_sub x11)
    have rr := r4.mono (agx_sub x611)
    have e0 : (Mh row (runOf d (ls, l) nums)).1 = (runOf d (ls, l) nums).1 := rfl
    have e0' : (Mh row (runOf d (ls, l) nums)).2.1 = (runOf d (ls, l) nums).2.1 := rfl
    have e0'' : (Mh row (runOf d (ls, l) nums)).2.2 = (runOf d (ls, l) nums).2.2.map fun w => (nameO row w.1, w.2) := rfl
    rw [e0] at u1 hby
    rw [e0'] at u2 hby
    clear k8 k10 hT1 hN hNq
    generalize hMr : Mh row (runOf d (ls, l) nums) = mr at *
    generalize runOf d (ls, l) nums = rx at *
    refine seq_assoc (seq_reg ?_)
    simp only [go_sem, binC]
    refine seq_block (wpc_loop ?_)
    suffices hh : ∀ (m j : Nat) (e : Env) (Hd : Heap), j + m = 3 → AgX [] H11 Hd → e 6 = .slice na0 row.length row.length → e 13 = ptr H8.length 0 → e 14 = .bool true → e 15 = ptr H10.length 0 → e 16 = .bool true → e 17 = .int .i64 j → W F H.length _ e Hd _ from
      hh 3 0 _ H11 rfl (AgX.refl _ _) (by simp only [go_sem, binC, e6]) (by simp only [go_sem, binC]) (by simp only [go_sem, binC]) (by simp only [go_sem, binC]) (by simp only [go_sem, binC]) (by (simp only [go_sem, binC]) <;> rfl)
    intro m
    induction m with
    | zero =>
      intro j e Hd hj hxd f6 f13 f14 f15 f16 f17
      obtain rfl : j = 3 := hj
      have hbxd := hxd.get hbx11 (by simp)
      have hbyd := hxd.get hby (by simp)
      have hd3 : decide (((3 : Nat) : Int) < 3) = false := rfl
      refine lp_step ?_
      refine seq_assoc (seq_reg ?_)
      simp only [go_sem, binC, f17, hd3]
      refine seq_cond (t := false) (by simp only [go_sem, binC]) ?_
      simp only [go_sem, binC]
      refine seq_exit ?_
      simp only [go_sem, binC, thenX_e, out_e, thenX_n]
      refine seq_reg ?_
      simp only [go_sem, binC, f13, f14, f15, f16, gc_of hbxd, gc_of hbyd, inBlk_some]
      have h1 := gli Hd _ _ _ _ (s1.mono (agx_sub hxd)) (u1.mono (agx_sub hxd))
      rw [decide_eq_true rfl] at h1
      refine op_callQ (by simp only [go_sem, binC]; exact h1) ?_
      simp only [go_sem, binC, f13, f15, gc_of hbxd, gc_of hbyd, inBlk_some]
      have h2 := glw Hd _ _ _ _ (s2.mono (agx_sub hxd)) (u2.mono (agx_sub hxd))
      rw [decide_eq_true rfl] at h2
      refine op_callQ (by simp only [go_sem, binC]; exact h2) ?_
      simp only [go_sem, binC]
      exact wpc_ret ⟨Or.inr rfl, .bool true, by simp only [go_sem, binC], rfl, rfl⟩
    | succ m ihm =>
      intro j e Hd hj hxd f6 f13 f14 f15 f16 f17
      have hw2 : IntKind.i64.wrap ((j : Int) + 1) = ((j + 1 : Nat) : Int) := by rw [wrap_id (by omega) (by omega)]; omega
      have hdj : decide ((j : Int) < 3) = true := decide_eq_true (by omega)
      have hbxd := hxd.get hbx11 (by simp)
      have hjr : j < row.length := by omega
      refine lp_step ?_
      refine seq_assoc (seq_reg ?_)
      simp only [go_sem, binC, f17, hdj]
      refine seq_cond (t := true) (by simp only [go_sem, binC]) ?_
      simp only [go_sem, binC]
      refine seq_skip (seq_block (seq_regD ?_))
      simp only [go_sem, binC, f13, f17, gc_of hbxd, inBlk_some]
      obtain ⟨za, H12, k12, x12, z12⟩ := gtl Hd (.slice nxa rx.1.length rx.1.length) (.slice wxa rx.2.1.length rx.2.1.length) (.slice txa rx.2.2.length rx.2.2.length) rx j rfl rfl (s3.mono (agx_sub hxd)) hbd (p2_rg s3)
      refine op_callK (by simp only [go_sem, binC]; exact k12) ?_
      have hbyd := (hxd.tr x12).get hby (by simp)
      have rrd := rr.mono (agx_sub (hxd.tr x12))
      obtain ⟨rb, ro, hrv, hrg⟩ := gcI rrd hjr
      simp only [Value.slice.injEq, and_true] at hrv
      subst hrv
      simp only [go_sem, binC, f6, f15, f17, gc_of hbyd, inBlk_some]
      refine ⟨⟨by omega, by omega⟩, ?_⟩
      simp only [go_sem, binC, Int.toNat_natCast, Nat.mul_one, hrg]
      have hu3 := u3.mono (agx_sub (hxd.tr x12))
      obtain ⟨zb, H13, k13, x13, z13⟩ := gtl H12 (.slice nya rx.1.length rx.1.length) (.slice wya rx.2.1.length rx.2.1.length) (.slice tya mr.2.2.length mr.2.2.length) mr row[j] rfl rfl hu3 (by rw [e0'', List.length_map]; exact hbd) (p2_rg u3)
      refine op_callK (by simp only [go_sem, binC]; exact k13) ?_
      simp only [go_sem, binC]
      have hnj : row[j] = nameO row j := by
        have := (nameO_get hR (x := (j : Int)) (by omega)).2.1
        rw [this]
        congr 1
      have hte : toldL j rx.2.2 = toldL row[j] mr.2.2 := by
        rw [hnj, e0'', toldL_turn hR hT2 (by omega)]
      have hin := gli H13 _ _ _ _ (z12.mono (agx_sub x13)) z13
      rw [decide_eq_true hte] at hin
      refine op_callQ (by simp only [go_sem, binC]; exact hin) ?_
      simp only [go_sem, binC]
      refine wpc_cond (t := false) rfl ?_
      simp only [go_sem, binC]
      refine wpc_skip ?_
      simp only [go_sem, binC, out_n, thenX_n]
      refine wpc_reg ?_
      simp only [go_sem, binC, f17, hw2]
      simp only [go_sem, binC, thenX_n]
      exact ihm (j + 1) _ H13 (by omega) (hxd.tr (x12.tr x13)) (by simp only [go_sem, binC, f6]) (by simp only [go_sem, binC, f13]) (by simp only [go_sem, binC, f14]) (by simp only [go_sem, binC, f15]) (by simp only [go_sem, binC, f16]) (by simp only [go_sem, binC])
end Go.Proofs.YtemnemmnfnpnoaaI
end
section
/- The functions that the law FnTurnRun reaches, as ideal functions. -/
set_option linter.unusedVariables false
set_option linter.unusedSimpArgs false
namespace Go.Proofs.YtemnemmnfnpnoaaI
open Go Go.RowKit
def fnOf : Nat → Option IFn
  | 10 => some (c_lawTR)
  | 22 => some (c_lcProg)
  | 24 => some (c_iProg)
  | 25 => some (c_sTurnProg)
  | 26 => some (c_iTurnProg)
  | 27 => some (c_drTP)
  | 29 => some (c_sProg)
  | 32 => some (c_iRunOf)
  | 33 => some (c_lcInts)
  | 34 => some (c_iRunTo)
  | 35 => some (c_lcWrites)
  | 38 => some (c_sRow)
  | 42 => some (c_iRow)
  | 43 => some (c_pclone)
  | 44 => some (c_change)
  | 52 => some (c_l6Open)
  | 53 => some (c_drAny)
  | 54 => some (c_drRow)
  | 55 => some (c_lcSteps)
  | 56 => some (c_con)
  | 57 => some (c_p1)
  | 58 => some (c_iLabelOk)
  | 59 => some (c_iSteps)
  | 60 => some (c_iSize)
  | 61 => some (c_sHosts)
  | 62 => some (c_sTSet)
  | 63 => some (c_turned)
  | 64 => some (c_tp1)
  | 65 => some (c_sLabelOk)
  | 66 => some (c_sSteps)
  | 67 => some (c_sCount)
  | 69 => some (c_iNums)
  | 70 => some (c_cloneInts)
  | 71 => some (c_do)
  | 72 => some (c_clone)
  | 76 => some (c_iIn)
  | 77 => some (c_conInt)
  | 78 => some (c_cloneSteps)
  | 81 => some (c_drProg)
  | 82 => some (c_pick)
  | 83 => some (c_drFine)
  | 84 => some (c_drBent)
  | 85 => some (c_idx)
  | 86 => some (c_iSet)
  | 87 => some (c_iVar)
  | 88 => some (c_iVal)
  | 89 => some (c_iHost)
  | 90 => some (c_sSet)
  | 91 => some (c_sHas)
  | 92 => some (c_iHas)
  | 93 => some (c_sStep)
  | 98 => some (c_iNum)
  | 99 => some (c_vars)
  | 100 => some (c_set)
  | 101 => some (c_of)
  | 103 => some (c_ixInt)
  | 105 => some (c_drLabel)
  | 106 => some (c_drSteps)
  | 107 => some (c_sWhy)
  | 108 => some (c_sWithout)
  | 109 => some (c_sCopy)
  | 110 => some (c_sIn)
  | 111 => some (c_sAll)
  | 112 => some (c_sVar)
  | 113 => some (c_sVal)
  | 118 => some (c_drVal)
  | 119 => some (c_sAllSteps)
  | 120 => some (c_sTypeAt)
  | 121 => some (c_sFine)
  | 122 => some (c_sAt)
  | 123 => some (c_sAny)
  | 124 => some (c_sFlows)
  | 125 => some (c_sLBoth)
  | 126 => some (c_sValL)
  | 127 => some (c_sBoth)
  | 128 => some (c_sWithin)
  | _ => none
def cmOf (f : Nat) : CM := ⟨fun g => if [10, 22, 24, 29, 33, 35, 38, 42, 55, 56, 57, 58, 59, 60, 62, 63, 65, 66, 67, 69, 76, 77, 85, 86, 87, 88, 89, 90, 91, 92, 93, 98, 101, 103, 107, 110, 111, 112, 113, 121, 123, 124, 125, 126, 127, 128].contains g then .q else if [44, 52, 53, 54, 64, 71, 81, 82, 83, 84, 100, 105, 106, 118, 122].contains g then .n else .k, if [44, 52, 53, 54, 64, 71, 81, 82, 83, 84, 100, 105, 106, 118, 122].contains f then .n else .q, [78].contains f⟩
theorem hF10 : cFn Try.prog cmOf 10 = some (c_lawTR) := by kernel_rfl
theorem hF22 : cFn Try.prog cmOf 22 = some (c_lcProg) := by kernel_rfl
theorem hF24 : cFn Try.prog cmOf 24 = some (c_iProg) := by kernel_rfl
theorem hF25 : cFn Try.prog cmOf 25 = some (c_sTurnProg) := by kernel_rfl
theorem hF26 : cFn Try.prog cmOf 26 = some (c_iTurnProg) := by kernel_rfl
theorem hF27 : cFn Try.prog cmOf 27 = some (c_drTP) := by kernel_rfl
theorem hF29 : cFn Try.prog cmOf 29 = some (c_sProg) := by kernel_rfl
theorem hF32 : cFn Try.prog cmOf 32 = some (c_iRunOf) := by kernel_rfl
theorem hF33 : cFn Try.prog cmOf 33 = some (c_lcInts) := by kernel_rfl
theorem hF34 : cFn Try.prog cmOf 34 = some (c_iRunTo) := by kernel_rfl
theorem hF35 : cFn Try.prog cmOf 35 = some (c_lcWrites) := by kernel_rfl
theorem hF38 : cFn Try.prog cmOf 38 = some (c_sRow) := by kernel_rfl
theorem hF42 : cFn Try.prog cmOf 42 = some (c_iRow) := by kernel_rfl
theorem hF43 : cFn Try.prog cmOf 43 = some (c_pclone) := by kernel_rfl
theorem hF44 : cFn Try.prog cmOf 44 = some (c_change) := by kernel_rfl
theorem hF52 : cFn Try.prog cmOf 52 = some (c_l6Open) := by kernel_rfl
theorem hF53 : cFn Try.prog cmOf 53 = some (c_drAny) := by kernel_rfl
theorem hF54 : cFn Try.prog cmOf 54 = some (c_drRow) := by kernel_rfl
theorem hF55 : cFn Try.prog cmOf 55 = some (c_lcSteps) := by kernel_rfl
theorem hF56 : cFn Try.prog cmOf 56 = some (c_con) := by kernel_rfl
theorem hF57 : cFn Try.prog cmOf 57 = some (c_p1) := by kernel_rfl
theorem hF58 : cFn Try.prog cmOf 58 = some (c_iLabelOk) := by kernel_rfl
theorem hF59 : cFn Try.prog cmOf 59 = some (c_iSteps) := by kernel_rfl
theorem hF60 : cFn Try.prog cmOf 60 = some (c_iSize) := by kernel_rfl
theorem hF61 : cFn Try.prog cmOf 61 = some (c_sHosts) := by kernel_rfl
theorem hF62 : cFn Try.prog cmOf 62 = some (c_sTSet) := by kernel_rfl
theorem hF63 : cFn Try.prog cmOf 63 = some (c_turned) := by kernel_rfl
theorem hF64 : cFn Try.prog cmOf 64 = some (c_tp1) := by kernel_rfl
theorem hF65 : cFn Try.prog cmOf 65 = some (c_sLabelOk) := by kernel_rfl
theorem hF66 : cFn Try.prog cmOf 66 = some (c_sSteps) := by kernel_rfl
theorem hF67 : cFn Try.prog cmOf 67 = some (c_sCount) := by kernel_rfl
theorem hF69 : cFn Try.prog cmOf 69 = some (c_iNums) := by kernel_rfl
theorem hF70 : cFn Try.prog cmOf 70 = some (c_cloneInts) := by kernel_rfl
theorem hF71 : cFn Try.prog cmOf 71 = some (c_do) := by kernel_rfl
theorem hF72 : cFn Try.prog cmOf 72 = some (c_clone) := by kernel_rfl
theorem hF76 : cFn Try.prog cmOf 76 = some (c_iIn) := by kernel_rfl
theorem hF77 : cFn Try.prog cmOf 77 = some (c_conInt) := by kernel_rfl
theorem hF78 : cFn Try.prog cmOf 78 = some (c_cloneSteps) := by kernel_rfl
theorem hF81 : cFn Try.prog cmOf 81 = some (c_drProg) := by kernel_rfl
theorem hF82 : cFn Try.prog cmOf 82 = some (c_pick) := by kernel_rfl
theorem hF83 : cFn Try.prog cmOf 83 = some (c_drFine) := by kernel_rfl
theorem hF84 : cFn Try.prog cmOf 84 = some (c_drBent) := by kernel_rfl
theorem hF85 : cFn Try.prog cmOf 85 = some (c_idx) := by kernel_rfl
theorem hF86 : cFn Try.prog cmOf 86 = some (c_iSet) := by kernel_rfl
theorem hF87 : cFn Try.prog cmOf 87 = some (c_iVar) := by kernel_rfl
theorem hF88 : cFn Try.prog cmOf 88 = some (c_iVal) := by kernel_rfl
theorem hF89 : cFn Try.prog cmOf 89 = some (c_iHost) := by kernel_rfl
theorem hF90 : cFn Try.prog cmOf 90 = some (c_sSet) := by kernel_rfl
theorem hF91 : cFn Try.prog cmOf 91 = some (c_sHas) := by kernel_rfl
theorem hF92 : cFn Try.prog cmOf 92 = some (c_iHas) := by kernel_rfl
theorem hF93 : cFn Try.prog cmOf 93 = some (c_sStep) := by kernel_rfl
theorem hF98 : cFn Try.prog cmOf 98 = some (c_iNum) := by kernel_rfl
theorem hF99 : cFn Try.prog cmOf 99 = some (c_vars) := by kernel_rfl
theorem hF100 : cFn Try.prog cmOf 100 = some (c_set) := by kernel_rfl
theorem hF101 : cFn Try.prog cmOf 101 = some (c_of) := by kernel_rfl
theorem hF103 : cFn Try.prog cmOf 103 = some (c_ixInt) := by kernel_rfl
theorem hF105 : cFn Try.prog cmOf 105 = some (c_drLabel) := by kernel_rfl
theorem hF106 : cFn Try.prog cmOf 106 = some (c_drSteps) := by kernel_rfl
theorem hF107 : cFn Try.prog cmOf 107 = some (c_sWhy) := by kernel_rfl
theorem hF108 : cFn Try.prog cmOf 108 = some (c_sWithout) := by kernel_rfl
theorem hF109 : cFn Try.prog cmOf 109 = some (c_sCopy) := by kernel_rfl
theorem hF110 : cFn Try.prog cmOf 110 = some (c_sIn) := by kernel_rfl
theorem hF111 : cFn Try.prog cmOf 111 = some (c_sAll) := by kernel_rfl
theorem hF112 : cFn Try.prog cmOf 112 = some (c_sVar) := by kernel_rfl
theorem hF113 : cFn Try.prog cmOf 113 = some (c_sVal) := by kernel_rfl
theorem hF118 : cFn Try.prog cmOf 118 = some (c_drVal) := by kernel_rfl
theorem hF119 : cFn Try.prog cmOf 119 = some (c_sAllSteps) := by kernel_rfl
theorem hF120 : cFn Try.prog cmOf 120 = some (c_sTypeAt) := by kernel_rfl
theorem hF121 : cFn Try.prog cmOf 121 = some (c_sFine) := by kernel_rfl
theorem hF122 : cFn Try.prog cmOf 122 = some (c_sAt) := by kernel_rfl
theorem hF123 : cFn Try.prog cmOf 123 = some (c_sAny) := by kernel_rfl
theorem hF124 : cFn Try.prog cmOf 124 = some (c_sFlows) := by kernel_rfl
theorem hF125 : cFn Try.prog cmOf 125 = some (c_sLBoth) := by kernel_rfl
theorem hF126 : cFn Try.prog cmOf 126 = some (c_sValL) := by kernel_rfl
theorem hF127 : cFn Try.prog cmOf 127 = some (c_sBoth) := by kernel_rfl
theorem hF128 : cFn Try.prog cmOf 128 = some (c_sWithin) := by kernel_rfl
theorem hF (g : Nat) (fn : IFn) (h : fnOf g = some fn) : cFn Try.prog cmOf g = some fn := by
  unfold fnOf at h
  split at h
  · rw [← h]; exact hF10
  · rw [← h]; exact hF22
  · rw [← h]; exact hF24
  · rw [← h]; exact hF25
  · rw [← h]; exact hF26
  · rw [← h]; exact hF27
  · rw [← h]; exact hF29
  · rw [← h]; exact hF32
  · rw [← h]; exact hF33
  · rw [← h]; exact hF34
  · rw [← h]; exact hF35
  · rw [← h]; exact hF38
  · rw [← h]; exact hF42
  · rw [← h]; exact hF43
  · rw [← h]; exact hF44
  · rw [← h]; exact hF52
  · rw [← h]; exact hF53
  · rw [← h]; exact hF54
  · rw [← h]; exact hF55
  · rw [← h]; exact hF56
  · rw [← h]; exact hF57
  · rw [← h]; exact hF58
  · rw [← h]; exact hF59
  · rw [← h]; exact hF60
  · rw [← h]; exact hF61
  · rw [← h]; exact hF62
  · rw [← h]; exact hF63
  · rw [← h]; exact hF64
  · rw [← h]; exact hF65
  · rw [← h]; exact hF66
  · rw [← h]; exact hF67
  · rw [← h]; exact hF69
  · rw [← h]; exact hF70
  · rw [← h]; exact hF71
  · rw [← h]; exact hF72
  · rw [← h]; exact hF76
  · rw [← h]; exact hF77
  · rw [← h]; exact hF78
  · rw [← h]; exact hF81
  · rw [← h]; exact hF82
  · rw [← h]; exact hF83
  · rw [← h]; exact hF84
  · rw [← h]; exact hF85
  · rw [← h]; exact hF86
  · rw [← h]; exact hF87
  · rw [← h]; exact hF88
  · rw [← h]; exact hF89
  · rw [← h]; exact hF90
  · rw [← h]; exact hF91
  · rw [← h]; exact hF92
  · rw [← h]; exact hF93
  · rw [← h]; exact hF98
  · rw [← h]; exact hF99
  · rw [← h]; exact hF100
  · rw [← h]; exact hF101
  · rw [← h]; exact hF103
  · rw [← h]; exact hF105
  · rw [← h]; exact hF106
  · rw [← h]; exact hF107
  · rw [← h]; exact hF108
  · rw [← h]; exact hF109
  · rw [← h]; exact hF110
  · rw [← h]; exact hF111
  · rw [← h]; exact hF112
  · rw [← h]; exact hF113
  · rw [← h]; exact hF118
  · rw [← h]; exact hF119
  · rw [← h]; exact hF120
  · rw [← h]; exact hF121
  · rw [← h]; exact hF122
  · rw [← h]; exact hF123
  · rw [← h]; exact hF124
  · rw [← h]; exact hF125
  · rw [← h]; exact hF126
  · rw [← h]; exact hF127
  · rw [← h]; exact hF128
  · cases h
theorem hMixed : Try.prog.follows .mixedOrders = true := by kernel_rfl
theorem ok_iIn : ∀ (H : Heap) (a b c : Int), QC fnOf 76 [.int .i64 a, .int .i64 b, .int .i64 c] H (.bool (inB a b c)) := iIn_ok rfl
theorem ok_sIn : ∀ (H : Heap) (a b c : Int), QC fnOf 110 [.int .i64 a, .int .i64 b, .int .i64 c] H (.bool (inB a b c)) := sIn_ok rfl
theorem ok_iSet : ∀ (H : Heap) (a : Int), QC fnOf 86 [.int .i64 a] H (.bool (inB a 0 7)) := iSet_ok rfl ok_iIn
theorem ok_iHost : ∀ (H : Heap) (a : Int), QC fnOf 89 [.int .i64 a] H (.bool (inB a 0 2)) := iHost_ok rfl ok_iIn
theorem ok_iNum : ∀ (H : Heap) (a : Int), QC fnOf 98 [.int .i64 a] H (.bool (inB a 0 9)) := iNum_ok rfl ok_iIn
theorem ok_sAll : ∀ H, QC fnOf 111 [] H (.int .i64 7) := sAll_ok rfl
theorem ok_sSet : ∀ (H : Heap) (a : Int), QC fnOf 90 [.int .i64 a] H (.bool (inB a 0 7)) := sSet_ok rfl ok_sIn ok_sAll
theorem ok_iLabelOk : LabOk fnOf 58 := iLabelOk_ok rfl ok_iSet
theorem ok_sLabelOk : LabOk fnOf 65 := sLabelOk_ok rfl ok_sSet
theorem ok_iVar : VarOk fnOf 87 := iVar_ok rfl ok_iIn
theorem ok_sVar : VarOk fnOf 112 := sVar_ok rfl ok_sIn
theorem ok_iVal : ValOk fnOf 88 := iVal_ok rfl ok_iNum ok_iVar
theorem ok_sVal : ValOk fnOf 113 := sVal_ok rfl ok_sIn ok_sVar
theorem ok_sSteps : ∀ n, StepsOk fnOf 66 n := fun n => (sSteps_all rfl rfl ok_sIn ok_sVar ok_sVal n).1
theorem ok_iSteps : ∀ n, StepsOk fnOf 59 n := iSteps_all rfl ok_iVar ok_iVal ok_iHost
theorem ok_sCount : ∀ n, CntOk fnOf 67 n := cnt_all (fun _ h => sCount_ok rfl h) (sCount_z rfl)
theorem ok_iSize : ∀ n, CntOk fnOf 60 n := cnt_all (fun _ h => iSize_ok rfl h) (iSize_z rfl)
theorem ok_sProg : ProgOk fnOf 29 := sProg_ok rfl ok_sLabelOk ok_sSteps ok_sCount
theorem ok_iProg : ProgOk fnOf 24 := iProg_ok rfl (con_ok rfl (idx_ok rfl (p1_ok rfl ok_iLabelOk))) ok_iSteps ok_iSize
theorem ok_sHas : HasOk fnOf 91 := sHas_ok rfl
theorem ok_sWit : WitOk fnOf 128 := sWithin_ok rfl ok_sHas
theorem ok_sBoth : BothOk fnOf 127 := sBoth_ok rfl ok_sHas
theorem ok_sLBoth : LBothOk fnOf 125 := sLBoth_ok rfl ok_sLabelOk ok_sBoth
theorem ok_sFlows : FlowsOk fnOf 124 := sFlows_ok rfl ok_sLabelOk ok_sWit
theorem ok_sAny : ∀ H, QC fnOf 123 [] H (.agg #[.int .i64 7, .int .i64 7]) := sAny_ok rfl ok_sAll
theorem ok_sFine : FineOk fnOf 121 := sFine_ok rfl (sValL_ok rfl ok_sAny ok_sLBoth) ok_sLBoth ok_sFlows ok_sBoth ok_sHas
theorem ok_sAllSteps : ∀ n, AllOk fnOf 119 n := sAllSteps_all rfl
theorem ok_sAt : ∀ n, AtOk fnOf 122 n := sAt_all rfl ok_sLBoth
theorem ok_sTypeAt : TypeAtOk fnOf 120 := sTypeAt_ok rfl ok_sProg ok_sAny ok_sAt
theorem ok_sWhy : WhyOk fnOf 107 := sWhy_ok rfl ok_sProg ok_sAllSteps ok_sTypeAt ok_sFine
theorem ok_sCopy : ∀ n, CopyOk fnOf 109 n := sCopy_all rfl
theorem ok_sWithout : ∀ n, WoOk fnOf 108 n := sWithout_all rfl ok_sCount
theorem ok_drProg {H0 : Heap} {rb : Nat} {bv : Value} {code : List Int} (hc : RdC H0 rb bv code) : DrawS fnOf H0 rb bv 81 [] 40000 (ProgQ 3) := drProg_ok rfl rfl rfl rfl rfl ok_sProg hc
theorem ok_drFine {H0 : Heap} {rb : Nat} {bv : Value} {code : List Int} (hc : RdC H0 rb bv code) : DrawS fnOf H0 rb bv 83 [] 40000 (ProgQ 3) := drFine_ok rfl hc (ok_drProg hc) ok_sWhy ok_sWithout
theorem ok_drAny {H0 : Heap} {rb : Nat} {bv : Value} {code : List Int} (hc : RdC H0 rb bv code) : DrawS fnOf H0 rb bv 53 [] 90000 ProgR := drAny_ok rfl rfl hc (ok_drProg hc) (ok_drFine hc) (drBent_ok rfl rfl ok_sCopy hc)
theorem ok_ixInt : ∀ (H : Heap) (v : Value) (l : List Int) (x : Int), SlR Co.int (vw 0 H) v l → QC fnOf 77 [v, .int .i64 x] H (.bool (decide (x ∈ l))) := conInt_ok rfl rfl
theorem ok_iRow : RowOk fnOf 42 := iRow_ok rfl ok_iIn ok_ixInt
theorem ok_sRow : RowOk fnOf 38 := sRow_ok rfl
theorem ok_pclone : PCloneOk fnOf 43 := pclone_ok rfl (cloneSteps_all rfl)
theorem ok_lcProg : SamePOk fnOf 22 := lcProg_ok rfl (lcSteps_all rfl)
theorem ok_iHas : HasOk fnOf 92 := iHas_ok rfl ok_iHost
theorem ok_sTSet : TSetOk fnOf 62 := sTSet_ok rfl ok_sHas ok_sSet ok_sRow
theorem ok_iTurnProg : TurnPOk fnOf 26 (fun _ => 3) turnLH turnH := iTurnProg_ok rfl ok_iProg ok_iRow ok_pclone rfl rfl (turned_ok rfl ok_iHas)
theorem ok_sTurnProg : TurnPOk fnOf 25 (fun _ => 3) turnLH turnH := sTurnProg_ok rfl ok_sProg ok_sRow rfl ok_sTSet
theorem ok_drTP : DrawNumsOk fnOf 27 := drTP_ok rfl rfl rfl rfl ok_drAny
theorem ok_iNums : NumsOk fnOf 69 := iNums_ok rfl ok_iNum ok_iProg
theorem ok_do : ∀ n, DoOk fnOf 71 n := do_all rfl rfl rfl rfl
theorem ok_iRunOf : RunOk fnOf 32 := iRunOf_ok rfl ok_iNums rfl ok_do rfl
theorem ok_iRunTo : ToldOk fnOf 34 := iRunTo_ok rfl
theorem ok_lcInts : IntsOk fnOf 33 := lcInts_ok rfl
theorem ok_lcWrites : PairsOk fnOf 35 := lcWrites_ok rfl
theorem ok_lawTR : LawB2 fnOf 10 := lawTR_ok rfl ok_drTP ok_sTurnProg ok_iTurnProg ok_lcProg ok_iRunOf ok_iRunTo ok_lcInts ok_lcWrites
end Go.Proofs.YtemnemmnfnpnoaaI
end
section
/- Laws of lists of bytes, called in the model. -/
set_option linter.unusedVariables false
set_option linter.unusedSimpArgs false
namespace Go.Proofs.YtemnemmnfnpnoaaI
open Go Go.RowKit
theorem Good.byte {w : World} {n : Int} (h : (Lit.int .u8 n).wf = true) : Good Co.byte w [.int .u8 n] := fun H m s =>
  ⟨n, [], m, [.int .u8 n], by simpa using s, sub_refl m, ⟨rfl, by simpa [Lit.wf, IntKind.min, IntKind.max, IntKind.signed, IntKind.bits] using h⟩, All2.cons (.inl rfl) All2.nil⟩
theorem good_5 {T : Type} {enc : TypeId × Value → T} {w : World} {spare : Nat → Bool} {held : Bool} {n : Nat} {cs : List Value} {x : DataW T × List MemPlace} (h : DataW.trod enc Try.prog w 0 spare held n 5 cs = some x) : Good Co.byte w cs := by
  obtain ⟨m, rfl, _, hw⟩ := DataW.trod_int Try.underlying5 h
  exact Good.byte hw
theorem good_41 {T : Type} {enc : TypeId × Value → T} {w : World} {spare : Nat → Bool} {held : Bool} {n : Nat} {cs : List Value} {x : DataW T × List MemPlace} (h : DataW.trod enc Try.prog w 0 spare held n 41 cs = some x) : Good (Co.sl Co.byte) w cs :=
  Good.sl Try.underlying41 (by kernel_rfl) (by decide) h fun _ _ _ _ h => good_5 h
theorem lawB2_calls {n : Nat} (hl : LawB2 fnOf n) {W : World} {a b : Option Addr} {l c l' c' : Nat} (g0 : Good (Co.sl Co.byte) W [.slice a l c]) (g1 : Good (Co.sl Co.byte) W [.slice b l' c']) :
    Calls Try.prog n #[.slice a l c, .slice b l' c'] W fun e w' => e = .returned (.bool true) ∧ Below W.heap.size W w' := by
  obtain ⟨ts, L, m, cs0, s, q, r, e⟩ := g0 [] (fun _ => none) (SL.none _)
  rw [List.nil_append] at s r
  obtain ⟨ts', L2, m2, cs1, s2, q2, r2, e2⟩ := g1 L m s
  obtain ⟨u, rfl, hu⟩ := r
  obtain ⟨u', rfl, hu'⟩ := r2
  exact law_core hF hMixed s2 (vals := [u, u']) (All2.cons (VR.one_mk (e.mono fun _ _ _ h => VR1.mono q2 h)) (All2.cons (VR.one_mk e2) All2.nil)) (hl _ u u' ts ts' (hu.mono (vw_app 0 L L2)) hu')
end Go.Proofs.YtemnemmnfnpnoaaI
end
