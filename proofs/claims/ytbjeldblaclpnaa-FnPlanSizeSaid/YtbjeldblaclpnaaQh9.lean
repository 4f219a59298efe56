/- Texts of this proof, merged: J1, J2, J3, K1, K2, K3. -/
import Derived.Test.YtbjeldblaclpnaaQh8
section
/- The program's labels: what is in both, what may become what, of values, of steps being done. -/
set_option linter.unusedVariables false
set_option linter.unusedSimpArgs false
namespace Go.Proofs.YtbjeldblaclpnaaI
open Go Go.RowKit
def c_iBoth : IFn := ⟨2, 16, [.cell true 2 4],
 .seq (.reg none [
    ⟨(some 2), none, .box (.t 0)⟩,
    ⟨(some 3), none, .box (.t 1)⟩,
    ⟨(some 4), none, .new [(.int .i64 0), (.int .i64 0)]⟩])
 (.seq (.reg none [
    ⟨(some 5), none, .fad 0 (.t 2)⟩,
    ⟨(some 6), none, .load false 1 (.t 5)⟩,
    ⟨(some 7), none, .fad 0 (.t 3)⟩,
    ⟨(some 8), none, .load false 1 (.t 7)⟩,
    ⟨(some 9), none, .bin .and (.t 6) (.t 8)⟩,
    ⟨(some 10), none, .fad 1 (.t 2)⟩,
    ⟨(some 11), none, .load false 1 (.t 10)⟩,
    ⟨(some 12), none, .fad 1 (.t 3)⟩,
    ⟨(some 13), none, .load false 1 (.t 12)⟩,
    ⟨(some 14), none, .bin .and (.t 11) (.t 13)⟩,
    ⟨(some 15), none, .build [(.int .i64 0), (.int .i64 0)] [(0, 1, (.t 9)), (1, 1, (.t 14))]⟩,
    ⟨none, none, .store 2 (.t 4) (.t 15)⟩])
 (.ret))⟩
def c_iFlows : IFn := ⟨2, 17, [.t 4],
 .seq (.reg none [
    ⟨(some 2), none, .box (.t 0)⟩,
    ⟨(some 3), none, .box (.t 1)⟩,
    ⟨(some 4), none, .mov (.c (.bool false))⟩])
 (.seq (.reg none [
    ⟨(some 5), none, .fad 0 (.t 3)⟩,
    ⟨(some 6), none, .load false 1 (.t 5)⟩,
    ⟨(some 7), none, .fad 0 (.t 2)⟩,
    ⟨(some 8), none, .load false 1 (.t 7)⟩,
    ⟨(some 9), none, .call .q (.f 114) [(.t 6), (.t 8)]⟩,
    ⟨(some 10), none, .mov (.t 9)⟩,
    ⟨(some 11), (some (10, true)), .fad 1 (.t 3)⟩,
    ⟨(some 12), (some (10, true)), .load false 1 (.t 11)⟩,
    ⟨(some 13), (some (10, true)), .fad 1 (.t 2)⟩,
    ⟨(some 14), (some (10, true)), .load false 1 (.t 13)⟩,
    ⟨(some 15), (some (10, true)), .call .q (.f 114) [(.t 12), (.t 14)]⟩,
    ⟨(some 16), none, .pick (.t 10) (.t 15) (.c (.bool false))⟩,
    ⟨(some 4), none, .mov (.t 16)⟩])
 (.ret))⟩
def c_iEvery : IFn := ⟨0, 2, [.cell true 2 0],
 .seq (.reg none [
    ⟨(some 0), none, .new [(.int .i64 0), (.int .i64 0)]⟩])
 (.seq (.reg none [
    ⟨(some 1), none, .build [(.int .i64 0), (.int .i64 0)] [(0, 1, (.c (.int .i64 7))), (1, 1, (.c (.int .i64 7)))]⟩,
    ⟨none, none, .store 2 (.t 0) (.t 1)⟩])
 (.ret))⟩
def c_iSource : IFn := ⟨3, 26, [.cell true 2 6],
 .seq (.reg none [
    ⟨(some 3), none, .box (.t 0)⟩,
    ⟨(some 4), none, .box (.t 1)⟩,
    ⟨(some 5), none, .box (.t 2)⟩,
    ⟨(some 6), none, .new [(.int .i64 0), (.int .i64 0)]⟩])
 (.seq (.seq (.reg none [
     ⟨(some 9), none, .fad 2 (.t 4)⟩,
     ⟨(some 10), none, .load true 3 (.t 9)⟩,
     ⟨(some 11), none, .call .k (.f 143) [(.t 10)]⟩,
     ⟨(some 12), none, .len (.t 11)⟩,
     ⟨(some 13), none, .mov (.c (.int .i64 0))⟩])
  (.block 0 (.loop (.seq (.reg none [
       ⟨(some 14), none, .bin .lss (.t 13) (.t 12)⟩])
    (.seq (.cond (.t 14) (.skip) (.exit 0))
    (.seq (.block 1 (.seq (.reg none [
         ⟨(some 15), none, .iad 1 (.t 11) (.t 13)⟩,
         ⟨(some 16), none, .load false 1 (.t 15)⟩,
         ⟨(some 8), none, .mov (.t 16)⟩])
      (.reg (some 6) [
        ⟨(some 17), none, .load true 2 (.t 5)⟩,
        ⟨(some 18), none, .fad 0 (.t 3)⟩,
        ⟨(some 19), none, .load false 1 (.t 18)⟩,
        ⟨(some 20), none, .mov (.t 8)⟩,
        ⟨(some 21), none, .iad 2 (.t 19) (.t 20)⟩,
        ⟨(some 22), none, .load true 2 (.t 21)⟩,
        ⟨(some 23), none, .call .q (.f 135) [(.t 17), (.t 22)]⟩,
        ⟨none, none, .store 2 (.t 5) (.t 23)⟩])))
    (.reg none [
      ⟨(some 24), none, .bin .add (.t 13) (.c (.int .i64 1))⟩,
      ⟨(some 13), none, .mov (.t 24)⟩])))))))
 (.seq (.reg none [
    ⟨(some 25), none, .load true 2 (.t 5)⟩,
    ⟨none, none, .store 2 (.t 6) (.t 25)⟩])
 (.ret)))⟩
def c_iLabels : IFn := ⟨4, 44, [.t 8],
 .seq (.reg none [
    ⟨(some 4), none, .box (.t 0)⟩,
    ⟨(some 6), none, .box (.t 2)⟩,
    ⟨(some 8), none, .mov (.c (.slice none 0 0))⟩])
 (.seq (.seq (.reg none [
     ⟨(some 12), none, .mov (.t 1)⟩,
     ⟨(some 13), none, .len (.t 12)⟩,
     ⟨(some 14), none, .mov (.c (.int .i64 0))⟩])
  (.block 0 (.loop (.seq (.reg none [
       ⟨(some 15), none, .bin .lss (.t 14) (.t 13)⟩])
    (.seq (.cond (.t 15) (.skip) (.exit 0))
    (.seq (.block 1 (.seq (.reg none [
         ⟨(some 16), none, .iad 8 (.t 12) (.t 14)⟩,
         ⟨(some 17), none, .load true 8 (.t 16)⟩,
         ⟨(some 10), none, .new [(.int .i64 0), (.int .i64 0), (.int .i64 0), (.int .i64 0), (.int .i64 0), (.int .i64 0), (.slice none 0 0), (.slice none 0 0)]⟩,
         ⟨none, none, .store 8 (.t 10) (.t 17)⟩])
      (.seq (.reg none [
         ⟨(some 18), none, .mov (.t 3)⟩,
         ⟨(some 19), none, .load true 2 (.t 6)⟩,
         ⟨(some 20), none, .lit 2 38 1 [(.int .i64 0), (.int .i64 0)] [(0, 2, (.t 19))]⟩,
         ⟨(some 21), none, .app 2 38 16 false (.t 18) (.t 20)⟩,
         ⟨(some 3), none, .mov (.t 21)⟩])
      (.seq (.reg (some 9) [
         ⟨(some 22), none, .load true 2 (.t 6)⟩,
         ⟨(some 23), none, .fad 0 (.t 4)⟩,
         ⟨(some 24), none, .load false 1 (.t 23)⟩,
         ⟨(some 25), none, .fad 1 (.t 10)⟩,
         ⟨(some 26), none, .load false 1 (.t 25)⟩,
         ⟨(some 27), none, .iad 2 (.t 24) (.t 26)⟩,
         ⟨(some 28), none, .load true 2 (.t 27)⟩,
         ⟨(some 29), none, .call .q (.f 135) [(.t 22), (.t 28)]⟩,
         ⟨(some 11), none, .new [(.int .i64 0), (.int .i64 0)]⟩,
         ⟨none, none, .store 2 (.t 11) (.t 29)⟩])
      (.seq (.reg none [
         ⟨(some 30), none, .load true 2 (.t 4)⟩,
         ⟨(some 31), none, .fad 6 (.t 10)⟩,
         ⟨(some 32), none, .load false 1 (.t 31)⟩,
         ⟨(some 33), none, .load true 2 (.t 11)⟩,
         ⟨(some 34), none, .mov (.t 3)⟩,
         ⟨(some 35), none, .call .n (.f 100) [(.t 30), (.t 32), (.t 33), (.t 34)]⟩,
         ⟨(some 3), none, .mov (.t 35)⟩])
      (.reg none [
        ⟨(some 36), none, .load true 2 (.t 4)⟩,
        ⟨(some 37), none, .fad 7 (.t 10)⟩,
        ⟨(some 38), none, .load false 1 (.t 37)⟩,
        ⟨(some 39), none, .load true 2 (.t 11)⟩,
        ⟨(some 40), none, .mov (.t 3)⟩,
        ⟨(some 41), none, .call .n (.f 100) [(.t 36), (.t 38), (.t 39), (.t 40)]⟩,
        ⟨(some 3), none, .mov (.t 41)⟩]))))))
    (.reg none [
      ⟨(some 42), none, .bin .add (.t 14) (.c (.int .i64 1))⟩,
      ⟨(some 14), none, .mov (.t 42)⟩])))))))
 (.seq (.reg none [
    ⟨(some 43), none, .mov (.t 3)⟩,
    ⟨(some 8), none, .mov (.t 43)⟩])
 (.ret)))⟩
def c_iAt : IFn := ⟨1, 8, [.t 2],
 .seq (.reg none [
    ⟨(some 1), none, .box (.t 0)⟩,
    ⟨(some 2), none, .mov (.c (.slice none 0 0))⟩])
 (.seq (.reg (some 4) [
    ⟨(some 3), none, .load true 2 (.t 1)⟩,
    ⟨(some 4), none, .fad 1 (.t 1)⟩,
    ⟨(some 5), none, .load false 1 (.t 4)⟩,
    ⟨(some 6), none, .call .q (.f 101) []⟩,
    ⟨(some 7), none, .call .n (.f 100) [(.t 3), (.t 5), (.t 6), (.c (.slice none 0 0))]⟩,
    ⟨(some 2), none, .mov (.t 7)⟩])
 (.ret))⟩
theorem and_both {a b : Int} (ha : 0 ≤ a ∧ a ≤ 7) (hb : 0 ≤ b ∧ b ≤ 7) : IntKind.i64.wrap ((BitVec.ofInt 64 a &&& BitVec.ofInt 64 b).toNat : Nat) = bothS a b 3 := by
  have qa : a = 0 ∨ a = 1 ∨ a = 2 ∨ a = 3 ∨ a = 4 ∨ a = 5 ∨ a = 6 ∨ a = 7 := by omega
  have qb : b = 0 ∨ b = 1 ∨ b = 2 ∨ b = 3 ∨ b = 4 ∨ b = 5 ∨ b = 6 ∨ b = 7 := by omega
  rcases qa with rfl | rfl | rfl | rfl | rfl | rfl | rfl | rfl <;> rcases qb with rfl | rfl | rfl | rfl | rfl | rfl | rfl | rfl <;> decide +kernel
theorem labB_i {a : Int × Int} : labB a = true ↔ (0 ≤ a.1 ∧ a.1 ≤ 7) ∧ 0 ≤ a.2 ∧ a.2 ≤ 7 := by
  simp only [labB, Bool.and_eq_true, inB_iff]
theorem lboth_ok {a b : Int × Int} (ha : labB a = true) (hb : labB b = true) : lboth a b = (bothS a.1 b.1 3, bothS a.2 b.2 3) := by
  unfold lboth
  rw [ha, hb]
  rfl
def ILBoth (F : Nat → Option IFn) (f : Nat) : Prop := ∀ (H : Heap) (a b : Int × Int), labB a = true → labB b = true → QC F f [.agg #[.int .i64 a.1, .int .i64 a.2], .agg #[.int .i64 b.1, .int .i64 b.2]] H (.agg #[.int .i64 (lboth a b).1, .int .i64 (lboth a b).2])
theorem binI_andJ (k : IntKind) (x y : Int) : binI .and k x y = some (.int k (k.wrap ((BitVec.ofInt k.bits x &&& BitVec.ofInt k.bits y).toNat : Nat))) := rfl
theorem iBoth_ok {F : Nat → Option IFn} {f : Nat} (hf : F f = some c_iBoth) : ILBoth F f := by
  rintro H ⟨a1, a2⟩ ⟨b1, b2⟩ ha hb
  rw [lboth_ok ha hb]
  have qa := labB_i.1 ha
  have qb := labB_i.1 hb
  have h1 : binI .and .i64 a1 b1 = some (.int .i64 (bothS a1 b1 3)) := by rw [binI_andJ]; exact congrArg _ (congrArg _ (and_both qa.1 qb.1))
  have h2 : binI .and .i64 a2 b2 = some (.int .i64 (bothS a2 b2 3)) := by rw [binI_andJ]; exact congrArg _ (congrArg _ (and_both qa.2 qb.2))
  refine QC.mk hf rfl ?_
  refine seq_reg ?_
  simp only [go_sem, binC]
  refine seq_reg ?_
  simp only [go_sem, binC, inBlk_some, h1, h2]
  refine wpc_ret ⟨Or.inr rfl, _, (by (simp only [go_sem, binC, inBlk_some]) <;> rfl), rfl, rfl⟩
def IFlows (F : Nat → Option IFn) (f : Nat) : Prop := ∀ (H : Heap) (a b : Int × Int), labB a = true → labB b = true → QC F f [.agg #[.int .i64 a.1, .int .i64 a.2], .agg #[.int .i64 b.1, .int .i64 b.2]] H (.bool (flowsB a b))
theorem iFlows_ok {F : Nat → Option IFn} {f : Nat} (hf : F f = some c_iFlows) (gw : WitOk F 114) : IFlows F f := by
  rintro H ⟨a1, a2⟩ ⟨b1, b2⟩ ha hb
  have qa := labB_i.1 ha
  have qb := labB_i.1 hb
  have e : flowsB (a1, a2) (b1, b2) = (witB b1 a1 && witB b2 a2) := by
    unfold flowsB
    rw [ha, hb]
    rfl
  rw [e]
  refine QC.mk hf rfl ?_
  refine seq_reg ?_
  simp only [go_sem, binC]
  refine seq_reg ?_
  simp only [go_sem, binC, inBlk_some]
  refine op_callQ (by simp only [go_sem, binC]; exact gw _ _ _ qb.1.1 qb.1.2 qa.1.1 qa.1.2) ?_
  cases hw : witB b1 a1 with
  | true =>
    simp only [go_sem, binC, inBlk_some]
    refine op_callQ (by simp only [go_sem, binC]; exact gw _ _ _ qb.2.1 qb.2.2 qa.2.1 qa.2.2) ?_
    simp only [go_sem, binC]
    exact wpc_ret ⟨Or.inr rfl, _, (by (simp only [go_sem, binC]) <;> rfl), rfl, rfl⟩
  | false =>
    simp only [go_sem, binC]
    exact wpc_ret ⟨Or.inr rfl, _, (by (simp only [go_sem, binC]) <;> rfl), rfl, rfl⟩
theorem iEvery_ok {F : Nat → Option IFn} {f : Nat} (hf : F f = some c_iEvery) : ∀ H, QC F f [] H (.agg #[.int .i64 7, .int .i64 7]) := by
  intro H
  refine QC.mk hf rfl ?_
  refine seq_reg ?_
  simp only [go_sem, binC]
  refine seq_reg ?_
  simp only [go_sem, binC]
  exact wpc_ret ⟨Or.inr rfl, _, (by (simp only [go_sem, binC, inBlk_some]) <;> rfl), rfl, rfl⟩
/-! ### Labels in both, plainly -/
theorem bothS_all : ∀ a b c : Fin 8, bothS (bothS (a.val : Int) b.val 3) c.val 3 = bothS a.val (bothS b.val c.val 3) 3 ∧ bothS (a.val : Int) b.val 3 = bothS b.val a.val 3 ∧ bothS 7 (a.val : Int) 3 = a.val ∧ bothS (a.val : Int) a.val 3 = a.val := by decide +kernel
theorem fin8 {a : Int} (h : 0 ≤ a ∧ a ≤ 7) : ∃ x : Fin 8, (x.val : Int) = a := ⟨⟨a.toNat, by omega⟩, by show ((a.toNat : Nat) : Int) = a; omega⟩
theorem lboth_assoc {a b c : Int × Int} (ha : labB a = true) (hb : labB b = true) (hc : labB c = true) : lboth (lboth a b) c = lboth a (lboth b c) := by
  rw [lboth_ok (lboth_bd a b) hc, lboth_ok ha (lboth_bd b c), lboth_ok ha hb, lboth_ok hb hc]
  obtain ⟨a1, a2⟩ := a
  obtain ⟨b1, b2⟩ := b
  obtain ⟨c1, c2⟩ := c
  obtain ⟨x1, rfl⟩ := fin8 (labB_i.1 ha).1
  obtain ⟨x2, rfl⟩ := fin8 (labB_i.1 ha).2
  obtain ⟨y1, rfl⟩ := fin8 (labB_i.1 hb).1
  obtain ⟨y2, rfl⟩ := fin8 (labB_i.1 hb).2
  obtain ⟨z1, rfl⟩ := fin8 (labB_i.1 hc).1
  obtain ⟨z2, rfl⟩ := fin8 (labB_i.1 hc).2
  simp only [(bothS_all x1 y1 z1).1, (bothS_all x2 y2 z2).1]
theorem lboth_comm {a b : Int × Int} (ha : labB a = true) (hb : labB b = true) : lboth a b = lboth b a := by
  rw [lboth_ok ha hb, lboth_ok hb ha]
  obtain ⟨a1, a2⟩ := a
  obtain ⟨b1, b2⟩ := b
  obtain ⟨x1, rfl⟩ := fin8 (labB_i.1 ha).1
  obtain ⟨x2, rfl⟩ := fin8 (labB_i.1 ha).2
  obtain ⟨y1, rfl⟩ := fin8 (labB_i.1 hb).1
  obtain ⟨y2, rfl⟩ := fin8 (labB_i.1 hb).2
  simp only [(bothS_all x1 y1 0).2.1, (bothS_all x2 y2 0).2.1]
theorem lboth_any {a : Int × Int} (ha : labB a = true) : lboth (7, 7) a = a := by
  rw [lboth_ok rfl ha]
  obtain ⟨a1, a2⟩ := a
  obtain ⟨x1, rfl⟩ := fin8 (labB_i.1 ha).1
  obtain ⟨x2, rfl⟩ := fin8 (labB_i.1 ha).2
  simp only [(bothS_all x1 0 0).2.2.1, (bothS_all x2 0 0).2.2.1]
theorem lab_getD {ls : List (Int × Int)} (h : ls.all labB = true) (i : Nat) : labB (ls.getD i (0, 0)) = true := by
  rw [List.getD_eq_getElem?_getD]
  cases hi : ls[i]? with
  | none => rfl
  | some a => exact List.all_eq_true.1 h a (List.mem_of_getElem? hi)
/-- The label of what is set, as the program makes it. -/
def srcL (ls : List (Int × Int)) (v : Int × Int × Int) (h : Int × Int) : Int × Int := (varsL v).foldl (fun o x => lboth o (ls.getD x.toNat (0, 0))) h
theorem srcL_val {ls : List (Int × Int)} {v : Int × Int × Int} {h : Int × Int} (hl : ls.all labB = true) (hh : labB h = true) (hv : valB ls.length v = true) : srcL ls v h = lboth h (valL ls v) := by
  obtain ⟨k, a, b⟩ := v
  have la := lab_getD hl a.toNat
  have lb := lab_getD hl b.toNat
  have l7 : labB ((7, 7) : Int × Int) = true := rfl
  unfold valB at hv
  simp only at hv
  unfold srcL valL varsL
  simp only
  by_cases k1 : k = 1
  · subst k1
    show h = lboth h (7, 7)
    rw [lboth_comm hh l7, lboth_any hh]
  rw [if_neg k1] at hv ⊢
  by_cases k2 : k = 2
  · subst k2
    simp only [if_true, List.foldl_cons, List.foldl_nil]
    rw [if_neg (by omega), lboth_any la]
  rw [if_neg k2] at hv
  rw [if_neg k2]
  by_cases k3 : k = 3 ∨ k = 4
  · rw [if_pos k3, if_pos k3, lboth_any la]
    show lboth (lboth h _) _ = _
    rw [lboth_assoc hh la lb]
  · rw [if_neg k3] at hv; cases hv
theorem srcL_lab {ls : List (Int × Int)} {v : Int × Int × Int} {h : Int × Int} (hh : labB h = true) : labB (srcL ls v h) = true := by
  unfold srcL
  induction varsL v generalizing h with
  | nil => exact hh
  | cons x l ih => exact ih (lboth_bd _ _)
def ISource (F : Nat → Option IFn) (f : Nat) : Prop := ∀ (H : Heap) (lv sv tv ev : Value) (ls : List (Int × Int)) (k x a b c g : Int) (h : Int × Int), one sv = true → one tv = true → one ev = true → RgI b → RgI c → SlR Co.p2 (vw 0 H) lv ls → ls.all labB = true → valB ls.length (a, b, c) = true → labB h = true →
  QC F f [.agg #[lv, sv], .agg #[.int .i64 k, .int .i64 x, .int .i64 a, .int .i64 b, .int .i64 c, .int .i64 g, tv, ev], .agg #[.int .i64 h.1, .int .i64 h.2]] H (.agg #[.int .i64 (srcL ls (a, b, c) h).1, .int .i64 (srcL ls (a, b, c) h).2])
theorem varsL_le (v : Int × Int × Int) : (varsL v).length ≤ 2 := by
  unfold varsL
  split
  · simp
  · split <;> simp
theorem gcJ {H : Heap} {v : Value} {l : List Int} (h : SlR Co.int (vw 0 H) v l) {i : Nat} (hi : i < l.length) : ∃ b o, v = .slice (some ⟨b, o, none⟩) l.length l.length ∧ getCells H b (o + i) 1 = some [.int .i64 l[i]] := by
  obtain ⟨_, a, rfl, h2⟩ := h
  rcases h2 with h2 | ⟨b, o, rfl, h2⟩
  · rw [h2] at hi; simp at hi
  · obtain ⟨cs, h3, h4⟩ := h2 i hi
    have h5 := rng_gc h3
    rw [h4.1, show Co.int.w = 1 from rfl, Nat.mul_one] at h5
    exact ⟨b, o, rfl, h5⟩
theorem iSource_ok {F : Nat → Option IFn} {f : Nat} (hf : F f = some c_iSource) (gv : F 143 = some c_vars) (gb : ILBoth F 135) : ISource F f := by
  intro H lv sv tv ev ls k x a b c g h osv otv oev rb rc r1 hlab hv hh
  obtain ⟨_, la, rfl, _⟩ := id r1
  refine QC.mk hf rfl ?_
  refine seq_reg ?_
  simp only [go_sem, binC, osv, otv, oev]
  refine wpc_gen fun H1 hH1 => ?_
  have hx1 : AgX [] H H1 := hH1 ▸ AgX.app [] _ _
  have hb3 : H1[H.length]? = some ⟨[.slice la ls.length ls.length, sv], 0, 0, false, true⟩ := hH1 ▸ get_new0 _ _
  have hb4 : H1[H.length + 1]? = some ⟨[.int .i64 k, .int .i64 x, .int .i64 a, .int .i64 b, .int .i64 c, .int .i64 g, tv, ev], 0, 0, false, true⟩ := hH1 ▸ get_new _ _ 1
  have hb5 : H1[H.length + 2]? = some ⟨[.int .i64 h.1, .int .i64 h.2], 0, 0, false, true⟩ := hH1 ▸ get_new _ _ 2
  have hb6 : H1[H.length + 3]? = some ⟨[.int .i64 0, .int .i64 0], 0, 0, false, true⟩ := hH1 ▸ get_new _ _ 3
  clear hH1
  refine seq_assoc (seq_reg ?_)
  simp only [go_sem, binC, gc_of hb4, inBlk_some]
  obtain ⟨vw_, L, k2, hvs⟩ := vars_okV gv H1 a b c rb rc
  refine op_callK (by simp only [go_sem, binC]; exact k2) ?_
  have hvl := varsL_le (a, b, c)
  have hvi := varsL_in hv
  generalize hvL : varsL (a, b, c) = vs at *
  obtain ⟨_, va, rfl, _⟩ := id hvs
  generalize hHb : H1 ++ L = Hb at *
  have hx2 : AgX [] H1 Hb := hHb ▸ AgX.app [] _ _
  clear hHb k2
  simp only [go_sem, binC]
  have hb32 := hx2.get hb3 (by simp)
  have hb52 := hx2.get hb5 (by simp)
  have hb62 := hx2.get hb6 (by simp)
  have hx02 := hx1.tr hx2
  have hbl5 := (List.getElem?_eq_some_iff.1 hb52).1
  have hb6l1 := (List.getElem?_eq_some_iff.1 hb6).1
  refine seq_block (wpc_loop ?_)
  suffices hl : ∀ (m i : Nat) (e : Env) (Hc : Heap) (o : Int × Int), i + m = vs.length → AgX [H.length + 2] Hb Hc → Hc[H.length + 2]? = some ⟨[.int .i64 o.1, .int .i64 o.2], 0, 0, false, true⟩ → labB o = true → o = (vs.take i).foldl (fun o x => lboth o (ls.getD x.toNat (0, 0))) h → e 3 = ptr H.length 0 → e 5 = ptr (H.length + 2) 0 → e 6 = ptr (H.length + 3) 0 → e 11 = .slice va vs.length vs.length → e 12 = .int .i64 vs.length → e 13 = .int .i64 i → W F H.length _ e Hc _ from
    hl vs.length 0 _ Hb h (by omega) (AgX.refl _ _) hb52 hh rfl (by simp only [go_sem, binC]) (by simp only [go_sem, binC]) (by simp only [go_sem, binC]) (by simp only [go_sem, binC]) (by simp only [go_sem, binC]) (by (simp only [go_sem, binC]) <;> rfl)
  intro m
  induction m with
  | zero =>
    intro i e Hc o hi hxc hbo ho hof e3 e5 e6 e11 e12 e13
    have hb6c := hxc.get hb62 (by simp)
    have hb6l := (List.getElem?_eq_some_iff.1 hb6c).1
    refine lp_step ?_
    refine seq_reg ?_
    simp only [go_sem, binC, e12, e13]
    refine seq_cond (t := false) (by simp only [go_sem, binC]; rw [decide_eq_false (by omega)]) ?_
    simp only [go_sem, binC]
    refine seq_exit ?_
    simp only [go_sem, binC, thenX_e, out_e, thenX_n]
    refine seq_reg ?_
    simp only [go_sem, binC, e5, e6, gc_of hbo, inBlk_some, hb6c]
    rw [List.take_of_length_le (by omega)] at hof
    refine wpc_ret ⟨Or.inr rfl, .agg #[.int .i64 o.1, .int .i64 o.2], ?_, ?_, rfl⟩
    · simp [resV, resL, res1, putE_get, e6, ptr, gc_set hb6l, inBlk_some, valOf]
    · have : o = srcL ls (a, b, c) h := by rw [hof]; unfold srcL; rw [hvL]
      rw [this]
  | succ m ih =>
    intro i e Hc o hi hxc hbo ho hof e3 e5 e6 e11 e12 e13
    have hil : i < vs.length := by omega
    have hw1 : IntKind.i64.wrap ((i : Int) + 1) = ((i + 1 : Nat) : Int) := by rw [wrap_id (by omega) (by omega)]; omega
    have hvx := hvi _ (List.getElem_mem hil)
    have hbol := (List.getElem?_eq_some_iff.1 hbo).1
    have hSc : Sub (vw 0 H) (vw 0 Hc) := agx_sub (hx02.trans hxc (fun _ h _ => h) (fun b' h1 h2 => by simp only [List.mem_singleton] at h1; omega) : AgX [] H Hc)
    have hb3c := hxc.get hb32 (by simp)
    obtain ⟨lb, lo', hlvE, hga, rr1, rr2⟩ := lab_at (r1.mono hSc) (H := Hc) (fun _ _ h => h) hvx.1 hvx.2
    simp only [Value.slice.injEq, and_true] at hlvE
    subst hlvE
    have hga0 := hga []
    rw [List.append_nil] at hga0
    have hlx := lab_getD hlab vs[i].toNat
    obtain ⟨b9, o9, hv9, hg9⟩ := gcJ ((hvs.mono (vwl_sub hxc (Nat.le_refl _) (xs' := []) fun b' h1 h2 _ => ⟨by simp; omega, by simp⟩)).mono (vwl0 _ _ _)) hil
    simp only [Value.slice.injEq, and_true] at hv9
    subst hv9
    refine lp_step ?_
    refine seq_reg ?_
    simp only [go_sem, binC, e12, e13]
    refine seq_cond (t := true) (by simp only [go_sem, binC]; rw [decide_eq_true (by omega)]) ?_
    simp only [go_sem, binC]
    refine seq_skip (seq_block (seq_reg ?_))
    simp only [go_sem, binC, e11, e13]
    refine ⟨⟨by omega, by omega⟩, ?_⟩
    simp only [go_sem, binC, Int.toNat_natCast, Nat.mul_one, hg9]
    refine wpc_regD ?_
    simp only [go_sem, binC, e3, e5, gc_of hbo, gc_of hb3c, inBlk_some]
    refine ⟨⟨by omega, by omega⟩, ?_⟩
    simp only [go_sem, binC, hga0]
    refine op_callQ (by simp only [go_sem, binC]; exact gb Hc o _ ho hlx) ?_
    simp only [go_sem, binC, e5, hbo]
    simp only [go_sem, binC, out_n, thenX_n]
    refine wpc_reg ?_
    simp only [go_sem, binC, e13, hw1]
    simp only [go_sem, binC, thenX_n]
    refine ih (i + 1) _ _ (lboth o (ls.getD vs[i].toNat (0, 0))) (by omega) (hxc.trans (AgX.set _ _ _) (fun _ h _ => h) (fun _ h _ => h)) (List.getElem?_set_self hbol) (lboth_bd _ _) ?_ (by simp only [go_sem, binC, e3]) (by simp only [go_sem, binC, e5]) (by simp only [go_sem, binC, e6]) (by simp only [go_sem, binC, e11]) (by simp only [go_sem, binC, e12]) (by simp only [go_sem, binC])
    rw [List.take_add_one, List.getElem?_eq_getElem hil, List.foldl_append, ← hof]
    rfl
end Go.Proofs.YtbjeldblaclpnaaI
end
section
/- The program's labels of steps being done, and all its steps. -/
set_option linter.unusedVariables false
set_option linter.unusedSimpArgs false
namespace Go.Proofs.YtbjeldblaclpnaaI
open Go Go.RowKit
def c_iAll : IFn := ⟨1, 28, [.t 2],
 .seq (.reg none [
    ⟨(some 2), none, .mov (.c (.slice none 0 0))⟩])
 (.seq (.reg none [
    ⟨(some 3), none, .mov (.c (.slice none 0 0))⟩])
 (.seq (.seq (.reg none [
     ⟨(some 6), none, .mov (.t 0)⟩,
     ⟨(some 7), none, .len (.t 6)⟩,
     ⟨(some 8), none, .mov (.c (.int .i64 0))⟩])
  (.block 0 (.loop (.seq (.reg none [
       ⟨(some 9), none, .bin .lss (.t 8) (.t 7)⟩])
    (.seq (.cond (.t 9) (.skip) (.exit 0))
    (.seq (.block 1 (.seq (.reg none [
         ⟨(some 10), none, .iad 8 (.t 6) (.t 8)⟩,
         ⟨(some 11), none, .load true 8 (.t 10)⟩,
         ⟨(some 5), none, .new [(.int .i64 0), (.int .i64 0), (.int .i64 0), (.int .i64 0), (.int .i64 0), (.int .i64 0), (.slice none 0 0), (.slice none 0 0)]⟩,
         ⟨none, none, .store 8 (.t 5) (.t 11)⟩])
      (.seq (.reg none [
         ⟨(some 12), none, .mov (.t 3)⟩,
         ⟨(some 13), none, .load true 8 (.t 5)⟩,
         ⟨(some 14), none, .lit 8 85 1 [(.int .i64 0), (.int .i64 0), (.int .i64 0), (.int .i64 0), (.int .i64 0), (.int .i64 0), (.slice none 0 0), (.slice none 0 0)] [(0, 8, (.t 13))]⟩,
         ⟨(some 15), none, .app 8 85 96 false (.t 12) (.t 14)⟩,
         ⟨(some 3), none, .mov (.t 15)⟩])
      (.seq (.reg none [
         ⟨(some 16), none, .mov (.t 3)⟩,
         ⟨(some 17), none, .fad 6 (.t 5)⟩,
         ⟨(some 18), none, .load false 1 (.t 17)⟩,
         ⟨(some 19), none, .call .k (.f 55) [(.t 18)]⟩,
         ⟨(some 20), none, .app 8 85 96 false (.t 16) (.t 19)⟩,
         ⟨(some 3), none, .mov (.t 20)⟩])
      (.reg none [
        ⟨(some 21), none, .mov (.t 3)⟩,
        ⟨(some 22), none, .fad 7 (.t 5)⟩,
        ⟨(some 23), none, .load false 1 (.t 22)⟩,
        ⟨(some 24), none, .call .k (.f 55) [(.t 23)]⟩,
        ⟨(some 25), none, .app 8 85 96 false (.t 21) (.t 24)⟩,
        ⟨(some 3), none, .mov (.t 25)⟩])))))
    (.reg none [
      ⟨(some 26), none, .bin .add (.t 8) (.c (.int .i64 1))⟩,
      ⟨(some 8), none, .mov (.t 26)⟩])))))))
 (.seq (.reg none [
    ⟨(some 27), none, .mov (.t 3)⟩,
    ⟨(some 2), none, .mov (.t 27)⟩])
 (.ret))))⟩
theorem atL_len' : ∀ (n : Nat) (ls : List (Int × Int)) (h : Int × Int) (s : TStep n), (atT n ls h s).length = (allT n s).length
  | 0, _, _, s => s.elim
  | n + 1, ls, h, (k, x, v, g, th, el) => by
    have go : ∀ (h : Int × Int) (l : List (TStep n)), (atL n ls h l).length = (allL n l).length := fun h l => by
      unfold atL allL
      rw [List.length_flatten, List.length_flatten, List.map_map, List.map_map]
      congr 1
      exact List.map_congr_left fun a _ => atL_len' n ls h a
    rw [atT_succ, allT_succ, List.length_cons, List.length_cons, List.length_append, List.length_append, go, go]
theorem atL_len {n : Nat} (ls : List (Int × Int)) (h : Int × Int) (l : List (TStep n)) : (atL n ls h l).length = (allL n l).length := by
  unfold atL allL
  rw [List.length_flatten, List.length_flatten, List.map_map, List.map_map]
  congr 1
  exact List.map_congr_left fun a _ => atL_len' n ls h a
theorem varB_i {k : Nat} {x : Int} : varB k x = true ↔ 0 ≤ x ∧ x < k := by
  unfold varB
  rw [inB_iff]
  omega
/-- One step of a list, read in any view. -/
theorem step_atW {n : Nat} {V : Vw} {v : Value} {l : List (TStep (n + 1))} (h : SlR (Co.step (n + 1)) V v l) {i : Nat} (hi : i < l.length) : ∃ (b o : Nat) (k x a bb c g : Int) (tv ev : Value) (tl el : List (TStep n)), v = .slice (some ⟨b, o, none⟩) l.length l.length ∧ l[i] = (k, x, (a, bb, c), g, tl, el) ∧
    (RgI k ∧ RgI x ∧ RgI a ∧ RgI bb ∧ RgI c ∧ RgI g) ∧ one tv = true ∧ one ev = true ∧ (∀ H', Sub V (vw 0 H') → getCells H' b (o + i * 8) 8 = some [.int .i64 k, .int .i64 x, .int .i64 a, .int .i64 bb, .int .i64 c, .int .i64 g, tv, ev]) ∧ SlR (Co.step n) V tv tl ∧ SlR (Co.step n) V ev el := by
  obtain ⟨_, a, rfl, h2⟩ := h
  obtain ⟨b, o, rfl, h3⟩ := h2.resolve_left (fun h => by rw [h] at hi; simp at hi)
  obtain ⟨cs, h4, h5⟩ := h3 i hi
  generalize hs : l[i] = s at h5
  obtain ⟨k, x, ⟨a, bb, c⟩, g, tl, el⟩ := s
  obtain ⟨_, _, rfl, ⟨rfl, r1⟩, _, _, rfl, ⟨rfl, r2⟩, _, _, rfl, ⟨_, _, rfl, ⟨rfl, r3⟩, _, _, rfl, ⟨rfl, r4⟩, ⟨rfl, r5⟩⟩, _, _, rfl, ⟨rfl, r6⟩, _, _, rfl, ⟨tv, rfl, h6⟩, ⟨ev, rfl, h7⟩⟩ := h5
  have o6 : Go.Proofs.YtbjeldblaclpnaaI.one tv = true := by obtain ⟨_, _, rfl, _⟩ := h6; rfl
  have o7 : Go.Proofs.YtbjeldblaclpnaaI.one ev = true := by obtain ⟨_, _, rfl, _⟩ := h7; rfl
  exact ⟨b, o, k, x, a, bb, c, g, tv, ev, tl, el, rfl, rfl, ⟨r1, r2, r3, r4, r5, r6⟩, o6, o7, fun H' hs => rng_gc (rng_sub hs h4), h6, h7⟩
def AtI (F : Nat → Option IFn) (f n : Nat) : Prop := ∀ (V : Vw) (H : Heap) (lo lo1 : Nat) (lv sv v w : Value) (ls : List (Int × Int)) (l : List (TStep n)) (here : Int × Int) (out : List (Int × Int)), Sub V (vwl 0 (blkOf w) H) → lo ≤ lo1 → lo1 ≤ H.length → one sv = true → SlR Co.p2 V lv ls → SlR (Co.step n) V v l → LsV V Co.p2 2 38 lo1 H w out → (∀ s ∈ allL n l, varB ls.length s.2.1 = true) → ls.all labB = true → labB here = true → out.length + (allL n l).length ≤ 1000 →
  ∃ w' H', NC F lo f [.agg #[lv, sv], v, .agg #[.int .i64 here.1, .int .i64 here.2], w] H w' H' ∧ (AgX (blkOf w) H H' ∧ BlkN H w w' ∧ LsV V Co.p2 2 38 lo1 H' w' (out ++ atL n ls here l))
theorem sub_keep {V : Vw} {H H' : Heap} {w w' : Value} (h : Sub V (vwl 0 (blkOf w) H)) (hx : AgX (blkOf w) H H') (hn : BlkN H w w') : Sub V (vwl 0 (blkOf w') H') := by
  intro b cs hb
  have h1 := h b cs hb
  unfold vwl at h1 ⊢
  split at h1
  · rename_i h2
    cases hk : H[b]? with
    | none => rw [hk] at h1; cases h1
    | some k =>
      have hl := (List.getElem?_eq_some_iff.1 hk).1
      rw [if_pos ⟨Nat.zero_le _, fun hm => by rcases hn b hm with h3 | h3; exact h2.2 h3; omega⟩, hx.2 b hl h2.2]
      exact h1
  · cases h1
theorem sub_vw {V : Vw} {H : Heap} {xs : List Nat} (h : Sub V (vwl 0 xs H)) : Sub V (vw 0 H) := h.trans (vwl0 _ _ _)
theorem blkN_refl (H : Heap) (v : Value) : BlkN H v v := fun _ h => .inl h
theorem agx_app_w {H : Heap} (w : Value) (L : Heap) : AgX (blkOf w) H (H ++ L) := AgX.app _ _ _
theorem iLabels_ok {F : Nat → Option IFn} {f n : Nat} (hf : F f = some c_iLabels) (gb : ILBoth F 135) (ih : ∀ m, n = m + 1 → AtI F 100 m) : AtI F f n := by
  intro V H lo lo1 lv sv v w0 ls l here out0 hV hlo hlo1 hsv hlv hv ho0 hvar hlab hhere hcnt
  obtain ⟨_, la, rfl, _⟩ := id hlv
  have hv0 := hv
  obtain ⟨h0, av, rfl, hv1⟩ := hv
  suffices h : ∃ w' H', NC F lo f [.agg #[.slice la ls.length ls.length, sv], .slice av l.length l.length, .agg #[.int .i64 here.1, .int .i64 here.2], w0] H w' H' ∧ (AgX (blkOf w0) H H' ∧ BlkN H w0 w' ∧ LsV V Co.p2 2 38 lo1 H' w' (out0 ++ atL n ls here l)) from h
  refine NC.mk hf rfl ?_
  refine seq_reg ?_
  simp only [go_sem, binC, hsv]
  refine wpc_gen fun Hb hHb => ?_
  have ht0 : AgX (blkOf w0) H Hb := hHb ▸ agx_app_w _ _
  have hp0 : Hb[H.length]? = some ⟨[.slice la ls.length ls.length, sv], 0, 0, false, true⟩ := hHb ▸ get_new0 _ _
  have hh0 : Hb[H.length + 1]? = some ⟨[.int .i64 here.1, .int .i64 here.2], 0, 0, false, true⟩ := hHb ▸ get_new _ _ 1
  have hob : LsV V Co.p2 2 38 lo1 Hb w0 out0 := hHb ▸ ho0.keep (Nat.le_refl _) (AgX.app [] H _) (fun _ _ => by simp)
  clear hHb
  refine seq_assoc (seq_reg ?_)
  simp only [go_sem, binC]
  refine seq_block (wpc_loop ?_)
  suffices h : ∀ (k i : Nat) (e : Env) (Hc : Heap) (w : Value), i + k = l.length → AgX (blkOf w0) H Hc → BlkN H w0 w → LsV V Co.p2 2 38 lo1 Hc w (out0 ++ atL n ls here (l.take i)) → Hc[H.length]? = some ⟨[.slice la ls.length ls.length, sv], 0, 0, false, true⟩ → Hc[H.length + 1]? = some ⟨[.int .i64 here.1, .int .i64 here.2], 0, 0, false, true⟩ →
      e 3 = w → e 4 = ptr H.length 0 → e 6 = ptr (H.length + 1) 0 → e 12 = .slice av l.length l.length → e 13 = .int .i64 l.length → e 14 = .int .i64 i → W F lo _ e Hc _ from
    h l.length 0 _ Hb w0 (by omega) ht0 (blkN_refl _ _) (by simpa [atL] using hob) hp0 hh0 (by simp only [go_sem, binC]) (by simp only [go_sem, binC]) (by simp only [go_sem, binC]) (by simp only [go_sem, binC]) (by simp only [go_sem, binC]) (by (simp only [go_sem, binC]) <;> rfl)
  intro k
  induction k with
  | zero =>
    intro i e Hc w hi ht hbn ho hp hh e3 e4 e6 e12 e13 e14
    refine lp_step ?_
    refine seq_reg ?_
    simp only [go_sem, binC, e13, e14]
    refine seq_cond (t := false) (by simp only [go_sem, binC]; rw [decide_eq_false (by omega)]) ?_
    simp only [go_sem, binC]
    refine seq_exit ?_
    simp only [go_sem, binC, thenX_e, out_e, thenX_n]
    refine seq_reg ?_
    simp only [go_sem, binC, e3]
    rw [List.take_of_length_le (by omega)] at ho
    exact wpc_ret ⟨Or.inr rfl, _, (by (simp only [go_sem, binC]) <;> rfl), ht, hbn, ho⟩
  | succ k ihk =>
    intro i e Hc w hi ht hbn ho hp hh e3 e4 e6 e12 e13 e14
    have hil : i < l.length := by omega
    cases n with
    | zero => exact (l[i]).elim
    | succ n =>
    have hw1 : IntKind.i64.wrap ((i : Int) + 1) = ((i + 1 : Nat) : Int) := by rw [wrap_id (by omega) (by omega)]; omega
    obtain ⟨vb, vo, sk, sx, sa, sbb, sc, sg, tv, ev, tl, el, hav, hs, rg, otv, oev, hgc, htl, hel⟩ := step_atW hv0 hil
    simp only [Value.slice.injEq, and_true] at hav
    subst hav
    have htake := allL_take l i hil
    rw [hs, allT_succ] at htake
    have hle := allL_take_le l (i + 1)
    rw [htake, List.length_append, List.length_cons, List.length_append] at hle
    have hmem : ∀ s, s ∈ allT (n + 1) l[i] → varB ls.length s.2.1 = true := fun s hs' => hvar s (mem_allL hil hs')
    rw [hs, allT_succ] at hmem
    have hvx := varB_i.1 (hmem _ (List.mem_cons_self))
    simp only at hvx
    have hatl : (atL (n + 1) ls here (l.take i)).length = (allL (n + 1) (l.take i)).length := atL_len _ _ _
    have hVc : ∀ {H' : Heap} {w' : Value}, AgX (blkOf w0) H H' → BlkN H w0 w' → Sub V (vwl 0 (blkOf w') H') := fun h1 h2 => sub_keep hV h1 h2
    have hlx := lab_getD hlab sx.toNat
    have hgl : ∀ {H' : Heap}, AgX (blkOf w0) H H' → ∃ lb lo', la = some ⟨lb, lo', none⟩ ∧ getCells H' lb (lo' + sx.toNat * 2) 2 = some [.int .i64 (ls.getD sx.toNat (0, 0)).1, .int .i64 (ls.getD sx.toNat (0, 0)).2] := by
      intro H' hx
      obtain ⟨b2, o2, h1, h2, _⟩ := lab_at hlv (H := H') (sub_vw (hVc hx (blkN_refl _ _))) hvx.1 hvx.2
      simp only [Value.slice.injEq, and_true] at h1
      have := h2 []
      rw [List.append_nil] at this
      exact ⟨b2, o2, h1, this⟩
    have hgp : ∀ {H' : Heap} (_ : AgX (blkOf w0) H H') (off kk : Nat), off + kk ≤ 8 → getCells H' vb (vo + i * 8 + off) kk = some (([.int .i64 sk, .int .i64 sx, .int .i64 sa, .int .i64 sbb, .int .i64 sc, .int .i64 sg, tv, ev].drop off).take kk) := fun hs off kk h => gc_part (hgc _ (sub_vw (hVc hs (blkN_refl _ _)))) h
    have htl0 := ht.1
    refine lp_step ?_
    refine seq_reg ?_
    simp only [go_sem, binC, e13, e14]
    refine seq_cond (t := true) (by simp only [go_sem, binC]; rw [decide_eq_true (by omega)]) ?_
    simp only [go_sem, binC]
    refine seq_skip (seq_block ?_)
    refine seq_reg ?_
    have hg8 := hgc _ (sub_vw (hVc ht (blkN_refl _ _)))
    simp only [go_sem, binC, e12, e14]
    refine ⟨⟨by omega, by omega⟩, ?_⟩
    simp only [go_sem, binC, Int.toNat_natCast, hg8, otv, oev]
    refine ⟨by omega, ?_⟩
    refine wpc_gen fun H1 hH1 => ?_
    have hx1 : AgX (blkOf w) Hc H1 := hH1 ▸ agx_app_w _ _
    have ht1 : AgX (blkOf w0) H H1 := hH1 ▸ ht.trans (AgX.app [] _ _) (fun _ h _ => h) (fun _ h _ => by cases h)
    have hs1 : H1[Hc.length]? = some ⟨[.int .i64 sk, .int .i64 sx, .int .i64 sa, .int .i64 sbb, .int .i64 sc, .int .i64 sg, tv, ev], 0, 0, false, true⟩ := hH1 ▸ get_new0 _ _
    have hxn1 : AgX [] Hc H1 := hH1 ▸ AgX.app [] _ _
    have hl1 : H1.length = Hc.length + 1 := by rw [hH1, List.length_append]; rfl
    clear hH1
    have ho1 := ho.keep (Nat.le_refl _) hxn1 (fun _ _ => by simp)
    have hp1 := hxn1.get hp (by simp)
    have hh1 := hxn1.get hh (by simp)
    refine seq_reg ?_
    simp only [go_sem, binC, e3, e6, gc_of hh1, inBlk_some]
    refine op_app_ls1 (a := here) ho1 (by simp only [go_sem, binC, e3]) (by (simp only [go_sem, binC]) <;> rfl) rfl ⟨[.int .i64 here.1], [.int .i64 here.2], rfl, ⟨rfl, (labB_rg hhere).1⟩, ⟨rfl, (labB_rg hhere).2⟩⟩ hlo (by omega) (by rw [List.length_append, hatl]; omega) (by omega) fun H2 w2 hx2 _ hn2 ho2 => ?_
    simp only [go_sem, binC]
    have hbnX : ∀ {Hx : Heap} {wa wb : Value}, BlkN H w0 wa → H.length ≤ Hx.length → BlkN Hx wa wb → BlkN H w0 wb := fun h1 h2 h3 b hb => by
      rcases h3 b hb with h | h
      · exact h1 b h
      · exact .inr (by omega)
    have htX : ∀ {Hx Hy : Heap} {wa : Value}, AgX (blkOf w0) H Hx → BlkN H w0 wa → AgX (blkOf wa) Hx Hy → AgX (blkOf w0) H Hy := fun h1 h2 h3 => h1.trans h3 (fun _ h _ => h) (fun b hb hl => by
      rcases h2 b hb with h | h
      · exact h
      · omega)
    have hbn2 : BlkN H w0 w2 := hbnX hbn (by omega) hn2
    have ht2 : AgX (blkOf w0) H H2 := htX ht1 hbn hx2
    have hp2 := hx2.get hp1 (ho1.nbox hp1)
    have hh2 := hx2.get hh1 (ho1.nbox hh1)
    have hs2 := hx2.get hs1 (ho1.nbox hs1)
    have hx2l := hx2.1
    refine seq_regD ?_
    obtain ⟨lb, lo', hla, hgl2⟩ := hgl ht2
    subst hla
    simp only [go_sem, binC, e4, e6, gc_of hp2, gc_of hh2, gc_of hs2, inBlk_some]
    refine ⟨⟨by omega, by omega⟩, ?_⟩
    simp only [go_sem, binC, hgl2]
    refine op_callQ (by simp only [go_sem, binC]; exact gb H2 here _ hhere hlx) ?_
    simp only [go_sem, binC]
    refine ⟨by omega, ?_⟩
    have hin := lboth_bd here (ls.getD sx.toNat (0, 0))
    refine wpc_gen fun H3 hH3 => ?_
    have hxn3 : AgX [] H2 H3 := hH3 ▸ AgX.app [] _ _
    have hin3 : H3[H2.length]? = some ⟨[.int .i64 (lboth here (ls.getD sx.toNat (0, 0))).1, .int .i64 (lboth here (ls.getD sx.toNat (0, 0))).2], 0, 0, false, true⟩ := hH3 ▸ get_new0 _ _
    have hl3 : H3.length = H2.length + 1 := by rw [hH3, List.length_append]; rfl
    clear hH3
    have ht3 : AgX (blkOf w0) H H3 := ht2.trans hxn3 (fun _ h _ => h) (fun _ h _ => by cases h)
    have ho3 := ho2.keep (Nat.le_refl _) hxn3 (fun _ _ => by simp)
    have hp3 := hxn3.get hp2 (by simp)
    have hh3 := hxn3.get hh2 (by simp)
    have hs3 := hxn3.get hs2 (by simp)
    have hlen2 : (out0 ++ atL (n + 1) ls here (l.take i) ++ [here]).length = out0.length + (allL (n + 1) (l.take i)).length + 1 := by rw [List.length_append, List.length_append, hatl]; rfl
    refine seq_reg ?_
    simp only [go_sem, binC, e4, gc_of hp3, gc_of hs3, gc_of hin3, inBlk_some, hsv, otv]
    obtain ⟨w4, H4, k4, hx4, hn4, ho4⟩ := ih n rfl V H3 lo lo1 _ sv tv w2 ls tl (lboth here (ls.getD sx.toNat (0, 0))) _ (hVc ht3 hbn2) hlo (by omega) hsv hlv htl ho3 (fun s hs' => hmem s (List.mem_cons_of_mem _ (List.mem_append_left _ hs'))) hlab hin (by omega)
    refine op_callN (by simp only [go_sem, binC]; exact k4) ?_
    simp only [go_sem, binC]
    have hbn4 : BlkN H w0 w4 := hbnX hbn2 (by omega) hn4
    have ht4 : AgX (blkOf w0) H H4 := htX ht3 hbn2 hx4
    have hp4 := hx4.get hp3 (ho3.nbox hp3)
    have hh4 := hx4.get hh3 (ho3.nbox hh3)
    have hs4 := hx4.get hs3 (ho3.nbox hs3)
    have hin4 := hx4.get hin3 (ho3.nbox hin3)
    have hx4l := hx4.1
    have hlen4 : (out0 ++ atL (n + 1) ls here (l.take i) ++ [here] ++ atL n ls (lboth here (ls.getD sx.toNat (0, 0))) tl).length = out0.length + (allL (n + 1) (l.take i)).length + 1 + (allL n tl).length := by rw [List.length_append, hlen2, atL_len]
    refine wpc_reg ?_
    simp only [go_sem, binC, e4, gc_of hp4, gc_of hs4, gc_of hin4, inBlk_some, hsv, oev]
    obtain ⟨w5, H5, k5, hx5, hn5, ho5⟩ := ih n rfl V H4 lo lo1 _ sv ev w4 ls el (lboth here (ls.getD sx.toNat (0, 0))) _ (hVc ht4 hbn4) hlo (by omega) hsv hlv hel ho4 (fun s hs' => hmem s (List.mem_cons_of_mem _ (List.mem_append_right _ hs'))) hlab hin (by omega)
    refine op_callN (by simp only [go_sem, binC]; exact k5) ?_
    simp only [go_sem, binC, out_n, thenX_n]
    have hbn5 : BlkN H w0 w5 := hbnX hbn4 (by omega) hn5
    have ht5 : AgX (blkOf w0) H H5 := htX ht4 hbn4 hx5
    have hp5 := hx5.get hp4 (ho4.nbox hp4)
    have hh5 := hx5.get hh4 (ho4.nbox hh4)
    refine wpc_reg ?_
    simp only [go_sem, binC, e14, hw1]
    simp only [go_sem, binC, thenX_n]
    refine ihk (i + 1) _ H5 w5 (by omega) ht5 hbn5 ?_ hp5 hh5 (by simp only [go_sem, binC]) (by simp only [go_sem, binC, e4]) (by simp only [go_sem, binC, e6]) (by simp only [go_sem, binC, e12]) (by simp only [go_sem, binC, e13]) (by simp only [go_sem, binC])
    rw [atL_take ls here l i hil, hs, atT_succ]
    simpa only [List.append_assoc, List.cons_append, List.nil_append] using ho5
theorem iLabels_all {F : Nat → Option IFn} (hf : F 100 = some c_iLabels) (gb : ILBoth F 135) : ∀ n, AtI F 100 n
  | 0 => iLabels_ok hf gb fun m h => by omega
  | n + 1 => iLabels_ok hf gb fun m h => by cases h; exact iLabels_all hf gb n
def AtP (F : Nat → Option IFn) (f : Nat) : Prop := ∀ (H : Heap) (n : Nat) (lv sv : Value) (ls : List (Int × Int)) (l : List (TStep n)), SlR Co.p2 (vw 0 H) lv ls → SlR (Co.step n) (vw 0 H) sv l → (Co.prog n).sm (ls, l) → progB n (ls, l) = true →
  ∃ w H', KC F f [.agg #[lv, sv]] H w H' ∧ (AgX [] H H' ∧ LsV (vw 0 H) Co.p2 2 38 H.length H' w (atL n ls (7, 7) l))
theorem iAt_ok {F : Nat → Option IFn} {f : Nat} (hf : F f = some c_iAt) (gl : ∀ n, AtI F 100 n) (ge : ∀ H, QC F 101 [] H (.agg #[.int .i64 7, .int .i64 7])) : AtP F f := by
  intro H n lv sv ls l r1 r2 hsm hP
  have osv : one sv = true := by obtain ⟨_, a, rfl, _⟩ := r2; rfl
  obtain ⟨_, la, rfl, _⟩ := id r1
  have hcnt := progB_cnt hP hsm
  simp only at hcnt
  refine KC.mk hf rfl ?_
  refine seq_reg ?_
  simp only [go_sem, binC, osv]
  refine wpc_gen fun H1 hH1 => ?_
  have hx1 : AgX [] H H1 := hH1 ▸ AgX.app [] _ _
  have hb : H1[H.length]? = some ⟨[.slice la ls.length ls.length, sv], 0, 0, false, true⟩ := hH1 ▸ get_new0 _ _
  clear hH1
  refine seq_regD ?_
  simp only [go_sem, binC, gc_of hb, inBlk_some, osv]
  refine op_callQ (by simp only [go_sem, binC]; exact ge H1) ?_
  simp only [go_sem, binC]
  obtain ⟨w, H2, k2, hx2, hn2, ho2⟩ := gl n (vw 0 H) H1 H.length H.length _ sv sv nilS ls l (7, 7) [] (fun b cs hb => by
    have := agx_sub hx1 b cs hb
    unfold vw at this
    unfold vwl
    simpa [blkOf, nilS] using this) (Nat.le_refl _) hx1.1 osv r1 r2 LsV.nil (fun s hs => by
      have := progB_sh hP s hs
      simp only [shB, Bool.and_eq_true] at this
      exact this.1) (progB_lab hP) rfl (by simp; omega)
  refine op_callN (by simp only [go_sem, binC]; exact k2) ?_
  simp only [go_sem, binC]
  exact wpc_ret ⟨Or.inr rfl, _, (by (simp only [go_sem, binC]) <;> rfl), hx1.trans hx2 (fun _ h _ => h) (fun b h _ => by simp [blkOf, nilS] at h), by simpa using ho2⟩
end Go.Proofs.YtbjeldblaclpnaaI
end
section
/- All steps of a program; the first step that is not fine (the program's). -/
set_option linter.unusedVariables false
set_option linter.unusedSimpArgs false
namespace Go.Proofs.YtbjeldblaclpnaaI
open Go Go.RowKit
def c_iWhy0 : IFn := ⟨1, 61, [.t 2, .t 3],
 .seq (.reg none [
    ⟨(some 1), none, .box (.t 0)⟩,
    ⟨(some 2), none, .mov (.c (.int .i64 0))⟩,
    ⟨(some 3), none, .mov (.c (.bool false))⟩])
 (.seq (.reg none [
    ⟨(some 8), none, .load true 2 (.t 1)⟩,
    ⟨(some 9), none, .call .k (.f 53) [(.t 8)]⟩,
    ⟨(some 4), none, .mov (.t 9)⟩])
 (.seq (.seq (.reg none [
     ⟨(some 10), none, .fad 1 (.t 1)⟩,
     ⟨(some 11), none, .load false 1 (.t 10)⟩,
     ⟨(some 12), none, .call .k (.f 55) [(.t 11)]⟩,
     ⟨(some 13), none, .len (.t 12)⟩,
     ⟨(some 14), none, .mov (.c (.int .i64 0))⟩])
  (.block 0 (.loop (.seq (.reg none [
       ⟨(some 15), none, .bin .lss (.t 14) (.t 13)⟩])
    (.seq (.cond (.t 15) (.skip) (.exit 0))
    (.seq (.block 1 (.seq (.reg none [
         ⟨(some 16), none, .mov (.t 14)⟩,
         ⟨(some 17), none, .iad 8 (.t 12) (.t 14)⟩,
         ⟨(some 18), none, .load true 8 (.t 17)⟩,
         ⟨(some 6), none, .new [(.int .i64 0), (.int .i64 0), (.int .i64 0), (.int .i64 0), (.int .i64 0), (.int .i64 0), (.slice none 0 0), (.slice none 0 0)]⟩,
         ⟨(some 5), none, .mov (.t 16)⟩,
         ⟨none, none, .store 8 (.t 6) (.t 18)⟩])
      (.seq (.reg none [
         ⟨(some 19), none, .fad 0 (.t 1)⟩,
         ⟨(some 20), none, .load false 1 (.t 19)⟩,
         ⟨(some 21), none, .fad 1 (.t 6)⟩,
         ⟨(some 22), none, .load false 1 (.t 21)⟩,
         ⟨(some 23), none, .iad 2 (.t 20) (.t 22)⟩,
         ⟨(some 24), none, .load true 2 (.t 23)⟩,
         ⟨(some 7), none, .new [(.int .i64 0), (.int .i64 0)]⟩,
         ⟨none, none, .store 2 (.t 7) (.t 24)⟩])
      (.seq (.reg none [
         ⟨(some 25), none, .fad 0 (.t 6)⟩,
         ⟨(some 26), none, .load false 1 (.t 25)⟩])
      (.block 2 (.seq (.reg none [
          ⟨(some 28), none, .bin .eql (.t 26) (.c (.int .i64 1))⟩,
          ⟨(some 27), none, .mov (.t 28)⟩])
       (.cond (.t 27) (.seq (.reg (some 8) [
           ⟨(some 29), none, .load true 2 (.t 1)⟩,
           ⟨(some 30), none, .load true 8 (.t 6)⟩,
           ⟨(some 31), none, .mov (.t 4)⟩,
           ⟨(some 32), none, .mov (.t 5)⟩,
           ⟨(some 33), none, .iad 2 (.t 31) (.t 32)⟩,
           ⟨(some 34), none, .load true 2 (.t 33)⟩,
           ⟨(some 35), none, .call .q (.f 124) [(.t 29), (.t 30), (.t 34)]⟩,
           ⟨(some 36), none, .load true 2 (.t 7)⟩,
           ⟨(some 37), none, .call .q (.f 125) [(.t 35), (.t 36)]⟩,
           ⟨(some 38), none, .un .not (.t 37)⟩])
        (.cond (.t 38) (.seq (.reg none [
            ⟨(some 39), none, .mov (.t 5)⟩,
            ⟨(some 2), none, .mov (.t 39)⟩,
            ⟨(some 3), none, .mov (.c (.bool true))⟩])
         (.ret)) (.skip))) (.seq (.reg none [
           ⟨(some 41), none, .bin .eql (.t 26) (.c (.int .i64 3))⟩,
           ⟨(some 40), none, .mov (.t 41)⟩])
        (.cond (.t 40) (.seq (.reg (some 14) [
            ⟨(some 42), none, .mov (.t 4)⟩,
            ⟨(some 43), none, .mov (.t 5)⟩,
            ⟨(some 44), none, .iad 2 (.t 42) (.t 43)⟩,
            ⟨(some 45), none, .fad 0 (.t 44)⟩,
            ⟨(some 46), none, .load false 1 (.t 45)⟩,
            ⟨(some 47), none, .fad 5 (.t 6)⟩,
            ⟨(some 48), none, .load false 1 (.t 47)⟩,
            ⟨(some 49), none, .call .q (.f 99) [(.t 46), (.t 48)]⟩,
            ⟨(some 50), none, .un .not (.t 49)⟩,
            ⟨(some 51), none, .mov (.t 50)⟩,
            ⟨(some 52), (some (51, false)), .fad 0 (.t 7)⟩,
            ⟨(some 53), (some (51, false)), .load false 1 (.t 52)⟩,
            ⟨(some 54), (some (51, false)), .fad 5 (.t 6)⟩,
            ⟨(some 55), (some (51, false)), .load false 1 (.t 54)⟩,
            ⟨(some 56), (some (51, false)), .call .q (.f 99) [(.t 53), (.t 55)]⟩,
            ⟨(some 57), (some (51, false)), .un .not (.t 56)⟩,
            ⟨(some 58), none, .pick (.t 51) (.c (.bool true)) (.t 57)⟩])
         (.cond (.t 58) (.seq (.reg none [
             ⟨(some 59), none, .mov (.t 5)⟩,
             ⟨(some 2), none, .mov (.t 59)⟩,
             ⟨(some 3), none, .mov (.c (.bool true))⟩])
          (.ret)) (.skip))) (.skip))))))))))
    (.reg none [
      ⟨(some 60), none, .bin .add (.t 14) (.c (.int .i64 1))⟩,
      ⟨(some 14), none, .mov (.t 60)⟩])))))))
 (.seq (.reg none [
    ⟨(some 2), none, .mov (.c (.int .i64 0))⟩,
    ⟨(some 3), none, .mov (.c (.bool false))⟩])
 (.ret))))⟩
def c_iTypeOk : IFn := ⟨1, 15, [.t 2],
 .seq (.reg none [
    ⟨(some 1), none, .box (.t 0)⟩,
    ⟨(some 2), none, .mov (.c (.bool false))⟩])
 (.seq (.seq (.reg none [
     ⟨(some 5), none, .load true 2 (.t 1)⟩,
     ⟨(some 6), none, .call .q (.f 61) [(.t 5)]⟩,
     ⟨(some 7), none, .un .not (.t 6)⟩])
  (.cond (.t 7) (.seq (.reg none [
      ⟨(some 2), none, .mov (.c (.bool false))⟩])
   (.ret)) (.skip)))
 (.seq (.reg none [
    ⟨(some 9), none, .load true 2 (.t 1)⟩,
    ⟨(some 10), none, .call .q (.f 86) [(.t 9)]⟩,
    ⟨(some 8), none, .mov (.t 10)⟩,
    ⟨(some 11), none, .ext (.t 8) 0⟩,
    ⟨(some 12), none, .ext (.t 8) 1⟩,
    ⟨(some 3), none, .mov (.t 11)⟩,
    ⟨(some 4), none, .mov (.t 12)⟩])
 (.seq (.reg none [
    ⟨(some 13), none, .mov (.t 4)⟩,
    ⟨(some 14), none, .un .not (.t 13)⟩,
    ⟨(some 2), none, .mov (.t 14)⟩])
 (.ret))))⟩
/-- A step of any depth. -/
def AnyS : Type := Σ n : Nat, TStep (n + 1)
def Co.anyS : Co AnyS := ⟨8, fun V cs s => (Co.step (s.1 + 1)).rd V cs s.2, fun s => (Co.step (s.1 + 1)).sm s.2, fun h h' => (Co.step _).mono h h', fun h => by rw [(Co.step _).len h, step_w], fun h => (Co.step _).ones h⟩
def mkA (n : Nat) (k x : Int) (v : Int × Int × Int) (h : Int) (th el : List (TStep n)) : AnyS := ⟨n, (k, x, v, h, th, el)⟩
def shA (s : AnyS) : Shal := (s.2.1, s.2.2.1, s.2.2.2.1, s.2.2.2.2.1)
def allS : (n : Nat) → TStep n → List AnyS
  | 0, _ => []
  | n + 1, (k, x, v, h, th, el) => mkA n k x v h th el :: ((th.map (allS n)).flatten ++ (el.map (allS n)).flatten)
def allSL (n : Nat) (l : List (TStep n)) : List AnyS := (l.map (allS n)).flatten
theorem allS_succ (n : Nat) (k x : Int) (v : Int × Int × Int) (h : Int) (th el : List (TStep n)) : allS (n + 1) (k, x, v, h, th, el) = mkA n k x v h th el :: (allSL n th ++ allSL n el) := rfl
theorem allS_sh : ∀ (n : Nat) (s : TStep n), (allS n s).map shA = allT n s
  | 0, s => s.elim
  | n + 1, (k, x, v, g, th, el) => by
    have go : ∀ l : List (TStep n), (allSL n l).map shA = allL n l := fun l => by
      unfold allSL allL
      rw [List.map_flatten, List.map_map]
      congr 1
      exact List.map_congr_left fun a _ => allS_sh n a
    rw [allS_succ, allT_succ, List.map_cons, List.map_append, go, go]
    rfl
theorem allSL_sh {n : Nat} (l : List (TStep n)) : (allSL n l).map shA = allL n l := by
  unfold allSL allL
  rw [List.map_flatten, List.map_map]
  congr 1
  exact List.map_congr_left fun a _ => allS_sh n a
theorem allSL_len {n : Nat} (l : List (TStep n)) : (allSL n l).length = (allL n l).length := by rw [← allSL_sh, List.length_map]
theorem allSL_take {n : Nat} (l : List (TStep n)) (i : Nat) (h : i < l.length) : allSL n (l.take (i + 1)) = allSL n (l.take i) ++ allS n l[i] := by
  unfold allSL
  rw [List.take_add_one, List.getElem?_eq_getElem h, List.map_append, List.flatten_append]
  congr 1
  simp
theorem allSL_at {n : Nat} (l : List (TStep n)) {i : Nat} (h : i < (allSL n l).length) (h' : i < (allL n l).length) : shA (allSL n l)[i] = (allL n l)[i] := by
  have e := allSL_sh l
  have : ((allSL n l).map shA)[i]? = (allL n l)[i]? := by rw [e]
  rw [List.getElem?_map, List.getElem?_eq_getElem h, List.getElem?_eq_getElem h', Option.map_some, Option.some.injEq] at this
  exact this
/-- The cells of a step of any depth. -/
theorem anyS_rd {V : Vw} {cs : List Value} {s : AnyS} (h : Co.anyS.rd V cs s) : ∃ (k x a b c g : Int) (tv ev : Value) (tl el : List (TStep s.1)), s.2 = (k, x, (a, b, c), g, tl, el) ∧ cs = [.int .i64 k, .int .i64 x, .int .i64 a, .int .i64 b, .int .i64 c, .int .i64 g, tv, ev] ∧ (RgI k ∧ RgI x ∧ RgI a ∧ RgI b ∧ RgI c ∧ RgI g) ∧ Go.Proofs.YtbjeldblaclpnaaI.one tv = true ∧ Go.Proofs.YtbjeldblaclpnaaI.one ev = true ∧ SlR (Co.step s.1) V tv tl ∧ SlR (Co.step s.1) V ev el := by
  obtain ⟨m, s⟩ := s
  obtain ⟨k, x, ⟨a, bb, c⟩, g, tl, el⟩ := s
  obtain ⟨_, _, rfl, ⟨rfl, r1⟩, _, _, rfl, ⟨rfl, r2⟩, _, _, rfl, ⟨_, _, rfl, ⟨rfl, r3⟩, _, _, rfl, ⟨rfl, r4⟩, ⟨rfl, r5⟩⟩, _, _, rfl, ⟨rfl, r6⟩, _, _, rfl, ⟨tv, rfl, h6⟩, ⟨ev, rfl, h7⟩⟩ := h
  have o6 : Go.Proofs.YtbjeldblaclpnaaI.one tv = true := by obtain ⟨_, _, rfl, _⟩ := h6; rfl
  have o7 : Go.Proofs.YtbjeldblaclpnaaI.one ev = true := by obtain ⟨_, _, rfl, _⟩ := h7; rfl
  exact ⟨k, x, a, bb, c, g, tv, ev, tl, el, rfl, rfl, ⟨r1, r2, r3, r4, r5, r6⟩, o6, o7, h6, h7⟩
def AllP (F : Nat → Option IFn) (f n : Nat) : Prop := ∀ (V : Vw) (H : Heap) (v : Value) (l : List (TStep n)), Sub V (vw 0 H) → SlR (Co.step n) V v l → (allL n l).length ≤ 1000 → ∃ w H', KC F f [v] H w H' ∧ (AgX [] H H' ∧ LsV V Co.anyS 8 85 H.length H' w (allSL n l))
theorem iAll_ok {F : Nat → Option IFn} {f n : Nat} (hf : F f = some c_iAll) (ih : ∀ m, n = m + 1 → AllP F 55 m) : AllP F f n := by
  intro V H v l hV hv hcnt
  have hv0 := hv
  obtain ⟨h0, av, rfl, hv1⟩ := hv
  refine KC.mk hf rfl ?_
  refine seq_reg ?_
  simp only [go_sem, binC]
  refine seq_reg ?_
  simp only [go_sem, binC]
  refine seq_assoc (seq_reg ?_)
  simp only [go_sem, binC]
  refine seq_block (wpc_loop ?_)
  suffices h : ∀ (k i : Nat) (e : Env) (Hc : Heap) (w : Value), i + k = l.length → AgX [] H Hc → LsV V Co.anyS 8 85 H.length Hc w (allSL n (l.take i)) → e 3 = w → e 6 = .slice av l.length l.length → e 7 = .int .i64 l.length → e 8 = .int .i64 i → W F H.length _ e Hc _ from
    h l.length 0 _ H nilS (by omega) (AgX.refl _ _) (by simpa [allSL] using LsV.nil) (by simp only [go_sem, binC]) (by simp only [go_sem, binC]) (by simp only [go_sem, binC]) (by (simp only [go_sem, binC]) <;> rfl)
  intro k
  induction k with
  | zero =>
    intro i e Hc w hi ht ho e3 e6 e7 e8
    refine lp_step ?_
    refine seq_reg ?_
    simp only [go_sem, binC, e7, e8]
    refine seq_cond (t := false) (by simp only [go_sem, binC]; rw [decide_eq_false (by omega)]) ?_
    simp only [go_sem, binC]
    refine seq_exit ?_
    simp only [go_sem, binC, thenX_e, out_e, thenX_n]
    refine seq_reg ?_
    simp only [go_sem, binC, e3]
    rw [List.take_of_length_le (by omega)] at ho
    exact wpc_ret ⟨Or.inr rfl, _, (by (simp only [go_sem, binC]) <;> rfl), ht, ho⟩
  | succ k ihk =>
    intro i e Hc w hi ht ho e3 e6 e7 e8
    have hil : i < l.length := by omega
    cases n with
    | zero => exact (l[i]).elim
    | succ n =>
    have hw1 : IntKind.i64.wrap ((i : Int) + 1) = ((i + 1 : Nat) : Int) := by rw [wrap_id (by omega) (by omega)]; omega
    obtain ⟨vb, vo, sk, sx, sa, sbb, sc, sg, tv, ev, tl, el, hav, hs, rg, otv, oev, hgc, htl, hel⟩ := step_atW hv0 hil
    simp only [Value.slice.injEq, and_true] at hav
    subst hav
    have htake := allL_take l i hil
    rw [hs, allT_succ] at htake
    have hle := allL_take_le l (i + 1)
    rw [htake, List.length_append, List.length_cons, List.length_append] at hle
    have htk := allSL_len (l.take i)
    have htl0 := ht.1
    refine lp_step ?_
    refine seq_reg ?_
    simp only [go_sem, binC, e7, e8]
    refine seq_cond (t := true) (by simp only [go_sem, binC]; rw [decide_eq_true (by omega)]) ?_
    simp only [go_sem, binC]
    refine seq_skip (seq_block ?_)
    refine seq_reg ?_
    have hg8 := hgc _ (hV.trans (agx_sub ht))
    simp only [go_sem, binC, e6, e8]
    refine ⟨⟨by omega, by omega⟩, ?_⟩
    simp only [go_sem, binC, Int.toNat_natCast, hg8, otv, oev]
    refine ⟨by omega, ?_⟩
    refine wpc_gen fun H1 hH1 => ?_
    have hx1 : AgX [] Hc H1 := hH1 ▸ AgX.app [] _ _
    have hs1 : H1[Hc.length]? = some ⟨[.int .i64 sk, .int .i64 sx, .int .i64 sa, .int .i64 sbb, .int .i64 sc, .int .i64 sg, tv, ev], 0, 0, false, true⟩ := hH1 ▸ get_new0 _ _
    have hl1 : H1.length = Hc.length + 1 := by rw [hH1, List.length_append]; rfl
    clear hH1
    have ho1 := ho.keep (Nat.le_refl _) hx1 (fun _ _ => by simp)
    have ht1 := ht.tr hx1
    refine seq_reg ?_
    simp only [go_sem, binC, e3, gc_of hs1, inBlk_some, otv, oev]
    have htX : ∀ {Hx Hy : Heap} {wa : Value} {la : List AnyS}, AgX [] H Hx → LsV V Co.anyS 8 85 H.length Hx wa la → AgX (blkOf wa) Hx Hy → AgX [] H Hy := fun h1 h2 h3 => h1.trans h3 (fun _ h _ => h) (fun b hb hl => by have := (h2.blk hb).1; omega)
    refine op_app_ls1 (a := mkA n sk sx (sa, sbb, sc) sg tl el) ho1 (by simp only [go_sem, binC, e3]) (by (simp only [go_sem, binC]) <;> rfl) rfl (step_rd rg.1 rg.2.1 rg.2.2.1 rg.2.2.2.1 rg.2.2.2.2.1 rg.2.2.2.2.2 htl hel) (Nat.le_refl _) (by omega) (by omega) (by omega) fun H2 w2 hx2 _ hn2 ho2 => ?_
    simp only [go_sem, binC]
    have ht2 : AgX [] H H2 := htX ht1 ho1 hx2
    have hs2 := hx2.get hs1 (ho1.nbox hs1)
    have hx2l := hx2.1
    refine seq_reg ?_
    simp only [go_sem, binC, gc_of hs2, inBlk_some, otv]
    obtain ⟨w3, H3, k3, hx3, ho3'⟩ := ih n rfl V H2 tv tl (hV.trans (agx_sub ht2)) htl (by omega)
    refine op_callK (by simp only [go_sem, binC]; exact k3) ?_
    simp only [go_sem, binC]
    have ho3 := ho2.keep (Nat.le_refl _) hx3 (fun _ _ => by simp)
    have ht3 := ht2.tr hx3
    have hs3 := hx3.get hs2 (by simp)
    have hx3l := hx3.1
    have htl2 := allSL_len tl
    have hel2 := allSL_len el
    have hc2 : (allSL (n + 1) (l.take i) ++ [mkA n sk sx (sa, sbb, sc) sg tl el]).length = (allL (n + 1) (l.take i)).length + 1 := by rw [List.length_append, htk]; rfl
    refine op_app_lsN ho3 (by simp only [go_sem, binC]) (by simp only [go_sem, binC]) ho3' (Nat.le_refl _) (by omega) (by omega) (by omega) fun H4 w4 hx4 _ hn4 ho4 => ?_
    simp only [go_sem, binC]
    have ht4 : AgX [] H H4 := htX ht3 ho3 hx4
    have hs4 := hx4.get hs3 (ho3.nbox hs3)
    have hx4l := hx4.1
    refine wpc_reg ?_
    simp only [go_sem, binC, gc_of hs4, inBlk_some, oev]
    obtain ⟨w5, H5, k5, hx5, ho5'⟩ := ih n rfl V H4 ev el (hV.trans (agx_sub ht4)) hel (by omega)
    refine op_callK (by simp only [go_sem, binC]; exact k5) ?_
    simp only [go_sem, binC]
    have ho5 := ho4.keep (Nat.le_refl _) hx5 (fun _ _ => by simp)
    have ht5 := ht4.tr hx5
    have hx5l := hx5.1
    have hc4 : (allSL (n + 1) (l.take i) ++ [mkA n sk sx (sa, sbb, sc) sg tl el] ++ allSL n tl).length = (allL (n + 1) (l.take i)).length + 1 + (allL n tl).length := by rw [List.length_append, hc2, htl2]
    refine op_app_lsN ho5 (by simp only [go_sem, binC]) (by simp only [go_sem, binC]) ho5' (Nat.le_refl _) (by omega) (by omega) (by omega) fun H6 w6 hx6 _ hn6 ho6 => ?_
    simp only [go_sem, binC, out_n, thenX_n]
    refine wpc_reg ?_
    simp only [go_sem, binC, e8, hw1]
    simp only [go_sem, binC, thenX_n]
    refine ihk (i + 1) _ H6 w6 (by omega) (htX ht5 ho5 hx6) ?_ (by simp only [go_sem, binC]) (by simp only [go_sem, binC, e6]) (by simp only [go_sem, binC, e7]) (by simp only [go_sem, binC])
    rw [allSL_take l i hil, hs, allS_succ]
    simpa only [List.append_assoc, List.cons_append, List.nil_append] using ho6
theorem iAll_all {F : Nat → Option IFn} (hf : F 55 = some c_iAll) : ∀ n, AllP F 55 n
  | 0 => iAll_ok hf fun m h => by omega
  | n + 1 => iAll_ok hf fun m h => by cases h; exact iAll_all hf n
theorem has_both : ∀ a b : Fin 8, ∀ h : Fin 3, hasB (bothS (a.val : Int) b.val 3) h.val = (hasB a.val h.val && hasB b.val h.val) := by decide +kernel
theorem hasB_both {a b h : Int} (ha : 0 ≤ a ∧ a ≤ 7) (hb : 0 ≤ b ∧ b ≤ 7) : hasB (bothS a b 3) h = (hasB a h && hasB b h) := by
  by_cases hh : 0 ≤ h ∧ h ≤ 2
  · obtain ⟨x, rfl⟩ := fin8 ha
    obtain ⟨y, rfl⟩ := fin8 hb
    have := has_both x y ⟨h.toNat, by omega⟩
    rwa [show ((⟨h.toNat, by omega⟩ : Fin 3).val : Int) = h by show ((h.toNat : Nat) : Int) = h; omega] at this
  · have q : ∀ s : Int, hasB s h = false := fun s => by
      cases hs : hasB s h with
      | false => rfl
      | true => exact absurd (hasB_in hs) hh
    rw [q, q, q]
    rfl
theorem gcK {H H' : Heap} {b o m : Nat} {cs : List Value} (h : getCells H b o m = some cs) (hx : AgX [] H H') : getCells H' b o m = some cs := by
  unfold getCells at h ⊢
  split at h
  · rename_i k hk
    rw [hx.get hk (by simp)]
    exact h
  · cases h
theorem atT_lab {ls : List (Int × Int)} (hl : ls.all labB = true) : ∀ (n : Nat) (h : Int × Int) (s : TStep n), labB h = true → (atT n ls h s).all labB = true
  | 0, _, s, _ => s.elim
  | n + 1, h, (k, x, v, g, th, el), hh => by
    have go : ∀ (h : Int × Int) (l : List (TStep n)), labB h = true → (atL n ls h l).all labB = true := fun h l hh => by
      unfold atL
      rw [List.all_eq_true]
      intro a ha
      obtain ⟨aq, h1, h2⟩ := List.mem_flatten.1 ha
      obtain ⟨t, _, rfl⟩ := List.mem_map.1 h1
      exact List.all_eq_true.1 (atT_lab hl n h t hh) a h2
    rw [atT_succ, List.all_cons, List.all_append, hh, go _ _ (lboth_bd _ _), go _ _ (lboth_bd _ _)]
    rfl
theorem atL_lab {n : Nat} {ls : List (Int × Int)} {h : Int × Int} (hl : ls.all labB = true) (hh : labB h = true) (l : List (TStep n)) : (atL n ls h l).all labB = true := by
  unfold atL
  rw [List.all_eq_true]
  intro a ha
  obtain ⟨aq, h1, h2⟩ := List.mem_flatten.1 ha
  obtain ⟨t, _, rfl⟩ := List.mem_map.1 h1
  exact List.all_eq_true.1 (atT_lab hl n h t hh) a h2
/-- Why, of a program that is ok. -/
def WhyI (F : Nat → Option IFn) (f : Nat) : Prop := ∀ (H : Heap) (n : Nat) (lv sv : Value) (ls : List (Int × Int)) (l : List (TStep n)), SlR Co.p2 (vw 0 H) lv ls → SlR (Co.step n) (vw 0 H) sv l → (Co.prog n).sm (ls, l) → progB n (ls, l) = true → QC F f [.agg #[lv, sv]] H (.tuple #[.int .i64 (whyV n (ls, l)).1, .bool (whyV n (ls, l)).2])
theorem iWhy0_ok {F : Nat → Option IFn} {f : Nat} (hf : F f = some c_iWhy0) (ga : AtP F 53) (gl : ∀ n, AllP F 55 n) (gs : ISource F 124) (gf : IFlows F 125) (gh : HasOk F 99) : WhyI F f := by
  intro H n lv sv ls l r1 r2 hsm hP
  have osv : one sv = true := by obtain ⟨_, a, rfl, _⟩ := r2; rfl
  obtain ⟨_, la, rfl, _⟩ := id r1
  have hcnt : (allL n l).length ≤ 8 := progB_cnt hP hsm
  have hlab : ls.all labB = true := progB_lab hP
  have hok : ∀ t ∈ allL n l, shB ls.length t = true := progB_sh hP
  refine QC.mk hf rfl ?_
  refine seq_reg ?_
  simp only [go_sem, binC, osv]
  refine wpc_gen fun H1 hH1 => ?_
  have hx1 : AgX [] H H1 := hH1 ▸ AgX.app [] _ _
  have hb1 : H1[H.length]? = some ⟨[.slice la ls.length ls.length, sv], 0, 0, false, true⟩ := hH1 ▸ get_new0 _ _
  clear hH1
  refine seq_reg ?_
  simp only [go_sem, binC, gc_of hb1, inBlk_some, osv]
  obtain ⟨wa, H2, k2, hx2, oa⟩ := ga H1 n _ sv ls l (r1.mono (agx_sub hx1)) (r2.mono (agx_sub hx1)) hsm hP
  refine op_callK (by simp only [go_sem, binC]; exact k2) ?_
  simp only [go_sem, binC]
  have hb2 := hx2.get hb1 (by simp)
  have hx02 := hx1.tr hx2
  refine seq_assoc (seq_reg ?_)
  simp only [go_sem, binC, gc_of hb2, inBlk_some, osv]
  obtain ⟨wl, H3, k3, hx3, ol⟩ := gl n (vw 0 H) H2 sv l (agx_sub hx02) r2 (by omega)
  refine op_callK (by simp only [go_sem, binC]; exact k3) ?_
  obtain ⟨al, hal⟩ := ol.shape
  have hsl := allSL_len l
  rw [hsl] at hal
  rw [hal]
  simp only [go_sem, binC]
  have hb3 := hx3.get hb2 (by simp)
  have hx03 := hx02.tr hx3
  have oa3 := oa.keep (Nat.le_refl _) hx3 (fun _ _ => by simp)
  have hatl := atL_len ls (7, 7) l
  have hall : (atL n ls (7, 7) l).all labB = true := atL_lab hlab rfl l
  refine seq_block (wpc_loop ?_)
  suffices h : ∀ (k i : Nat) (e : Env) (Hc : Heap), i + k = (allL n l).length → AgX [] H3 Hc → e 1 = ptr H.length 0 → e 4 = wa → e 12 = .slice al (allL n l).length (allL n l).length → e 13 = .int .i64 (allL n l).length → e 14 = .int .i64 i → whyV n (ls, l) = why0 ls ((allL n l).drop i) ((atL n ls (7, 7) l).drop i) i → W F H.length _ e Hc _ from
    h (allL n l).length 0 _ H3 (by omega) (AgX.refl _ _) (by simp only [go_sem, binC]) (by simp only [go_sem, binC]) (by simp only [go_sem, binC]) (by simp only [go_sem, binC]) (by (simp only [go_sem, binC]) <;> rfl) (by rw [whyV_yes hP, List.drop_zero, List.drop_zero])
  intro k
  induction k with
  | zero =>
    intro i e Hc hi hxc e1 e4 e12 e13 e14 hw
    refine lp_step ?_
    refine seq_reg ?_
    simp only [go_sem, binC, e13, e14]
    refine seq_cond (t := false) (by simp only [go_sem, binC]; rw [decide_eq_false (by omega)]) ?_
    simp only [go_sem, binC]
    refine seq_exit ?_
    simp only [go_sem, binC, thenX_e, out_e, thenX_n]
    refine seq_reg ?_
    simp only [go_sem, binC]
    refine wpc_ret ⟨Or.inr rfl, .tuple #[.int .i64 0, .bool false], by simp [resV, resL, res1, putE_get, notT], ?_, rfl⟩
    rw [hw, List.drop_of_length_le (by omega)]
    rfl
  | succ k ih =>
    intro i e Hc hi hxc e1 e4 e12 e13 e14 hw
    have hil : i < (allL n l).length := by omega
    have hia : i < (atL n ls (7, 7) l).length := by omega
    have hw1 : IntKind.i64.wrap ((i : Int) + 1) = ((i + 1 : Nat) : Int) := by rw [wrap_id (by omega) (by omega)]; omega
    have hx0c := hx03.tr hxc
    have hbc := hxc.get hb3 (by simp)
    obtain ⟨ba, ca, hwa, gca, rda⟩ := (oa3.keep (Nat.le_refl _) hxc (fun _ _ => by simp)).at hia
    obtain ⟨bs, cs, hws, gcs, rds⟩ := (ol.keep (Nat.le_refl _) hxc (fun _ _ => by simp)).at (show i < (allSL n l).length by omega)
    rw [hal, hsl] at hws
    simp only [Value.slice.injEq, and_true] at hws
    subst hws
    have hsame := allSL_at l (show i < (allSL n l).length by omega) hil
    obtain ⟨sk, sx, sa, sbb, sc, sg, tv, ev, tl, el, hs2, hcs, rg, otv, oev, _, _⟩ := anyS_rd rds
    have hsh' : shA (allSL n l)[i] = (sk, sx, (sa, sbb, sc), sg) := by unfold shA; rw [hs2]
    rw [hsh'] at hsame
    subst hcs
    have hoki := hok _ (List.getElem_mem hil)
    rw [List.drop_eq_getElem_cons hil, List.drop_eq_getElem_cons hia, why0, ← hsame] at hw
    rw [← hsame] at hoki
    have hoi : labB (atL n ls (7, 7) l)[i] = true := List.all_eq_true.1 hall _ (List.getElem_mem _)
    generalize (atL n ls (7, 7) l)[i] = hr at rda hoi hw
    obtain ⟨ra, rb⟩ := hr
    obtain ⟨_, _, rfl, ⟨hq1, _⟩, ⟨hq2, _⟩⟩ := rda
    simp only at hq1 hq2
    subst hq1 hq2
    simp only [shB, Bool.and_eq_true] at hoki
    have hvx : 0 ≤ sx ∧ sx < ls.length := varB_i.1 hoki.1
    obtain ⟨lb, lo', hla, hgl0, _⟩ := lab_at (r1.mono (agx_sub hx0c)) (H := Hc) (fun _ _ h => h) hvx.1 hvx.2
    simp only [Value.slice.injEq, and_true] at hla
    subst hla
    have hlx := lab_getD hlab sx.toNat
    rw [hatl] at hwa
    have hxcl := hxc.1
    have hx03l := hx03.1
    refine lp_step ?_
    refine seq_reg ?_
    simp only [go_sem, binC, e13, e14]
    refine seq_cond (t := true) (by simp only [go_sem, binC]; rw [decide_eq_true (by omega)]) ?_
    simp only [go_sem, binC]
    refine seq_skip (seq_block ?_)
    refine seq_reg ?_
    simp only [go_sem, binC, e12, e14]
    refine ⟨⟨by omega, by omega⟩, ?_⟩
    simp only [go_sem, binC, Int.toNat_natCast, Nat.zero_add, gcs, otv, oev]
    refine ⟨by omega, ?_⟩
    refine wpc_gen fun H4 hH4 => ?_
    have hx4 : AgX [] Hc H4 := hH4 ▸ AgX.app [] _ _
    have hs4 : H4[Hc.length]? = some ⟨[.int .i64 sk, .int .i64 sx, .int .i64 sa, .int .i64 sbb, .int .i64 sc, .int .i64 sg, tv, ev], 0, 0, false, true⟩ := hH4 ▸ get_new0 _ _
    have hl4 : H4.length = Hc.length + 1 := by rw [hH4, List.length_append]; rfl
    have hgl4 : getCells H4 lb (lo' + sx.toNat * 2) 2 = some [.int .i64 (ls.getD sx.toNat (0, 0)).1, .int .i64 (ls.getD sx.toNat (0, 0)).2] := hH4 ▸ hgl0 _
    clear hH4
    have hb4 := hx4.get hbc (by simp)
    refine seq_reg ?_
    simp only [go_sem, binC, e1, gc_of hb4, gc_of hs4, inBlk_some]
    refine ⟨⟨by omega, by omega⟩, ?_⟩
    simp only [go_sem, binC, hgl4]
    refine ⟨by omega, ?_⟩
    refine wpc_gen fun H5 hH5 => ?_
    have hx5 : AgX [] H4 H5 := hH5 ▸ AgX.app [] _ _
    have ht5 : H5[H4.length]? = some ⟨[.int .i64 (ls.getD sx.toNat (0, 0)).1, .int .i64 (ls.getD sx.toNat (0, 0)).2], 0, 0, false, true⟩ := hH5 ▸ get_new0 _ _
    clear hH5
    have hb5 := hx5.get hb4 (by simp)
    have hs5 := hx5.get hs4 (by simp)
    have hxc5 := hx4.tr hx5
    have hx35 := hxc.tr hxc5
    have gca5 := gcK gca hxc5
    have r15 := r1.mono (agx_sub (hx0c.tr hxc5))
    refine seq_reg ?_
    simp only [go_sem, binC, gc_of hs5, inBlk_some]
    refine wpc_block ?_
    refine seq_reg ?_
    by_cases k1 : sk = 1
    · simp only [go_sem, binC, beq_t k1]
      refine wpc_cond (t := true) rfl ?_
      simp only [go_sem, binC]
      have hval : valB ls.length (sa, sbb, sc) = true := by have := hoki.2; rwa [if_pos k1] at this
      have hsrc := srcL_val hlab hoi hval
      have hfin : fineB ls (sk, sx, (sa, sbb, sc), sg) (ra, rb) = flowsB (srcL ls (sa, sbb, sc) (ra, rb)) (ls.getD sx.toNat (0, 0)) := by
        unfold fineB
        rw [if_pos k1, hsrc]
      refine seq_regD ?_
      simp only [go_sem, binC, e1, e4, hwa, gc_of hb5, gc_of hs5, gc_of ht5, inBlk_some, osv, otv, oev]
      refine ⟨⟨by omega, by omega⟩, ?_⟩
      simp only [go_sem, binC, Int.toNat_natCast, Nat.zero_add, gca5]
      refine op_callQ (by simp only [go_sem, binC]; exact gs H5 _ sv tv ev ls sk sx sa sbb sc sg (ra, rb) osv otv oev rg.2.2.2.1 rg.2.2.2.2.1 r15 hlab hval hoi) ?_
      simp only [go_sem, binC, gc_of ht5, inBlk_some]
      refine op_callQ (by simp only [go_sem, binC]; exact gf H5 _ _ (srcL_lab hoi) hlx) ?_
      rw [← hfin]
      cases hfi : fineB ls (sk, sx, (sa, sbb, sc), sg) (ra, rb) with
      | true =>
        simp only [go_sem, binC]
        refine wpc_cond (t := false) rfl ?_
        simp only [go_sem, binC]
        refine wpc_skip ?_
        simp only [go_sem, binC, out_n, thenX_n]
        refine wpc_reg ?_
        simp only [go_sem, binC, e14, hw1]
        simp only [go_sem, binC, thenX_n]
        rw [hfi, if_pos rfl] at hw
        exact ih (i + 1) _ H5 (by omega) hx35 (by simp only [go_sem, binC, e1]) (by simp only [go_sem, binC, e4]) (by simp only [go_sem, binC, e12]) (by simp only [go_sem, binC, e13]) (by simp only [go_sem, binC]) hw
      | false =>
        simp only [go_sem, binC]
        refine wpc_cond (t := true) rfl ?_
        simp only [go_sem, binC]
        refine seq_reg ?_
        simp only [go_sem, binC]
        refine wpc_ret ?_
        simp only [go_sem, binC, out_r, thenX_r]
        rw [hfi, if_neg (by simp)] at hw
        exact ⟨Or.inr rfl, .tuple #[.int .i64 i, .bool true], by simp [resV, resL, res1, putE_get, notT], by rw [hw], rfl⟩
    simp only [go_sem, binC, beq_f k1]
    refine wpc_cond (t := false) rfl ?_
    simp only [go_sem, binC]
    refine seq_reg ?_
    by_cases k3 : sk = 3
    · simp only [go_sem, binC, beq_t k3]
      refine wpc_cond (t := true) rfl ?_
      simp only [go_sem, binC]
      have hoiB := labB_i.1 hoi
      have hlxB := labB_i.1 hlx
      simp only at hoiB
      have hfin : fineB ls (sk, sx, (sa, sbb, sc), sg) (ra, rb) = (hasB ra sg && hasB (ls.getD sx.toNat (0, 0)).1 sg) := by
        unfold fineB
        rw [if_neg k1, if_pos k3, hasB_both hoiB.1 hlxB.1]
      refine seq_regD ?_
      simp only [go_sem, binC, e4, hwa, gc_of hs5, inBlk_some]
      refine ⟨⟨by omega, by omega⟩, ?_⟩
      have gca50 : getCells H5 ba (i * 2) 1 = some [.int .i64 ra] := by have := gc_part (off := 0) (k := 1) gca5 (by omega); simpa using this
      simp only [go_sem, binC, Int.toNat_natCast, Nat.zero_add, gca50]
      refine op_callQ (by simp only [go_sem, binC]; exact gh H5 ra sg hoiB.1.1 hoiB.1.2) ?_
      cases ha1 : hasB ra sg with
      | false =>
        rw [ha1, Bool.false_and] at hfin
        have hfi := hfin
        simp only [go_sem, binC]
        refine wpc_cond (t := true) rfl ?_
        simp only [go_sem, binC]
        refine seq_reg ?_
        simp only [go_sem, binC]
        refine wpc_ret ?_
        simp only [go_sem, binC, out_r, thenX_r]
        rw [hfi, if_neg (by simp)] at hw
        exact ⟨Or.inr rfl, .tuple #[.int .i64 i, .bool true], by simp [resV, resL, res1, putE_get, notT], by rw [hw], rfl⟩
      | true =>
        rw [ha1, Bool.true_and] at hfin
        simp only [go_sem, binC, gc_of ht5, gc_of hs5, inBlk_some]
        refine op_callQ (by simp only [go_sem, binC]; exact gh H5 _ sg hlxB.1.1 hlxB.1.2) ?_
        rw [← hfin]
        cases hfi : fineB ls (sk, sx, (sa, sbb, sc), sg) (ra, rb) with
        | true =>
          simp only [go_sem, binC]
          refine wpc_cond (t := false) rfl ?_
          simp only [go_sem, binC]
          refine wpc_skip ?_
          simp only [go_sem, binC, out_n, thenX_n]
          refine wpc_reg ?_
          simp only [go_sem, binC, e14, hw1]
          simp only [go_sem, binC, thenX_n]
          rw [hfi, if_pos rfl] at hw
          exact ih (i + 1) _ H5 (by omega) hx35 (by simp only [go_sem, binC, e1]) (by simp only [go_sem, binC, e4]) (by simp only [go_sem, binC, e12]) (by simp only [go_sem, binC, e13]) (by simp only [go_sem, binC]) hw
        | false =>
          simp only [go_sem, binC]
          refine wpc_cond (t := true) rfl ?_
          simp only [go_sem, binC]
          refine seq_reg ?_
          simp only [go_sem, binC]
          refine wpc_ret ?_
          simp only [go_sem, binC, out_r, thenX_r]
          rw [hfi, if_neg (by simp)] at hw
          exact ⟨Or.inr rfl, .tuple #[.int .i64 i, .bool true], by simp [resV, resL, res1, putE_get, notT], by rw [hw], rfl⟩
    · simp only [go_sem, binC, beq_f k3]
      refine wpc_cond (t := false) rfl ?_
      simp only [go_sem, binC]
      refine wpc_skip ?_
      simp only [go_sem, binC, out_n, thenX_n]
      have hfi : fineB ls (sk, sx, (sa, sbb, sc), sg) (ra, rb) = true := by
        unfold fineB
        rw [if_neg k1, if_neg k3]
      refine wpc_reg ?_
      simp only [go_sem, binC, e14, hw1]
      simp only [go_sem, binC, thenX_n]
      rw [hfi, if_pos rfl] at hw
      exact ih (i + 1) _ H5 (by omega) hx35 (by simp only [go_sem, binC, e1]) (by simp only [go_sem, binC, e4]) (by simp only [go_sem, binC, e12]) (by simp only [go_sem, binC, e13]) (by simp only [go_sem, binC]) hw
def typeP (n : Nat) (p : TProg n) : Bool := progB n p && !(whyV n p).2
def TypeP (F : Nat → Option IFn) (f : Nat) : Prop := ∀ (H : Heap) (n : Nat) (lv sv : Value) (ls : List (Int × Int)) (l : List (TStep n)), SlR Co.p2 (vw 0 H) lv ls → SlR (Co.step n) (vw 0 H) sv l → (Co.prog n).sm (ls, l) → QC F f [.agg #[lv, sv]] H (.bool (typeP n (ls, l)))
theorem iTypeOk_ok {F : Nat → Option IFn} {f : Nat} (hf : F f = some c_iTypeOk) (gp : ProgOk F 61) (gw : WhyI F 86) : TypeP F f := by
  intro H n lv sv ls l r1 r2 hsm
  have olv : one lv = true := by obtain ⟨_, a, rfl, _⟩ := r1; rfl
  have osv : one sv = true := by obtain ⟨_, a, rfl, _⟩ := r2; rfl
  refine QC.mk hf rfl ?_
  refine seq_reg ?_
  simp only [go_sem, binC, olv, osv]
  refine wpc_gen fun H1 hH1 => ?_
  have hx1 : AgX [] H H1 := hH1 ▸ AgX.app [] _ _
  have hb : H1[H.length]? = some ⟨[lv, sv], 0, 0, false, true⟩ := hH1 ▸ get_new0 _ _
  clear hH1
  have hS := agx_sub hx1
  unfold typeP
  refine seq_assoc (seq_reg ?_)
  simp only [go_sem, binC, gc_of hb, inBlk_some, olv, osv]
  refine op_callQ (by simp only [go_sem, binC]; exact gp H1 n _ (ls, l) (prog_rd (r1.mono hS) (r2.mono hS)) hsm) ?_
  cases hP : progB n (ls, l) with
  | false =>
    simp only [go_sem, binC]
    refine seq_cond (t := true) rfl ?_
    simp only [go_sem, binC]
    refine seq_assoc (seq_reg ?_)
    simp only [go_sem, binC]
    exact seq_ret ⟨Or.inr rfl, _, (by (simp only [go_sem, binC]) <;> rfl), rfl, rfl⟩
  | true =>
    simp only [go_sem, binC]
    refine seq_cond (t := false) rfl ?_
    simp only [go_sem, binC]
    refine seq_skip (seq_reg ?_)
    simp only [go_sem, binC, gc_of hb, inBlk_some, olv, osv]
    refine op_callQ (by simp only [go_sem, binC]; exact gw H1 n _ _ ls l (r1.mono hS) (r2.mono hS) hsm hP) ?_
    simp only [go_sem, binC]
    refine seq_reg ?_
    simp only [go_sem, binC]
    exact wpc_ret ⟨Or.inr rfl, _, (by (simp only [go_sem, binC]) <;> rfl), rfl, rfl⟩
end Go.Proofs.YtbjeldblaclpnaaI
end
section
/- Who trusts what steps set. -/
set_option linter.unusedVariables false
set_option linter.unusedSimpArgs false
namespace Go.Proofs.YtbjeldblaclpnaaI
open Go Go.RowKit
def iSetsTail : ICode := (.reg (some 10) [
        ⟨(some 26), none, .mov (.t 5)⟩,
        ⟨(some 27), none, .load true 2 (.t 2)⟩,
        ⟨(some 28), none, .fad 6 (.t 7)⟩,
        ⟨(some 29), none, .load false 1 (.t 28)⟩,
        ⟨(some 30), none, .call .q (.f 83) [(.t 27), (.t 29)]⟩,
        ⟨(some 31), none, .load true 2 (.t 2)⟩,
        ⟨(some 32), none, .fad 7 (.t 7)⟩,
        ⟨(some 33), none, .load false 1 (.t 32)⟩,
        ⟨(some 34), none, .call .q (.f 83) [(.t 31), (.t 33)]⟩,
        ⟨(some 35), none, .bin .or (.t 30) (.t 34)⟩,
        ⟨(some 36), none, .bin .or (.t 26) (.t 35)⟩,
        ⟨(some 5), none, .mov (.t 36)⟩])
def c_iSets : IFn := ⟨2, 39, [.t 4],
 .seq (.reg none [
    ⟨(some 2), none, .box (.t 0)⟩,
    ⟨(some 4), none, .mov (.c (.int .i64 0))⟩])
 (.seq (.reg none [
    ⟨(some 5), none, .mov (.c (.int .i64 0))⟩])
 (.seq (.seq (.reg none [
     ⟨(some 8), none, .mov (.t 1)⟩,
     ⟨(some 9), none, .len (.t 8)⟩,
     ⟨(some 10), none, .mov (.c (.int .i64 0))⟩])
  (.block 0 (.loop (.seq (.reg none [
       ⟨(some 11), none, .bin .lss (.t 10) (.t 9)⟩])
    (.seq (.cond (.t 11) (.skip) (.exit 0))
    (.seq (.block 1 (.seq (.reg none [
         ⟨(some 12), none, .iad 8 (.t 8) (.t 10)⟩,
         ⟨(some 13), none, .load true 8 (.t 12)⟩,
         ⟨(some 7), none, .new [(.int .i64 0), (.int .i64 0), (.int .i64 0), (.int .i64 0), (.int .i64 0), (.int .i64 0), (.slice none 0 0), (.slice none 0 0)]⟩,
         ⟨none, none, .store 8 (.t 7) (.t 13)⟩])
      (.seq (.seq (.reg none [
          ⟨(some 14), none, .fad 0 (.t 7)⟩,
          ⟨(some 15), none, .load false 1 (.t 14)⟩,
          ⟨(some 16), none, .bin .eql (.t 15) (.c (.int .i64 1))⟩])
       (.cond (.t 16) (.reg none [
          ⟨(some 17), none, .mov (.t 5)⟩,
          ⟨(some 18), none, .fad 0 (.t 2)⟩,
          ⟨(some 19), none, .load false 1 (.t 18)⟩,
          ⟨(some 20), none, .fad 1 (.t 7)⟩,
          ⟨(some 21), none, .load false 1 (.t 20)⟩,
          ⟨(some 22), none, .iad 2 (.t 19) (.t 21)⟩,
          ⟨(some 23), none, .fad 1 (.t 22)⟩,
          ⟨(some 24), none, .load false 1 (.t 23)⟩,
          ⟨(some 25), none, .bin .or (.t 17) (.t 24)⟩,
          ⟨(some 5), none, .mov (.t 25)⟩]) (.skip)))
      iSetsTail)))
    (.reg none [
      ⟨(some 37), none, .bin .add (.t 10) (.c (.int .i64 1))⟩,
      ⟨(some 10), none, .mov (.t 37)⟩])))))))
 (.seq (.reg none [
    ⟨(some 38), none, .mov (.t 5)⟩,
    ⟨(some 4), none, .mov (.t 38)⟩])
 (.ret))))⟩
def sSetsTail : ICode := (.reg (some 10) [
        ⟨(some 30), none, .mov (.t 5)⟩,
        ⟨(some 31), none, .load true 2 (.t 2)⟩,
        ⟨(some 32), none, .fad 6 (.t 7)⟩,
        ⟨(some 33), none, .load false 1 (.t 32)⟩,
        ⟨(some 34), none, .call .q (.f 134) [(.t 31), (.t 33)]⟩,
        ⟨(some 35), none, .load true 2 (.t 2)⟩,
        ⟨(some 36), none, .fad 7 (.t 7)⟩,
        ⟨(some 37), none, .load false 1 (.t 36)⟩,
        ⟨(some 38), none, .call .q (.f 134) [(.t 35), (.t 37)]⟩,
        ⟨(some 39), none, .call .q (.f 90) [(.t 34), (.t 38)]⟩,
        ⟨(some 40), none, .call .q (.f 90) [(.t 30), (.t 39)]⟩,
        ⟨(some 5), none, .mov (.t 40)⟩])
def c_sSets : IFn := ⟨2, 42, [.t 4],
 .seq (.reg none [
    ⟨(some 2), none, .box (.t 0)⟩,
    ⟨(some 4), none, .mov (.c (.int .i64 0))⟩])
 (.seq (.reg none [
    ⟨(some 5), none, .mov (.c (.int .i64 0))⟩])
 (.seq (.seq (.reg none [
     ⟨(some 6), none, .mov (.c (.int .i64 0))⟩])
  (.block 0 (.loop (.seq (.seq (.reg none [
        ⟨(some 8), none, .mov (.t 6)⟩,
        ⟨(some 9), none, .mov (.t 1)⟩,
        ⟨(some 10), none, .len (.t 9)⟩,
        ⟨(some 11), none, .bin .lss (.t 8) (.t 10)⟩])
     (.cond (.t 11) (.skip) (.exit 0)))
    (.seq (.block 1 (.seq (.reg none [
         ⟨(some 14), none, .mov (.t 1)⟩,
         ⟨(some 15), none, .mov (.t 6)⟩,
         ⟨(some 16), none, .iad 8 (.t 14) (.t 15)⟩,
         ⟨(some 17), none, .load true 8 (.t 16)⟩,
         ⟨(some 7), none, .new [(.int .i64 0), (.int .i64 0), (.int .i64 0), (.int .i64 0), (.int .i64 0), (.int .i64 0), (.slice none 0 0), (.slice none 0 0)]⟩,
         ⟨none, none, .store 8 (.t 7) (.t 17)⟩])
      (.seq (.seq (.reg none [
          ⟨(some 18), none, .fad 0 (.t 7)⟩,
          ⟨(some 19), none, .load false 1 (.t 18)⟩,
          ⟨(some 20), none, .bin .eql (.t 19) (.c (.int .i64 1))⟩])
       (.cond (.t 20) (.reg none [
          ⟨(some 21), none, .mov (.t 5)⟩,
          ⟨(some 22), none, .fad 0 (.t 2)⟩,
          ⟨(some 23), none, .load false 1 (.t 22)⟩,
          ⟨(some 24), none, .fad 1 (.t 7)⟩,
          ⟨(some 25), none, .load false 1 (.t 24)⟩,
          ⟨(some 26), none, .iad 2 (.t 23) (.t 25)⟩,
          ⟨(some 27), none, .fad 1 (.t 26)⟩,
          ⟨(some 28), none, .load false 1 (.t 27)⟩,
          ⟨(some 29), none, .call .q (.f 90) [(.t 21), (.t 28)]⟩,
          ⟨(some 5), none, .mov (.t 29)⟩]) (.skip)))
      sSetsTail)))
    (.reg none [
      ⟨(some 12), none, .mov (.t 6)⟩,
      ⟨(some 13), none, .bin .add (.t 12) (.c (.int .i64 1))⟩,
      ⟨(some 6), none, .mov (.t 13)⟩]))))))
 (.seq (.reg none [
    ⟨(some 41), none, .mov (.t 5)⟩,
    ⟨(some 4), none, .mov (.t 41)⟩])
 (.ret))))⟩
def orS (a b : Int) : Int := a + b - bothS a b 3
theorem orS_all : ∀ a b : Fin 8, (0 ≤ orS (a.val : Int) b.val ∧ orS (a.val : Int) b.val ≤ 7) ∧ IntKind.i64.wrap ((BitVec.ofInt 64 (a.val : Int) ||| BitVec.ofInt 64 (b.val : Int)).toNat : Nat) = orS a.val b.val ∧ orS 0 (a.val : Int) = a.val ∧ orS (a.val : Int) 0 = a.val ∧ orS (a.val : Int) b.val = orS b.val a.val ∧ orS (a.val : Int) a.val = a.val := by decide +kernel
theorem orS_asc : ∀ a b c : Fin 8, orS (orS (a.val : Int) b.val) c.val = orS a.val (orS b.val c.val) := by decide +kernel
abbrev R7 (a : Int) : Prop := 0 ≤ a ∧ a ≤ 7
theorem orS_bd {a b : Int} (ha : R7 a) (hb : R7 b) : R7 (orS a b) := by
  obtain ⟨x, rfl⟩ := fin8 ha
  obtain ⟨y, rfl⟩ := fin8 hb
  exact (orS_all x y).1
theorem or_orS {a b : Int} (ha : R7 a) (hb : R7 b) : IntKind.i64.wrap ((BitVec.ofInt 64 a ||| BitVec.ofInt 64 b).toNat : Nat) = orS a b := by
  obtain ⟨x, rfl⟩ := fin8 ha
  obtain ⟨y, rfl⟩ := fin8 hb
  exact (orS_all x y).2.1
theorem orS_0 {a : Int} (ha : R7 a) : orS 0 a = a := by
  obtain ⟨x, rfl⟩ := fin8 ha
  exact (orS_all x 0).2.2.1
theorem orS_assoc {a b c : Int} (ha : R7 a) (hb : R7 b) (hc : R7 c) : orS (orS a b) c = orS a (orS b c) := by
  obtain ⟨x, rfl⟩ := fin8 ha
  obtain ⟨y, rfl⟩ := fin8 hb
  obtain ⟨z, rfl⟩ := fin8 hc
  exact orS_asc x y z
theorem binI_orJ {a b : Int} (ha : R7 a) (hb : R7 b) : binI .or .i64 a b = some (.int .i64 (orS a b)) := by
  show some (Value.int .i64 (IntKind.i64.wrap ((BitVec.ofInt 64 a ||| BitVec.ofInt 64 b).toNat : Nat))) = _
  rw [or_orS ha hb]
def stT : (n : Nat) → List (Int × Int) → TStep n → Int
  | 0, _, s => s.elim
  | n + 1, ls, (k, x, _, _, th, el) => orS (if k = 1 then (ls.getD x.toNat (0, 0)).2 else 0) (orS ((th.map (stT n ls)).foldl orS 0) ((el.map (stT n ls)).foldl orS 0))
def stL (n : Nat) (ls : List (Int × Int)) (l : List (TStep n)) : Int := (l.map (stT n ls)).foldl orS 0
theorem stT_succ (n : Nat) (ls : List (Int × Int)) (k x : Int) (v : Int × Int × Int) (g : Int) (th el : List (TStep n)) : stT (n + 1) ls (k, x, v, g, th, el) = orS (if k = 1 then (ls.getD x.toNat (0, 0)).2 else 0) (orS (stL n ls th) (stL n ls el)) := rfl
theorem stL_take {n : Nat} {ls : List (Int × Int)} {l : List (TStep n)} {i : Nat} (h : i < l.length) : stL n ls (l.take (i + 1)) = orS (stL n ls (l.take i)) (stT n ls l[i]) := by
  unfold stL
  rw [List.take_add_one, List.getElem?_eq_getElem h, List.map_append, List.foldl_append]
  rfl
theorem foldl_bd : ∀ (xs : List Int) (a : Int), R7 a → (∀ x ∈ xs, R7 x) → R7 (xs.foldl orS a)
  | [], _, h, _ => h
  | x :: xs, a, h, hx => foldl_bd xs _ (orS_bd h (hx x List.mem_cons_self)) fun y hy => hx y (List.mem_cons_of_mem _ hy)
theorem stT_bd {ls : List (Int × Int)} (hl : ls.all labB = true) : ∀ (n : Nat) (s : TStep n), R7 (stT n ls s)
  | 0, s => s.elim
  | n + 1, (k, x, v, g, th, el) => by
    have go : ∀ l : List (TStep n), R7 (stL n ls l) := fun l => foldl_bd _ _ ⟨by omega, by omega⟩ fun y hy => by
      obtain ⟨a, _, rfl⟩ := List.mem_map.1 hy
      exact stT_bd hl n a
    rw [stT_succ]
    refine orS_bd ?_ (orS_bd (go th) (go el))
    split
    · exact (labB_i.1 (lab_getD hl _)).2
    · exact ⟨by omega, by omega⟩
theorem stL_bd {ls : List (Int × Int)} (hl : ls.all labB = true) {n : Nat} (l : List (TStep n)) : R7 (stL n ls l) := foldl_bd _ _ ⟨by omega, by omega⟩ fun y hy => by
  obtain ⟨a, _, rfl⟩ := List.mem_map.1 hy
  exact stT_bd hl n a
def EitherOk (F : Nat → Option IFn) (f : Nat) : Prop := ∀ (H : Heap) (a b : Int), 0 ≤ a → a ≤ 7 → 0 ≤ b → b ≤ 7 → QC F f [.int .i64 a, .int .i64 b] H (.int .i64 (orS a b))
def STOk (F : Nat → Option IFn) (f n : Nat) : Prop := ∀ (H : Heap) (lv sv v : Value) (ls : List (Int × Int)) (l : List (TStep n)), one sv = true → SlR Co.p2 (vw 0 H) lv ls → SlR (Co.step n) (vw 0 H) v l → ls.all labB = true → (∀ s ∈ allL n l, varB ls.length s.2.1 = true) → QC F f [.agg #[lv, sv], v] H (.int .i64 (stL n ls l))
theorem iSets_ok {F : Nat → Option IFn} {f n : Nat} (hf : F f = some c_iSets) (ih : ∀ m, n = m + 1 → STOk F 83 m) : STOk F f n := by
  intro H lv sv v ls l osv r1 hv hlab hvar
  obtain ⟨_, la, rfl, _⟩ := id r1
  have hv0 := hv
  obtain ⟨h0, av, rfl, hv1⟩ := hv
  refine QC.mk hf rfl ?_
  refine seq_reg ?_
  simp only [go_sem, binC, osv]
  refine wpc_gen fun H1 hH1 => ?_
  have hx1 : AgX [] H H1 := hH1 ▸ AgX.app [] _ _
  have hb1 : H1[H.length]? = some ⟨[.slice la ls.length ls.length, sv], 0, 0, false, true⟩ := hH1 ▸ get_new0 _ _
  clear hH1
  refine seq_reg ?_
  simp only [go_sem, binC]
  refine seq_assoc (seq_reg ?_)
  simp only [go_sem, binC]
  refine seq_block (wpc_loop ?_)
  suffices h : ∀ (k i : Nat) (e : Env) (Hc : Heap), i + k = l.length → AgX [] H1 Hc → e 2 = ptr H.length 0 → e 5 = .int .i64 (stL n ls (l.take i)) → e 8 = .slice av l.length l.length → e 9 = .int .i64 l.length → e 10 = .int .i64 i → W F H.length _ e Hc _ from
    h l.length 0 _ H1 (by omega) (AgX.refl _ _) (by simp only [go_sem, binC]) (by (simp only [go_sem, binC]) <;> rfl) (by simp only [go_sem, binC]) (by simp only [go_sem, binC]) (by (simp only [go_sem, binC]) <;> rfl)
  intro k
  induction k with
  | zero =>
    intro i e Hc hi hxc e2 e5 e8 e9 e10
    refine lp_step ?_
    refine seq_reg ?_
    simp only [go_sem, binC, e9, e10]
    refine seq_cond (t := false) (by simp only [go_sem, binC]; rw [decide_eq_false (by omega)]) ?_
    simp only [go_sem, binC]
    refine seq_exit ?_
    simp only [go_sem, binC, thenX_e, out_e, thenX_n]
    refine seq_reg ?_
    simp only [go_sem, binC, e5]
    rw [List.take_of_length_le (by omega)]
    exact wpc_ret ⟨Or.inr rfl, _, (by (simp only [go_sem, binC]) <;> rfl), rfl, rfl⟩
  | succ k ihk =>
    intro i e Hc hi hxc e2 e5 e8 e9 e10
    have hil : i < l.length := by omega
    cases n with
    | zero => exact (l[i]).elim
    | succ n =>
    have hw1 : IntKind.i64.wrap ((i : Int) + 1) = ((i + 1 : Nat) : Int) := by rw [wrap_id (by omega) (by omega)]; omega
    obtain ⟨vb, vo, sk, sx, sa, sbb, sc, sg, tv, ev, tl, el, hav, hs, rg, otv, oev, hgc, htl, hel⟩ := step_at hv0 hil
    simp only [Value.slice.injEq, and_true] at hav
    subst hav
    have hmem : ∀ s, s ∈ allT (n + 1) l[i] → varB ls.length s.2.1 = true := fun s hs' => hvar s (mem_allL hil hs')
    rw [hs, allT_succ] at hmem
    have hvx := varB_i.1 (hmem _ (List.mem_cons_self))
    simp only at hvx
    have hx0c := hx1.tr hxc
    obtain ⟨lb, lo', hla, hgl0, _⟩ := lab_at (r1.mono (agx_sub hx0c)) (H := Hc) (fun _ _ h => h) hvx.1 hvx.2
    simp only [Value.slice.injEq, and_true] at hla
    subst hla
    have hlx := labB_i.1 (lab_getD hlab sx.toNat)
    have hbc := hxc.get hb1 (by simp)
    have hlc := hxc.1
    have hl1 := (List.getElem?_eq_some_iff.1 hb1).1
    have hq0 := stL_bd hlab (l.take i)
    have hqt := stL_bd hlab tl
    have hqe := stL_bd hlab el
    have htake := stL_take (ls := ls) hil
    rw [hs, stT_succ] at htake
    have hg8 := hgc _ (agx_sub hx0c)
    refine lp_step ?_
    refine seq_reg ?_
    simp only [go_sem, binC, e9, e10]
    refine seq_cond (t := true) (by simp only [go_sem, binC]; rw [decide_eq_true (by omega)]) ?_
    simp only [go_sem, binC]
    refine seq_skip (seq_block (seq_reg ?_))
    simp only [go_sem, binC, e8, e10]
    refine ⟨⟨by omega, by omega⟩, ?_⟩
    simp only [go_sem, binC, Int.toNat_natCast, hg8, otv, oev]
    refine ⟨by omega, ?_⟩
    refine wpc_gen fun H2 hH2 => ?_
    have hx2 : AgX [] Hc H2 := hH2 ▸ AgX.app [] _ _
    have hs2 : H2[Hc.length]? = some ⟨[.int .i64 sk, .int .i64 sx, .int .i64 sa, .int .i64 sbb, .int .i64 sc, .int .i64 sg, tv, ev], 0, 0, false, true⟩ := hH2 ▸ get_new0 _ _
    have hgl1 := hgl0 []
    rw [List.append_nil] at hgl1
    have hgl2 : getCells H2 lb (lo' + sx.toNat * 2 + 1) 1 = some [.int .i64 (ls.getD sx.toNat (0, 0)).2] := gcK (gc_part (off := 1) (k := 1) hgl1 (by omega)) hx2
    clear hH2
    have hb2 := hx2.get hbc (by simp)
    have hx02 := hx0c.tr hx2
    have r12 := r1.mono (agx_sub hx02)
    refine wpc_genK fun KK hKK => ?_
    have hrest : ∀ (e' : Env) (o : Int), e' 2 = ptr H.length 0 → e' 5 = .int .i64 o → e' 7 = ptr Hc.length 0 → R7 o → orS o (orS (stL n ls tl) (stL n ls el)) = stL (n + 1) ls (l.take (i + 1)) → e' 8 = e 8 → e' 9 = e 9 → e' 10 = e 10 → wpc F H.length iSetsTail e' H2 KK := by
      intro e' o f2 f5 f7 ho hfin f8 f9 f10
      rw [hKK]
      unfold iSetsTail
      refine wpc_regD ?_
      simp only [go_sem, binC, f2, f5, f7, gc_of hb2, gc_of hs2, inBlk_some, osv, otv]
      refine op_callQ (by simp only [go_sem, binC]; exact ih n rfl H2 _ sv tv ls tl osv r12 (htl.mono (agx_sub hx02)) hlab (fun s hs' => hmem s (List.mem_cons_of_mem _ (List.mem_append_left _ hs')))) ?_
      simp only [go_sem, binC, f2, f7, gc_of hb2, gc_of hs2, inBlk_some, osv, oev]
      refine op_callQ (by simp only [go_sem, binC]; exact ih n rfl H2 _ sv ev ls el osv r12 (hel.mono (agx_sub hx02)) hlab (fun s hs' => hmem s (List.mem_cons_of_mem _ (List.mem_append_right _ hs')))) ?_
      simp only [go_sem, binC, f5, binI_orJ hqt hqe, binI_orJ ho (orS_bd hqt hqe)]
      simp only [go_sem, binC, out_n, thenX_n]
      refine wpc_reg ?_
      simp only [go_sem, binC, f10, e10, hw1]
      simp only [go_sem, binC, thenX_n]
      exact ihk (i + 1) _ H2 (by omega) (hxc.tr hx2) (by simp only [go_sem, binC, f2]) (by simp only [go_sem, binC, hfin]) (by simp only [go_sem, binC, f8, e8]) (by simp only [go_sem, binC, f9, e9]) (by simp only [go_sem, binC])
    refine seq_assoc (seq_reg ?_)
    simp only [go_sem, binC, gc_of hs2, inBlk_some]
    by_cases k1 : sk = 1
    · simp only [go_sem, binC, beq_t k1]
      refine seq_cond (t := true) rfl ?_
      simp only [go_sem, binC]
      refine seq_reg ?_
      simp only [go_sem, binC, e2, e5, gc_of hb2, gc_of hs2, inBlk_some]
      refine ⟨⟨by omega, by omega⟩, ?_⟩
      simp only [go_sem, binC, hgl2, e5, binI_orJ hq0 hlx.2]
      refine hrest _ (orS (stL (n + 1) ls (l.take i)) (ls.getD sx.toNat (0, 0)).2) (by simp only [go_sem, binC, e2]) (by simp only [go_sem, binC]) (by simp only [go_sem, binC]) (orS_bd hq0 hlx.2) ?_ (by simp only [go_sem, binC]) (by simp only [go_sem, binC]) (by simp only [go_sem, binC])
      rw [htake, if_pos k1, orS_assoc hq0 hlx.2 (orS_bd hqt hqe)]
    · simp only [go_sem, binC, beq_f k1]
      refine seq_cond (t := false) rfl ?_
      simp only [go_sem, binC]
      refine seq_skip ?_
      refine hrest _ (stL (n + 1) ls (l.take i)) (by simp only [go_sem, binC, e2]) (by simp only [go_sem, binC, e5]) (by simp only [go_sem, binC]) hq0 ?_ (by simp only [go_sem, binC]) (by simp only [go_sem, binC]) (by simp only [go_sem, binC])
      rw [htake, if_neg k1, orS_0 (orS_bd hqt hqe)]
theorem iSets_all {F : Nat → Option IFn} (hf : F 83 = some c_iSets) : ∀ n, STOk F 83 n
  | 0 => iSets_ok hf fun m h => by omega
  | n + 1 => iSets_ok hf fun m h => by cases h; exact iSets_all hf n
theorem sSets_ok {F : Nat → Option IFn} {f n : Nat} (hf : F f = some c_sSets) (ge : EitherOk F 90) (ih : ∀ m, n = m + 1 → STOk F 134 m) : STOk F f n := by
  intro H lv sv v ls l osv r1 hv hlab hvar
  obtain ⟨_, la, rfl, _⟩ := id r1
  have hv0 := hv
  obtain ⟨h0, av, rfl, hv1⟩ := hv
  refine QC.mk hf rfl ?_
  refine seq_reg ?_
  simp only [go_sem, binC, osv]
  refine wpc_gen fun H1 hH1 => ?_
  have hx1 : AgX [] H H1 := hH1 ▸ AgX.app [] _ _
  have hb1 : H1[H.length]? = some ⟨[.slice la ls.length ls.length, sv], 0, 0, false, true⟩ := hH1 ▸ get_new0 _ _
  clear hH1
  refine seq_reg ?_
  simp only [go_sem, binC]
  refine seq_assoc (seq_reg ?_)
  simp only [go_sem, binC]
  refine seq_block (wpc_loop ?_)
  suffices h : ∀ (k i : Nat) (e : Env) (Hc : Heap), i + k = l.length → AgX [] H1 Hc → e 2 = ptr H.length 0 → e 5 = .int .i64 (stL n ls (l.take i)) → e 1 = .slice av l.length l.length → e 6 = .int .i64 i → W F H.length _ e Hc _ from
    h l.length 0 _ H1 (by omega) (AgX.refl _ _) (by simp only [go_sem, binC]) (by (simp only [go_sem, binC]) <;> rfl) (by simp only [go_sem, binC]) (by (simp only [go_sem, binC]) <;> rfl)
  intro k
  induction k with
  | zero =>
    intro i e Hc hi hxc e2 e5 e1 e6
    refine lp_step ?_
    refine seq_assoc (seq_reg ?_)
    simp only [go_sem, binC, e1, e6]
    refine seq_cond (t := false) (by simp only [go_sem, binC]; rw [decide_eq_false (by omega)]) ?_
    simp only [go_sem, binC]
    refine seq_exit ?_
    simp only [go_sem, binC, thenX_e, out_e, thenX_n]
    refine seq_reg ?_
    simp only [go_sem, binC, e5]
    rw [List.take_of_length_le (by omega)]
    exact wpc_ret ⟨Or.inr rfl, _, (by (simp only [go_sem, binC]) <;> rfl), rfl, rfl⟩
  | succ k ihk =>
    intro i e Hc hi hxc e2 e5 e1 e6
    have hil : i < l.length := by omega
    cases n with
    | zero => exact (l[i]).elim
    | succ n =>
    have hw1 : IntKind.i64.wrap ((i : Int) + 1) = ((i + 1 : Nat) : Int) := by rw [wrap_id (by omega) (by omega)]; omega
    obtain ⟨vb, vo, sk, sx, sa, sbb, sc, sg, tv, ev, tl, el, hav, hs, rg, otv, oev, hgc, htl, hel⟩ := step_at hv0 hil
    simp only [Value.slice.injEq, and_true] at hav
    subst hav
    have hmem : ∀ s, s ∈ allT (n + 1) l[i] → varB ls.length s.2.1 = true := fun s hs' => hvar s (mem_allL hil hs')
    rw [hs, allT_succ] at hmem
    have hvx := varB_i.1 (hmem _ (List.mem_cons_self))
    simp only at hvx
    have hx0c := hx1.tr hxc
    obtain ⟨lb, lo', hla, hgl0, _⟩ := lab_at (r1.mono (agx_sub hx0c)) (H := Hc) (fun _ _ h => h) hvx.1 hvx.2
    simp only [Value.slice.injEq, and_true] at hla
    subst hla
    have hlx := labB_i.1 (lab_getD hlab sx.toNat)
    have hbc := hxc.get hb1 (by simp)
    have hlc := hxc.1
    have hl1 := (List.getElem?_eq_some_iff.1 hb1).1
    have hq0 := stL_bd hlab (l.take i)
    have hqt := stL_bd hlab tl
    have hqe := stL_bd hlab el
    have htake := stL_take (ls := ls) hil
    rw [hs, stT_succ] at htake
    have hg8 := hgc _ (agx_sub hx0c)
    refine lp_step ?_
    refine seq_assoc (seq_reg ?_)
    simp only [go_sem, binC, e1, e6]
    refine seq_cond (t := true) (by simp only [go_sem, binC]; rw [decide_eq_true (by omega)]) ?_
    simp only [go_sem, binC]
    refine seq_skip (seq_block (seq_reg ?_))
    simp only [go_sem, binC, e1, e6]
    refine ⟨⟨by omega, by omega⟩, ?_⟩
    simp only [go_sem, binC, Int.toNat_natCast, hg8, otv, oev]
    refine ⟨by omega, ?_⟩
    refine wpc_gen fun H2 hH2 => ?_
    have hx2 : AgX [] Hc H2 := hH2 ▸ AgX.app [] _ _
    have hs2 : H2[Hc.length]? = some ⟨[.int .i64 sk, .int .i64 sx, .int .i64 sa, .int .i64 sbb, .int .i64 sc, .int .i64 sg, tv, ev], 0, 0, false, true⟩ := hH2 ▸ get_new0 _ _
    have hgl1 := hgl0 []
    rw [List.append_nil] at hgl1
    have hgl2 : getCells H2 lb (lo' + sx.toNat * 2 + 1) 1 = some [.int .i64 (ls.getD sx.toNat (0, 0)).2] := gcK (gc_part (off := 1) (k := 1) hgl1 (by omega)) hx2
    clear hH2
    have hb2 := hx2.get hbc (by simp)
    have hx02 := hx0c.tr hx2
    have r12 := r1.mono (agx_sub hx02)
    refine wpc_genK fun KK hKK => ?_
    have hrest : ∀ (e' : Env) (o : Int), e' 2 = ptr H.length 0 → e' 5 = .int .i64 o → e' 7 = ptr Hc.length 0 → R7 o → orS o (orS (stL n ls tl) (stL n ls el)) = stL (n + 1) ls (l.take (i + 1)) → e' 1 = e 1 → e' 6 = e 6 → wpc F H.length sSetsTail e' H2 KK := by
      intro e' o f2 f5 f7 ho hfin f1 f6
      rw [hKK]
      unfold sSetsTail
      refine wpc_regD ?_
      simp only [go_sem, binC, f2, f5, f7, gc_of hb2, gc_of hs2, inBlk_some, osv, otv]
      refine op_callQ (by simp only [go_sem, binC]; exact ih n rfl H2 _ sv tv ls tl osv r12 (htl.mono (agx_sub hx02)) hlab (fun s hs' => hmem s (List.mem_cons_of_mem _ (List.mem_append_left _ hs')))) ?_
      simp only [go_sem, binC, f2, f7, gc_of hb2, gc_of hs2, inBlk_some, osv, oev]
      refine op_callQ (by simp only [go_sem, binC]; exact ih n rfl H2 _ sv ev ls el osv r12 (hel.mono (agx_sub hx02)) hlab (fun s hs' => hmem s (List.mem_cons_of_mem _ (List.mem_append_right _ hs')))) ?_
      simp only [go_sem, binC]
      refine op_callQ (by simp only [go_sem, binC]; exact ge H2 _ _ hqt.1 hqt.2 hqe.1 hqe.2) ?_
      have hqq := orS_bd hqt hqe
      simp only [go_sem, binC, f5]
      refine op_callQ (by simp only [go_sem, binC, f5]; exact ge H2 _ _ ho.1 ho.2 hqq.1 hqq.2) ?_
      simp only [go_sem, binC]
      simp only [go_sem, binC, out_n, thenX_n]
      refine wpc_reg ?_
      simp only [go_sem, binC, f6, e6, hw1]
      simp only [go_sem, binC, thenX_n]
      exact ihk (i + 1) _ H2 (by omega) (hxc.tr hx2) (by simp only [go_sem, binC, f2]) (by simp only [go_sem, binC, hfin]) (by simp only [go_sem, binC, f1, e1]) (by simp only [go_sem, binC])
    refine seq_assoc (seq_reg ?_)
    simp only [go_sem, binC, gc_of hs2, inBlk_some]
    by_cases k1 : sk = 1
    · simp only [go_sem, binC, beq_t k1]
      refine seq_cond (t := true) rfl ?_
      simp only [go_sem, binC]
      refine seq_reg ?_
      simp only [go_sem, binC, e2, e5, gc_of hb2, gc_of hs2, inBlk_some]
      refine ⟨⟨by omega, by omega⟩, ?_⟩
      simp only [go_sem, binC, hgl2, e5]
      refine op_callQ (by simp only [go_sem, binC, e5]; exact ge H2 _ _ hq0.1 hq0.2 hlx.2.1 hlx.2.2) ?_
      simp only [go_sem, binC]
      refine hrest _ (orS (stL (n + 1) ls (l.take i)) (ls.getD sx.toNat (0, 0)).2) (by simp only [go_sem, binC, e2]) (by simp only [go_sem, binC]) (by simp only [go_sem, binC]) (orS_bd hq0 hlx.2) ?_ (by simp only [go_sem, binC]) (by simp only [go_sem, binC])
      rw [htake, if_pos k1, orS_assoc hq0 hlx.2 (orS_bd hqt hqe)]
    · simp only [go_sem, binC, beq_f k1]
      refine seq_cond (t := false) rfl ?_
      simp only [go_sem, binC]
      refine seq_skip ?_
      refine hrest _ (stL (n + 1) ls (l.take i)) (by simp only [go_sem, binC, e2]) (by simp only [go_sem, binC, e5]) (by simp only [go_sem, binC]) hq0 ?_ (by simp only [go_sem, binC]) (by simp only [go_sem, binC])
      rw [htake, if_neg k1, orS_0 (orS_bd hqt hqe)]
theorem sSets_all {F : Nat → Option IFn} (hf : F 134 = some c_sSets) (ge : EitherOk F 90) : ∀ n, STOk F 134 n
  | 0 => sSets_ok hf ge fun m h => by omega
  | n + 1 => sSets_ok hf ge fun m h => by cases h; exact sSets_all hf ge n
end Go.Proofs.YtbjeldblaclpnaaI
end
section
/- Who may do a step (the program's). -/
set_option linter.unusedVariables false
set_option linter.unusedSimpArgs false
namespace Go.Proofs.YtbjeldblaclpnaaI
open Go Go.RowKit
def c_iMakes : IFn := ⟨1, 12, [.t 2],
 .seq (.reg none [
    ⟨(some 1), none, .box (.t 0)⟩,
    ⟨(some 2), none, .mov (.c (.slice none 0 0))⟩])
 (.seq (.seq (.reg none [
     ⟨(some 3), none, .fad 0 (.t 1)⟩,
     ⟨(some 4), none, .load false 1 (.t 3)⟩,
     ⟨(some 5), none, .bin .eql (.t 4) (.c (.int .i64 1))⟩])
  (.cond (.t 5) (.seq (.reg none [
      ⟨(some 6), none, .fad 2 (.t 1)⟩,
      ⟨(some 7), none, .load true 3 (.t 6)⟩,
      ⟨(some 8), none, .call .k (.f 143) [(.t 7)]⟩,
      ⟨(some 2), none, .mov (.t 8)⟩])
   (.ret)) (.skip)))
 (.seq (.reg none [
    ⟨(some 9), none, .fad 1 (.t 1)⟩,
    ⟨(some 10), none, .load false 1 (.t 9)⟩,
    ⟨(some 11), none, .lit 1 3 1 [(.int .i64 0)] [(0, 1, (.t 10))]⟩,
    ⟨(some 2), none, .mov (.t 11)⟩])
 (.ret)))⟩
def c_iDoes : IFn := ⟨6, 71, [.t 12],
 .seq (.reg none [
    ⟨(some 6), none, .box (.t 0)⟩,
    ⟨(some 9), none, .box (.t 3)⟩,
    ⟨(some 10), none, .box (.t 4)⟩,
    ⟨(some 12), none, .mov (.c (.bool false))⟩])
 (.seq (.seq (.reg none [
     ⟨(some 15), none, .fad 0 (.t 10)⟩,
     ⟨(some 16), none, .load false 1 (.t 15)⟩,
     ⟨(some 17), none, .mov (.t 5)⟩,
     ⟨(some 18), none, .call .q (.f 99) [(.t 16), (.t 17)]⟩,
     ⟨(some 19), none, .un .not (.t 18)⟩,
     ⟨(some 20), none, .mov (.t 19)⟩,
     ⟨(some 21), (some (20, false)), .load true 2 (.t 6)⟩,
     ⟨(some 22), (some (20, false)), .load true 8 (.t 9)⟩,
     ⟨(some 23), (some (20, false)), .lit 8 85 1 [(.int .i64 0), (.int .i64 0), (.int .i64 0), (.int .i64 0), (.int .i64 0), (.int .i64 0), (.slice none 0 0), (.slice none 0 0)] [(0, 8, (.t 22))]⟩,
     ⟨(some 24), (some (20, false)), .call .q (.f 83) [(.t 21), (.t 23)]⟩,
     ⟨(some 25), (some (20, false)), .mov (.t 1)⟩,
     ⟨(some 26), (some (20, false)), .mov (.t 5)⟩,
     ⟨(some 27), (some (20, false)), .call .q (.f 115) [(.t 25), (.t 26)]⟩,
     ⟨(some 28), (some (20, false)), .call .q (.f 114) [(.t 24), (.t 27)]⟩,
     ⟨(some 29), (some (20, false)), .un .not (.t 28)⟩,
     ⟨(some 30), none, .pick (.t 20) (.c (.bool true)) (.t 29)⟩])
  (.cond (.t 30) (.seq (.reg none [
      ⟨(some 12), none, .mov (.c (.bool false))⟩])
   (.ret)) (.skip)))
 (.seq (.seq (.reg none [
     ⟨(some 31), none, .load true 8 (.t 9)⟩,
     ⟨(some 32), none, .call .k (.f 116) [(.t 31)]⟩,
     ⟨(some 33), none, .len (.t 32)⟩,
     ⟨(some 34), none, .mov (.c (.int .i64 0))⟩])
  (.block 0 (.loop (.seq (.reg none [
       ⟨(some 35), none, .bin .lss (.t 34) (.t 33)⟩])
    (.seq (.cond (.t 35) (.skip) (.exit 0))
    (.seq (.block 1 (.seq (.reg none [
         ⟨(some 36), none, .iad 1 (.t 32) (.t 34)⟩,
         ⟨(some 37), none, .load false 1 (.t 36)⟩,
         ⟨(some 14), none, .mov (.t 37)⟩])
      (.seq (.reg (some 16) [
         ⟨(some 38), none, .fad 0 (.t 6)⟩,
         ⟨(some 39), none, .load false 1 (.t 38)⟩,
         ⟨(some 40), none, .mov (.t 14)⟩,
         ⟨(some 41), none, .iad 2 (.t 39) (.t 40)⟩,
         ⟨(some 42), none, .fad 0 (.t 41)⟩,
         ⟨(some 43), none, .load false 1 (.t 42)⟩,
         ⟨(some 44), none, .mov (.t 5)⟩,
         ⟨(some 45), none, .call .q (.f 99) [(.t 43), (.t 44)]⟩,
         ⟨(some 46), none, .un .not (.t 45)⟩,
         ⟨(some 47), none, .mov (.t 46)⟩,
         ⟨(some 48), (some (47, false)), .fad 0 (.t 10)⟩,
         ⟨(some 49), (some (47, false)), .load false 1 (.t 48)⟩,
         ⟨(some 50), (some (47, false)), .mov (.t 2)⟩,
         ⟨(some 51), (some (47, false)), .mov (.t 14)⟩,
         ⟨(some 52), (some (47, false)), .iad 1 (.t 50) (.t 51)⟩,
         ⟨(some 53), (some (47, false)), .load false 1 (.t 52)⟩,
         ⟨(some 54), (some (47, false)), .call .q (.f 99) [(.t 49), (.t 53)]⟩,
         ⟨(some 55), (some (47, false)), .un .not (.t 54)⟩,
         ⟨(some 56), none, .pick (.t 47) (.c (.bool true)) (.t 55)⟩])
      (.cond (.t 56) (.seq (.reg none [
          ⟨(some 12), none, .mov (.c (.bool false))⟩])
       (.ret)) (.skip)))))
    (.reg none [
      ⟨(some 57), none, .bin .add (.t 34) (.c (.int .i64 1))⟩,
      ⟨(some 34), none, .mov (.t 57)⟩])))))))
 (.seq (.reg (some 11) [
    ⟨(some 58), none, .fad 0 (.t 9)⟩,
    ⟨(some 59), none, .load false 1 (.t 58)⟩,
    ⟨(some 60), none, .bin .neq (.t 59) (.c (.int .i64 1))⟩,
    ⟨(some 61), none, .mov (.t 60)⟩,
    ⟨(some 62), (some (61, false)), .fad 0 (.t 10)⟩,
    ⟨(some 63), (some (61, false)), .load false 1 (.t 62)⟩,
    ⟨(some 64), (some (61, false)), .mov (.t 2)⟩,
    ⟨(some 65), (some (61, false)), .fad 1 (.t 9)⟩,
    ⟨(some 66), (some (61, false)), .load false 1 (.t 65)⟩,
    ⟨(some 67), (some (61, false)), .iad 1 (.t 64) (.t 66)⟩,
    ⟨(some 68), (some (61, false)), .load false 1 (.t 67)⟩,
    ⟨(some 69), (some (61, false)), .call .q (.f 99) [(.t 63), (.t 68)]⟩,
    ⟨(some 70), none, .pick (.t 61) (.c (.bool true)) (.t 69)⟩,
    ⟨(some 12), none, .mov (.t 70)⟩])
 (.ret))))⟩
def c_sVars21 : IFn := ⟨1, 29, [.t 2],
 .seq (.reg none [
    ⟨(some 1), none, .box (.t 0)⟩,
    ⟨(some 2), none, .mov (.c (.slice none 0 0))⟩])
 (.seq (.seq (.reg none [
     ⟨(some 3), none, .fad 0 (.t 1)⟩,
     ⟨(some 4), none, .load false 1 (.t 3)⟩])
  (.block 0 (.seq (.reg none [
      ⟨(some 6), none, .bin .eql (.t 4) (.c (.int .i64 1))⟩,
      ⟨(some 5), none, .mov (.t 6)⟩])
   (.cond (.t 5) (.seq (.seq (.reg none [
        ⟨(some 7), none, .fad 2 (.t 1)⟩,
        ⟨(some 8), none, .fad 0 (.t 7)⟩,
        ⟨(some 9), none, .load false 1 (.t 8)⟩])
     (.block 1 (.seq (.reg none [
         ⟨(some 11), none, .bin .eql (.t 9) (.c (.int .i64 1))⟩,
         ⟨(some 10), none, .mov (.t 11)⟩])
      (.cond (.t 10) (.seq (.reg none [
          ⟨(some 12), none, .lit 1 3 0 [] []⟩,
          ⟨(some 2), none, .mov (.t 12)⟩])
       (.ret)) (.seq (.reg none [
          ⟨(some 14), none, .bin .eql (.t 9) (.c (.int .i64 2))⟩,
          ⟨(some 13), none, .mov (.t 14)⟩])
       (.cond (.t 13) (.seq (.reg none [
           ⟨(some 15), none, .fad 2 (.t 1)⟩,
           ⟨(some 16), none, .fad 1 (.t 15)⟩,
           ⟨(some 17), none, .load false 1 (.t 16)⟩,
           ⟨(some 18), none, .lit 1 3 1 [(.int .i64 0)] [(0, 1, (.t 17))]⟩,
           ⟨(some 2), none, .mov (.t 18)⟩])
        (.ret)) (.skip)))))))
    (.seq (.reg none [
       ⟨(some 19), none, .fad 2 (.t 1)⟩,
       ⟨(some 20), none, .fad 1 (.t 19)⟩,
       ⟨(some 21), none, .load false 1 (.t 20)⟩,
       ⟨(some 22), none, .fad 2 (.t 1)⟩,
       ⟨(some 23), none, .fad 2 (.t 22)⟩,
       ⟨(some 24), none, .load false 1 (.t 23)⟩,
       ⟨(some 25), none, .lit 1 3 2 [(.int .i64 0), (.int .i64 0)] [(0, 1, (.t 21)), (1, 1, (.t 24))]⟩,
       ⟨(some 2), none, .mov (.t 25)⟩])
    (.ret))) (.skip)))))
 (.seq (.reg none [
    ⟨(some 26), none, .fad 1 (.t 1)⟩,
    ⟨(some 27), none, .load false 1 (.t 26)⟩,
    ⟨(some 28), none, .lit 1 3 1 [(.int .i64 0)] [(0, 1, (.t 27))]⟩,
    ⟨(some 2), none, .mov (.t 28)⟩])
 (.ret)))⟩
/-- Of which variables a step makes something. -/
def makesL (s : Shal) : List Int := if s.1 = 1 then varsL s.2.2.1 else [s.2.1]
def MakesOk (F : Nat → Option IFn) (f : Nat) : Prop := ∀ (H : Heap) (kk : Nat) (k x a b c g : Int) (tv ev : Value), one tv = true → one ev = true → (RgI k ∧ RgI x ∧ RgI a ∧ RgI b ∧ RgI c ∧ RgI g) → shB kk (k, x, (a, b, c), g) = true → ∃ w H', KC F f [.agg #[.int .i64 k, .int .i64 x, .int .i64 a, .int .i64 b, .int .i64 c, .int .i64 g, tv, ev]] H w H' ∧ (AgX [] H H' ∧ SlR Co.int (vwl H.length [] H') w (makesL (k, x, (a, b, c), g)))
theorem iMakes_ok {F : Nat → Option IFn} {f : Nat} (hf : F f = some c_iMakes) (gv : F 143 = some c_vars) : MakesOk F f := by
  intro H kk k x a b c g tv ev otv oev rg hsh
  refine KC.mk hf rfl ?_
  refine seq_reg ?_
  simp only [go_sem, binC, otv, oev]
  refine wpc_gen fun H1 hH1 => ?_
  have hx1 : AgX [] H H1 := hH1 ▸ AgX.app [] _ _
  have hb1 : H1[H.length]? = some ⟨[.int .i64 k, .int .i64 x, .int .i64 a, .int .i64 b, .int .i64 c, .int .i64 g, tv, ev], 0, 0, false, true⟩ := hH1 ▸ get_new0 _ _
  have hl1 : H1.length = H.length + 1 := by rw [hH1, List.length_append]; rfl
  clear hH1
  refine seq_assoc (seq_reg ?_)
  simp only [go_sem, binC, gc_of hb1, inBlk_some]
  by_cases k1 : k = 1
  · simp only [go_sem, binC, beq_t k1]
    refine seq_cond (t := true) rfl ?_
    simp only [go_sem, binC]
    refine seq_assoc (seq_reg ?_)
    simp only [go_sem, binC, gc_of hb1, inBlk_some]
    obtain ⟨w, L, kc, hs⟩ := vars_okV gv H1 a b c rg.2.2.2.1 rg.2.2.2.2.1
    refine op_callK (by simp only [go_sem, binC]; exact kc) ?_
    simp only [go_sem, binC]
    refine seq_ret ⟨Or.inr rfl, _, (by (simp only [go_sem, binC]) <;> rfl), hx1.tr (AgX.app [] _ _), ?_⟩
    unfold makesL
    rw [if_pos k1]
    exact hs.mono (vwl_sub (AgX.refl [] _) (by omega) fun b' _ _ h => ⟨by simp, h⟩)
  · simp only [go_sem, binC, beq_f k1]
    refine seq_cond (t := false) rfl ?_
    simp only [go_sem, binC]
    refine seq_skip (seq_reg ?_)
    simp only [go_sem, binC, gc_of hb1, inBlk_some]
    refine wpc_ret ⟨Or.inr rfl, _, (by (simp only [go_sem, binC]) <;> rfl), hx1.tr (AgX.app [] _ _), ?_⟩
    unfold makesL
    rw [if_neg k1]
    exact ints_sl (o := 0) (lo := H.length) (xs := []) (l := [x]) (get_new0 _ _) (by omega) (by simp) (by intro y hy; simp at hy; subst hy; exact rg.2.1) (Nat.zero_le _) (by simp)
theorem sVars21_ok {F : Nat → Option IFn} {f : Nat} (hf : F f = some c_sVars21) : MakesOk F f := by
  intro H kk k x a b c g tv ev otv oev rg hsh
  refine KC.mk hf rfl ?_
  refine seq_reg ?_
  simp only [go_sem, binC, otv, oev]
  refine wpc_gen fun H1 hH1 => ?_
  have hx1 : AgX [] H H1 := hH1 ▸ AgX.app [] _ _
  have hb1 : H1[H.length]? = some ⟨[.int .i64 k, .int .i64 x, .int .i64 a, .int .i64 b, .int .i64 c, .int .i64 g, tv, ev], 0, 0, false, true⟩ := hH1 ▸ get_new0 _ _
  have hl1 : H1.length = H.length + 1 := by rw [hH1, List.length_append]; rfl
  clear hH1
  refine seq_assoc (seq_reg ?_)
  simp only [go_sem, binC, gc_of hb1, inBlk_some]
  refine seq_block ?_
  refine seq_reg ?_
  by_cases k1 : k = 1
  · simp only [go_sem, binC, beq_t k1]
    refine wpc_cond (t := true) rfl ?_
    simp only [go_sem, binC]
    have hv : valB kk (a, b, c) = true := by
      have := hsh
      simp only [shB, Bool.and_eq_true] at this
      have h2 := this.2
      rwa [if_pos k1] at h2
    have hm : makesL (k, x, (a, b, c), g) = varsL (a, b, c) := by unfold makesL; rw [if_pos k1]
    rw [hm]
    refine seq_assoc (seq_reg ?_)
    simp only [go_sem, binC, gc_of hb1, inBlk_some]
    refine seq_block ?_
    refine seq_reg ?_
    by_cases a1 : a = 1
    · simp only [go_sem, binC, beq_t a1]
      refine wpc_cond (t := true) rfl ?_
      simp only [go_sem, binC]
      refine seq_reg ?_
      simp only [go_sem, binC]
      refine wpc_ret ?_
      simp only [go_sem, binC, out_r, thenX_r]
      refine ⟨Or.inr rfl, _, (by (simp only [go_sem, binC]) <;> rfl), hx1.tr (AgX.app [] _ _), ?_⟩
      have h1 : varsL (a, b, c) = [] := by subst a1; simp [varsL]
      rw [h1]
      exact ⟨by simp, _, rfl, .inl rfl⟩
    simp only [go_sem, binC, beq_f a1]
    refine wpc_cond (t := false) rfl ?_
    simp only [go_sem, binC]
    refine seq_reg ?_
    by_cases a2 : a = 2
    · simp only [go_sem, binC, beq_t a2]
      refine wpc_cond (t := true) rfl ?_
      simp only [go_sem, binC]
      refine seq_reg ?_
      simp only [go_sem, binC, gc_of hb1, inBlk_some]
      refine wpc_ret ?_
      simp only [go_sem, binC, out_r, thenX_r]
      refine ⟨Or.inr rfl, _, (by (simp only [go_sem, binC]) <;> rfl), hx1.tr (AgX.app [] _ _), ?_⟩
      have h1 : varsL (a, b, c) = [b] := by subst a2; simp [varsL]
      rw [h1]
      exact ints_sl (o := 0) (lo := H.length) (xs := []) (l := [b]) (get_new0 _ _) (by omega) (by simp) (by intro y hy; simp at hy; subst hy; exact rg.2.2.2.1) (Nat.zero_le _) (by simp)
    simp only [go_sem, binC, beq_f a2]
    refine wpc_cond (t := false) rfl ?_
    simp only [go_sem, binC]
    refine wpc_skip ?_
    simp only [go_sem, binC, out_n, thenX_n]
    have a34 : a = 3 ∨ a = 4 := by
      unfold valB at hv
      simp only at hv
      rw [if_neg a1, if_neg a2] at hv
      by_cases h : a = 3 ∨ a = 4
      · exact h
      · rw [if_neg h] at hv; cases hv
    refine seq_reg ?_
    simp only [go_sem, binC, gc_of hb1, inBlk_some]
    refine wpc_ret ?_
    simp only [go_sem, binC, out_r, thenX_r]
    refine ⟨Or.inr rfl, _, (by (simp only [go_sem, binC]) <;> rfl), hx1.tr (AgX.app [] _ _), ?_⟩
    have h1 : varsL (a, b, c) = [b, c] := by simp [varsL, a2, a34]
    rw [h1]
    exact ints_sl (o := 0) (lo := H.length) (xs := []) (l := [b, c]) (get_new0 _ _) (by omega) (by simp) (by intro y hy; simp at hy; rcases hy with rfl | rfl; exact rg.2.2.2.1; exact rg.2.2.2.2.1) (Nat.zero_le _) (by simp)
  · simp only [go_sem, binC, beq_f k1]
    refine wpc_cond (t := false) rfl ?_
    simp only [go_sem, binC]
    refine wpc_skip ?_
    simp only [go_sem, binC, out_n, thenX_n]
    refine seq_reg ?_
    simp only [go_sem, binC, gc_of hb1, inBlk_some]
    refine wpc_ret ⟨Or.inr rfl, _, (by (simp only [go_sem, binC]) <;> rfl), hx1.tr (AgX.app [] _ _), ?_⟩
    unfold makesL
    rw [if_neg k1]
    exact ints_sl (o := 0) (lo := H.length) (xs := []) (l := [x]) (get_new0 _ _) (by omega) (by simp) (by intro y hy; simp at hy; subst hy; exact rg.2.1) (Nat.zero_le _) (by simp)
theorem bne_fJ {a b : Int} (h : a = b) : (a != b) = false := by simp [h]
theorem bne_tJ {a b : Int} (h : ¬ a = b) : (a != b) = true := by simp [h]
theorem makesL_in {kk : Nat} {s : Shal} (h : shB kk s = true) : ∀ v ∈ makesL s, 0 ≤ v ∧ v < kk := by
  obtain ⟨k, x, v, g⟩ := s
  simp only [shB, Bool.and_eq_true] at h
  intro y hy
  unfold makesL at hy
  simp only at hy
  by_cases k1 : k = 1
  · rw [if_pos k1] at hy h
    exact varsL_in h.2 y hy
  · rw [if_neg k1] at hy
    simp only [List.mem_singleton] at hy
    subst hy
    exact varB_i.1 h.1
/-- Whether a host may do a step: the labels, whom each trusts, homes, the step, who trusts what is set in it, the label of its being done, the host. -/
def mkP (ls : List (Int × Int)) (homes : List Int) (own : Int × Int) (h v : Int) : Bool := hasB (ls.getD v.toNat (0, 0)).1 h && hasB own.1 (homes.getD v.toNat 0)
def doesB (ls : List (Int × Int)) (ts homes : List Int) (s : Shal) (st : Int) (own : Int × Int) (h : Int) : Bool := (hasB own.1 h && witB st (byS ts h 3)) && ((makesL s).all (mkP ls homes own h) && (decide (s.1 ≠ 1) || hasB own.1 (homes.getD s.2.1.toNat 0)))
def stA (ls : List (Int × Int)) (s : AnyS) : Int := stT (s.1 + 1) ls s.2
def homesP (k : Nat) (homes : List Int) : Prop := homes.length = k ∧ ∀ x ∈ homes, 0 ≤ x ∧ x ≤ 2
def okA (k : Nat) (s : AnyS) : Prop := shB k (shA s) = true ∧ ∀ t ∈ allT (s.1 + 1) s.2, varB k t.2.1 = true
def DoesOk (F : Nat → Option IFn) (f : Nat) : Prop := ∀ (H : Heap) (lv sv tw hw : Value) (cs : List Value) (ls : List (Int × Int)) (ts homes : List Int) (s : AnyS) (own : Int × Int) (h : Int), one sv = true → SlR Co.p2 (vw 0 H) lv ls → ls.all labB = true → SlR Co.int (vw 0 H) tw ts → trP ts → SlR Co.int (vw 0 H) hw homes → homesP ls.length homes → Co.anyS.rd (vw 0 H) cs s → okA ls.length s → labB own = true → 0 ≤ h → h ≤ 2 →
  QC F f [.agg #[lv, sv], tw, hw, .agg cs.toArray, .agg #[.int .i64 own.1, .int .i64 own.2], .int .i64 h] H (.bool (doesB ls ts homes (shA s) (stA ls s) own h))
theorem iDoes_ok {F : Nat → Option IFn} {f : Nat} (hf : F f = some c_iDoes) (gh : HasOk F 99) (gw : WitOk F 114) (gb : ByOk F 115) (gs : ∀ n, STOk F 83 n) (gm : MakesOk F 116) : DoesOk F f := by
  intro H lv sv tw hw cs ls ts homes s own h osv r1 hlab r2 htr r3 hho rds hok hown hh0 hh2
  obtain ⟨_, la, rfl, _⟩ := id r1
  obtain ⟨_, ta, rfl, _⟩ := id r2
  obtain ⟨_, ha, rfl, _⟩ := id r3
  obtain ⟨sk, sx, sa, sbb, sc, sg, tv, ev, tl, el, hs2, rfl, rg, otv, oev, htl, hel⟩ := anyS_rd rds
  have hsh : shA s = (sk, sx, (sa, sbb, sc), sg) := by unfold shA; rw [hs2]
  obtain ⟨hok1, hok2⟩ := hok
  rw [hsh] at hok1
  have hvx : 0 ≤ sx ∧ sx < ls.length := by
    have := hok1
    simp only [shB, Bool.and_eq_true] at this
    exact varB_i.1 this.1
  have hmin := makesL_in hok1
  obtain ⟨ho1, ho2⟩ := hown |> fun h => labB_i.1 h
  obtain ⟨hhl, hhr⟩ := hho
  have hst := stT_bd hlab (s.1 + 1) s.2
  have hby := byS_lt ts h 3
  have h8 : (2 : Int) ^ 3 = 8 := by decide
  rw [h8] at hby
  rw [hsh]
  refine QC.mk hf rfl ?_
  refine seq_reg ?_
  simp only [go_sem, binC, osv, otv, oev]
  refine wpc_gen fun H1 hH1 => ?_
  have hx1 : AgX [] H H1 := hH1 ▸ AgX.app [] _ _
  have hb6 : H1[H.length]? = some ⟨[.slice la ls.length ls.length, sv], 0, 0, false, true⟩ := hH1 ▸ get_new0 _ _
  have hb9 : H1[H.length + 1]? = some ⟨[.int .i64 sk, .int .i64 sx, .int .i64 sa, .int .i64 sbb, .int .i64 sc, .int .i64 sg, tv, ev], 0, 0, false, true⟩ := hH1 ▸ get_new _ _ 1
  have hb10 : H1[H.length + 2]? = some ⟨[.int .i64 own.1, .int .i64 own.2], 0, 0, false, true⟩ := hH1 ▸ get_new _ _ 2
  clear hH1
  have hl1 := (List.getElem?_eq_some_iff.1 hb10).1
  refine seq_assoc (seq_reg ?_)
  simp only [go_sem, binC, gc_of hb10, inBlk_some]
  refine op_callQ (by simp only [go_sem, binC]; exact gh H1 own.1 h ho1.1 ho1.2) ?_
  cases q1 : hasB own.1 h with
  | false =>
    simp only [go_sem, binC]
    refine seq_cond (t := true) rfl ?_
    simp only [go_sem, binC]
    refine seq_assoc (seq_reg ?_)
    simp only [go_sem, binC]
    refine seq_ret ⟨Or.inr rfl, .bool false, (by (simp only [go_sem, binC]) <;> rfl), ?_, rfl⟩
    unfold doesB
    rw [q1]
    rfl
  | true =>
  simp only [go_sem, binC, gc_of hb6, gc_of hb9, inBlk_some, osv, otv, oev]
  generalize hH2 : H1 ++ [(⟨[.int .i64 sk, .int .i64 sx, .int .i64 sa, .int .i64 sbb, .int .i64 sc, .int .i64 sg, tv, ev], 8, 85, true, true⟩ : Blk)] = H2
  have hx2 : AgX [] H1 H2 := hH2 ▸ AgX.app [] _ _
  have hbl : H2[H1.length]? = some ⟨[.int .i64 sk, .int .i64 sx, .int .i64 sa, .int .i64 sbb, .int .i64 sc, .int .i64 sg, tv, ev], 8, 85, true, true⟩ := hH2 ▸ get_new0 _ _
  clear hH2
  have hx02 := hx1.tr hx2
  have hlist : SlR (Co.step (s.1 + 1)) (vw 0 H2) (sli H1.length 0 1) [s.2] := by
    refine ⟨by simp, _, rfl, .inr ⟨H1.length, 0, rfl, fun i hi => ?_⟩⟩
    obtain rfl : i = 0 := by simpa using hi
    refine ⟨[.int .i64 sk, .int .i64 sx, .int .i64 sa, .int .i64 sbb, .int .i64 sc, .int .i64 sg, tv, ev], ?_, (Co.step (s.1 + 1)).mono (agx_sub hx02) rds⟩
    unfold rng vw
    rw [if_pos (Nat.zero_le _), hbl, step_w]
    rfl
  have hsets := gs (s.1 + 1) H2 _ sv _ ls [s.2] osv (r1.mono (agx_sub hx02)) hlist hlab (fun t ht => hok2 t (by simpa [allL] using ht))
  have hst1 : stL (s.1 + 1) ls [s.2] = stA ls s := by
    unfold stL stA
    simp only [List.map_cons, List.map_nil, List.foldl_cons, List.foldl_nil]
    exact orS_0 hst
  rw [hst1] at hsets
  refine op_callQ (by simp only [go_sem, binC]; exact hsets) ?_
  simp only [go_sem, binC]
  refine op_callQ (by simp only [go_sem, binC]; exact gb H2 _ ts h (r2.mono (agx_sub hx02)) htr hh0 hh2) ?_
  simp only [go_sem, binC]
  refine op_callQ (by simp only [go_sem, binC]; exact gw H2 _ _ hst.1 hst.2 hby.1 (by omega)) ?_
  have hst2 : R7 (stA ls s) := hst
  have hb62 := hx2.get hb6 (by simp)
  have hb92 := hx2.get hb9 (by simp)
  have hb102 := hx2.get hb10 (by simp)
  have hl2 := hx2.1
  generalize hstg : stA ls s = st
  cases q2 : witB st (byS ts h 3) with
  | false =>
    simp only [go_sem, binC]
    refine seq_cond (t := true) rfl ?_
    simp only [go_sem, binC]
    refine seq_assoc (seq_reg ?_)
    simp only [go_sem, binC]
    refine seq_ret ⟨Or.inr rfl, .bool false, (by (simp only [go_sem, binC]) <;> rfl), ?_, rfl⟩
    unfold doesB
    rw [q1, q2]
    rfl
  | true =>
  simp only [go_sem, binC]
  refine seq_cond (t := false) rfl ?_
  simp only [go_sem, binC]
  refine seq_skip (seq_assoc (seq_reg ?_))
  simp only [go_sem, binC, gc_of hb92, inBlk_some, otv, oev]
  obtain ⟨mw, H3, k3, hx3, hm3⟩ := gm H2 ls.length sk sx sa sbb sc sg tv ev otv oev rg hok1
  refine op_callK (by simp only [go_sem, binC]; exact k3) ?_
  obtain ⟨_, ma, rfl, _⟩ := id hm3
  simp only [go_sem, binC]
  have hx03 := hx02.tr hx3
  have hb63 := hx3.get hb62 (by simp)
  have hb93 := hx3.get hb92 (by simp)
  have hb103 := hx3.get hb102 (by simp)
  have r13 := r1.mono (agx_sub hx03)
  have r33 := r3.mono (agx_sub hx03)
  have hm3' := hm3.mono (vwl0 _ _ _)
  generalize hML : makesL (sk, sx, (sa, sbb, sc), sg) = ml at *
  have hdo : doesB ls ts homes (sk, sx, (sa, sbb, sc), sg) st own h = (ml.all (mkP ls homes own h) && (decide (sk ≠ 1) || hasB own.1 (homes.getD sx.toNat 0))) := by
    unfold doesB
    rw [q1, q2, hML]
    rfl
  rw [hdo]
  have hhome : ∀ v : Int, 0 ≤ v → v < ls.length → ∃ hb ho, ha = some ⟨hb, ho, none⟩ ∧ getCells H3 hb (ho + v.toNat) 1 = some [.int .i64 (homes.getD v.toNat 0)] := fun v h1 h2 => by
    have hl : v.toNat < homes.length := by omega
    obtain ⟨b, o, hv, hg⟩ := gcJ r33 hl
    simp only [Value.slice.injEq, and_true] at hv
    refine ⟨b, o, hv, ?_⟩
    rw [hg]
    simp [List.getD, hl]
  have hlabel : ∀ v : Int, 0 ≤ v → v < ls.length → ∃ lb lo', la = some ⟨lb, lo', none⟩ ∧ getCells H3 lb (lo' + v.toNat * 2) 1 = some [.int .i64 (ls.getD v.toNat (0, 0)).1] := fun v h1 h2 => by
    obtain ⟨lb, lo', hla, hgl0, _⟩ := lab_at r13 (H := H3) (fun _ _ h => h) h1 h2
    simp only [Value.slice.injEq, and_true] at hla
    have hgl1 := hgl0 []
    rw [List.append_nil] at hgl1
    have := gc_part (off := 0) (k := 1) hgl1 (by omega)
    exact ⟨lb, lo', hla, by simpa using this⟩
  refine seq_block (wpc_loop ?_)
  suffices hh : ∀ (m i : Nat) (e : Env), i + m = ml.length → (ml.take i).all (mkP ls homes own h) = true → e 2 = .slice ha homes.length homes.length → e 5 = .int .i64 h → e 6 = ptr H.length 0 → e 9 = ptr (H.length + 1) 0 → e 10 = ptr (H.length + 2) 0 → e 32 = .slice ma ml.length ml.length → e 33 = .int .i64 ml.length → e 34 = .int .i64 i → W F H.length _ e H3 _ from
    hh ml.length 0 _ (by omega) rfl (by simp only [go_sem, binC]) (by simp only [go_sem, binC]) (by simp only [go_sem, binC]) (by simp only [go_sem, binC]) (by simp only [go_sem, binC]) (by simp only [go_sem, binC]) (by simp only [go_sem, binC]) (by (simp only [go_sem, binC]) <;> rfl)
  intro m
  induction m with
  | zero =>
    intro i e hi hall e2 e5 e6 e9 e10 e32 e33 e34
    rw [List.take_of_length_le (by omega)] at hall
    refine lp_step ?_
    refine seq_reg ?_
    simp only [go_sem, binC, e33, e34]
    refine seq_cond (t := false) (by simp only [go_sem, binC]; rw [decide_eq_false (by omega)]) ?_
    simp only [go_sem, binC]
    refine seq_exit ?_
    simp only [go_sem, binC, thenX_e, out_e, thenX_n]
    refine seq_regD ?_
    simp only [go_sem, binC, e9, gc_of hb93, inBlk_some]
    by_cases k1 : sk = 1
    · simp only [go_sem, binC, bne_fJ k1]
      obtain ⟨hb, ho, rfl, hg⟩ := hhome sx hvx.1 hvx.2
      simp only [go_sem, binC, e2, e9, e10, gc_of hb93, gc_of hb103, inBlk_some]
      refine ⟨⟨by omega, by omega⟩, ?_⟩
      simp only [go_sem, binC, Int.toNat_natCast, Nat.mul_one, hg]
      refine op_callQ (by simp only [go_sem, binC]; exact gh H3 own.1 _ ho1.1 ho1.2) ?_
      simp only [go_sem, binC]
      refine wpc_ret ⟨Or.inr rfl, _, (by (simp only [go_sem, binC]) <;> rfl), ?_, rfl⟩
      rw [hall, decide_eq_false (by simpa using k1)]
      rfl
    · simp only [go_sem, binC, bne_tJ k1]
      refine wpc_ret ⟨Or.inr rfl, _, (by (simp only [go_sem, binC]) <;> rfl), ?_, rfl⟩
      rw [hall, decide_eq_true (by simpa using k1)]
      rfl
  | succ m ih =>
    intro i e hi hall e2 e5 e6 e9 e10 e32 e33 e34
    have hil : i < ml.length := by omega
    have hw1 : IntKind.i64.wrap ((i : Int) + 1) = ((i + 1 : Nat) : Int) := by rw [wrap_id (by omega) (by omega)]; omega
    have hvi := hmin _ (List.getElem_mem hil)
    obtain ⟨mb, mo, hmv, hmg⟩ := gcJ hm3' hil
    simp only [Value.slice.injEq, and_true] at hmv
    subst hmv
    obtain ⟨lb, lo', rfl, hlg⟩ := hlabel _ hvi.1 hvi.2
    obtain ⟨hb, ho, rfl, hhg⟩ := hhome _ hvi.1 hvi.2
    have hlx := labB_i.1 (lab_getD hlab ml[i].toNat)
    have hPf : mkP ls homes own h ml[i] = false → ml.all (mkP ls homes own h) = false := fun hp => by
      rw [Bool.eq_false_iff]
      intro hall'
      have := List.all_eq_true.1 hall' _ (List.getElem_mem hil)
      rw [hp] at this
      cases this
    refine lp_step ?_
    refine seq_reg ?_
    simp only [go_sem, binC, e33, e34]
    refine seq_cond (t := true) (by simp only [go_sem, binC]; rw [decide_eq_true (by omega)]) ?_
    simp only [go_sem, binC]
    refine seq_skip (seq_block ?_)
    refine seq_reg ?_
    simp only [go_sem, binC, e32, e34]
    refine ⟨⟨by omega, by omega⟩, ?_⟩
    simp only [go_sem, binC, Int.toNat_natCast, Nat.mul_one, hmg]
    refine seq_regD ?_
    simp only [go_sem, binC, e5, e6, gc_of hb63, inBlk_some]
    refine ⟨⟨by omega, by omega⟩, ?_⟩
    simp only [go_sem, binC, hlg, e5]
    refine op_callQ (by simp only [go_sem, binC, e5]; exact gh H3 _ h hlx.1.1 hlx.1.2) ?_
    cases p1 : hasB (ls.getD ml[i].toNat (0, 0)).1 h with
    | false =>
      simp only [go_sem, binC]
      refine wpc_cond (t := true) rfl ?_
      simp only [go_sem, binC]
      refine seq_reg ?_
      simp only [go_sem, binC]
      refine wpc_ret ?_
      simp only [go_sem, binC, out_r, thenX_r]
      refine ⟨Or.inr rfl, .bool false, (by (simp only [go_sem, binC]) <;> rfl), ?_, rfl⟩
      rw [hPf (by unfold mkP; rw [p1]; rfl)]
      rfl
    | true =>
    simp only [go_sem, binC, e2, e10, gc_of hb103, inBlk_some]
    refine ⟨⟨by omega, by omega⟩, ?_⟩
    simp only [go_sem, binC, Int.toNat_natCast, Nat.mul_one, hhg]
    refine op_callQ (by simp only [go_sem, binC]; exact gh H3 own.1 _ ho1.1 ho1.2) ?_
    cases p2 : hasB own.1 (homes.getD ml[i].toNat 0) with
    | false =>
      simp only [go_sem, binC]
      refine wpc_cond (t := true) rfl ?_
      simp only [go_sem, binC]
      refine seq_reg ?_
      simp only [go_sem, binC]
      refine wpc_ret ?_
      simp only [go_sem, binC, out_r, thenX_r]
      refine ⟨Or.inr rfl, .bool false, (by (simp only [go_sem, binC]) <;> rfl), ?_, rfl⟩
      rw [hPf (by unfold mkP; rw [p1, p2]; rfl)]
      rfl
    | true =>
    simp only [go_sem, binC]
    refine wpc_cond (t := false) rfl ?_
    simp only [go_sem, binC]
    refine wpc_skip ?_
    simp only [go_sem, binC, out_n, thenX_n]
    refine wpc_reg ?_
    simp only [go_sem, binC, e34, hw1]
    simp only [go_sem, binC, thenX_n]
    refine ih (i + 1) _ (by omega) ?_ (by simp only [go_sem, binC, e2]) (by simp only [go_sem, binC, e5]) (by simp only [go_sem, binC, e6]) (by simp only [go_sem, binC, e9]) (by simp only [go_sem, binC, e10]) (by simp only [go_sem, binC, e32]) (by simp only [go_sem, binC, e33]) (by simp only [go_sem, binC])
    rw [List.take_add_one, List.getElem?_eq_getElem hil, List.all_append, hall]
    simp only [Option.toList, List.all_cons, List.all_nil, Bool.true_and, Bool.and_true]
    unfold mkP
    rw [p1, p2]
    rfl
end Go.Proofs.YtbjeldblaclpnaaI
end
section
/- Where variables may be, all together (the program's). -/
set_option linter.unusedVariables false
set_option linter.unusedSimpArgs false
namespace Go.Proofs.YtbjeldblaclpnaaI
open Go Go.RowKit
def c_iHome1 : IFn := ⟨4, 29, [.t 8],
 .seq (.reg none [
    ⟨(some 4), none, .box (.t 0)⟩,
    ⟨(some 8), none, .mov (.c (.bool false))⟩])
 (.seq (.reg (some 18) [
    ⟨(some 9), none, .fad 0 (.t 4)⟩,
    ⟨(some 10), none, .load false 1 (.t 9)⟩,
    ⟨(some 11), none, .mov (.t 2)⟩,
    ⟨(some 12), none, .iad 2 (.t 10) (.t 11)⟩,
    ⟨(some 13), none, .fad 0 (.t 12)⟩,
    ⟨(some 14), none, .load false 1 (.t 13)⟩,
    ⟨(some 15), none, .mov (.t 3)⟩,
    ⟨(some 16), none, .call .q (.f 99) [(.t 14), (.t 15)]⟩,
    ⟨(some 17), none, .mov (.t 16)⟩,
    ⟨(some 18), (some (17, true)), .fad 0 (.t 4)⟩,
    ⟨(some 19), (some (17, true)), .load false 1 (.t 18)⟩,
    ⟨(some 20), (some (17, true)), .mov (.t 2)⟩,
    ⟨(some 21), (some (17, true)), .iad 2 (.t 19) (.t 20)⟩,
    ⟨(some 22), (some (17, true)), .fad 1 (.t 21)⟩,
    ⟨(some 23), (some (17, true)), .load false 1 (.t 22)⟩,
    ⟨(some 24), (some (17, true)), .mov (.t 1)⟩,
    ⟨(some 25), (some (17, true)), .mov (.t 3)⟩,
    ⟨(some 26), (some (17, true)), .call .q (.f 115) [(.t 24), (.t 25)]⟩,
    ⟨(some 27), (some (17, true)), .call .q (.f 114) [(.t 23), (.t 26)]⟩,
    ⟨(some 28), none, .pick (.t 17) (.t 27) (.c (.bool false))⟩,
    ⟨(some 8), none, .mov (.t 28)⟩])
 (.ret))⟩
/-- Whether a variable may be at a host. -/
def hmB (ls : List (Int × Int)) (ts : List Int) (v h : Int) : Bool := hasB (ls.getD v.toNat (0, 0)).1 h && witB (ls.getD v.toNat (0, 0)).2 (byS ts h 3)
def HomeI (F : Nat → Option IFn) (f : Nat) : Prop := ∀ (H : Heap) (lv sv tw : Value) (ls : List (Int × Int)) (ts : List Int) (v h : Int), one sv = true → SlR Co.p2 (vw 0 H) lv ls → ls.all labB = true → SlR Co.int (vw 0 H) tw ts → trP ts → 0 ≤ v → v < ls.length → 0 ≤ h → h ≤ 2 → QC F f [.agg #[lv, sv], tw, .int .i64 v, .int .i64 h] H (.bool (hmB ls ts v h))
theorem iHome1_ok {F : Nat → Option IFn} {f : Nat} (hf : F f = some c_iHome1) (gh : HasOk F 99) (gw : WitOk F 114) (gb : ByOk F 115) : HomeI F f := by
  intro H lv sv tw ls ts v h osv r1 hlab r2 htr hv0 hv1 hh0 hh2
  obtain ⟨_, la, rfl, _⟩ := id r1
  obtain ⟨_, ta, rfl, _⟩ := id r2
  have hlx := labB_i.1 (lab_getD hlab v.toNat)
  have hby := byS_lt ts h 3
  have h8 : (2 : Int) ^ 3 = 8 := by decide
  rw [h8] at hby
  refine QC.mk hf rfl ?_
  refine seq_reg ?_
  simp only [go_sem, binC, osv]
  refine wpc_gen fun H1 hH1 => ?_
  have hx1 : AgX [] H H1 := hH1 ▸ AgX.app [] _ _
  have hb1 : H1[H.length]? = some ⟨[.slice la ls.length ls.length, sv], 0, 0, false, true⟩ := hH1 ▸ get_new0 _ _
  clear hH1
  obtain ⟨lb, lo', hla, hgl0, _⟩ := lab_at (r1.mono (agx_sub hx1)) (H := H1) (fun _ _ h => h) hv0 hv1
  simp only [Value.slice.injEq, and_true] at hla
  subst hla
  have hgl := hgl0 []
  rw [List.append_nil] at hgl
  have g0 : getCells H1 lb (lo' + v.toNat * 2) 1 = some [.int .i64 (ls.getD v.toNat (0, 0)).1] := by have := gc_part (off := 0) (k := 1) hgl (by omega); simpa using this
  have g1 : getCells H1 lb (lo' + v.toNat * 2 + 1) 1 = some [.int .i64 (ls.getD v.toNat (0, 0)).2] := gc_part (off := 1) (k := 1) hgl (by omega)
  refine seq_regD ?_
  simp only [go_sem, binC, gc_of hb1, inBlk_some]
  refine ⟨⟨by omega, by omega⟩, ?_⟩
  simp only [go_sem, binC, g0]
  refine op_callQ (by simp only [go_sem, binC]; exact gh H1 _ h hlx.1.1 hlx.1.2) ?_
  unfold hmB
  cases q1 : hasB (ls.getD v.toNat (0, 0)).1 h with
  | false =>
    simp only [go_sem, binC]
    exact wpc_ret ⟨Or.inr rfl, _, (by (simp only [go_sem, binC]) <;> rfl), rfl, rfl⟩
  | true =>
    simp only [go_sem, binC, gc_of hb1, inBlk_some]
    refine ⟨⟨by omega, by omega⟩, ?_⟩
    simp only [go_sem, binC, g1]
    refine op_callQ (by simp only [go_sem, binC]; exact gb H1 _ ts h (r2.mono (agx_sub hx1)) htr hh0 hh2) ?_
    simp only [go_sem, binC]
    refine op_callQ (by simp only [go_sem, binC]; exact gw H1 _ _ hlx.2.1 hlx.2.2 hby.1 (by omega)) ?_
    simp only [go_sem, binC]
    exact wpc_ret ⟨Or.inr rfl, _, (by (simp only [go_sem, binC]) <;> rfl), rfl, rfl⟩
theorem sl_intsJ {H : Heap} {v : Value} {l : List Int} (h : SlR Co.int (vw 0 H) v l) (hl : l ≠ []) : ∃ b o, v = .slice (some ⟨b, o, none⟩) l.length l.length ∧ getCells H b o (l.length * 1) = some (ints l) := by
  obtain ⟨b, o, ys, h1, h2, h3, h4⟩ := sl_cells (w := 1) rfl h hl
  refine ⟨b, o, h1, ?_⟩
  have : ys = ints l := by
    refine List.ext_getElem (by simp [ints]; omega) fun i hi hj => ?_
    have hil : i < l.length := by omega
    obtain ⟨h5, _⟩ := h4 i hil
    have h6 : (ys.drop (i * 1)).head? = some (.int .i64 l[i]) := by
      cases hd : ys.drop (i * 1) with
      | nil => rw [hd] at h5; cases h5
      | cons c r => rw [hd] at h5; simpa using h5
    rw [List.head?_drop, Nat.mul_one, List.getElem?_eq_getElem hi] at h6
    simpa [ints] using h6
  rw [h2, this]
theorem sl_rg {V : Vw} {v : Value} {l : List Int} (h : SlR Co.int V v l) : ∀ x ∈ l, RgI x := by
  intro x hx
  obtain ⟨i, hi, rfl⟩ := List.getElem_of_mem hx
  obtain ⟨_, a, rfl, h2⟩ := h
  rcases h2 with h2 | ⟨b, o, rfl, h2⟩
  · rw [h2] at hi; simp at hi
  · obtain ⟨cs, h3, h4⟩ := h2 i hi
    exact h4.2
/-- All homes of the first variables, number by number. -/
def hostsL (P : Int → Bool) (j : Nat) : List Int := (([0, 1, 2] : List Int).take j).filter P
def hmL (ls : List (Int × Int)) (ts : List Int) : Nat → List (List Int)
  | 0 => [[]]
  | v + 1 => (hmL ls ts v).flatMap fun l => (hostsL (hmB ls ts v) 3).map fun h => l ++ [h]
theorem hostsL_rg {P : Int → Bool} {j : Nat} : ∀ x ∈ hostsL P j, 0 ≤ x ∧ x ≤ 2 := by
  intro x hx
  have := List.mem_of_mem_take (List.mem_filter.1 hx).1
  simp only [List.mem_cons, List.not_mem_nil, or_false] at this
  omega
theorem hmL_el {ls : List (Int × Int)} {ts : List Int} : ∀ v, ∀ l ∈ hmL ls ts v, l.length = v ∧ (∀ x ∈ l, 0 ≤ x ∧ x ≤ 2) ∧ ∀ i (h : i < l.length), hmB ls ts i l[i] = true
  | 0 => by
    intro l hl
    simp only [hmL, List.mem_singleton] at hl
    subst hl
    exact ⟨rfl, by simp, fun i h => by simp at h⟩
  | v + 1 => by
    intro l hl
    simp only [hmL, List.mem_flatMap, List.mem_map] at hl
    obtain ⟨l0, h1, x, h2, rfl⟩ := hl
    obtain ⟨q1, q2, q3⟩ := hmL_el v l0 h1
    have hx := hostsL_rg x h2
    have hP : hmB ls ts v x = true := (List.mem_filter.1 h2).2
    refine ⟨by simp [q1], fun y hy => ?_, fun i hi => ?_⟩
    · simp only [List.mem_append, List.mem_singleton] at hy
      rcases hy with hy | rfl
      · exact q2 y hy
      · exact hx
    · rw [List.length_append, List.length_singleton] at hi
      by_cases hlt : i < l0.length
      · rw [List.getElem_append_left hlt]
        exact q3 i hlt
      · obtain rfl : i = l0.length := by omega
        simp only [List.getElem_concat_length]
        rw [q1]
        exact hP
end Go.Proofs.YtbjeldblaclpnaaI
end
