/- Texts of this proof, merged: J1, J2, J3, N1, N2, N3, N4, N5, N6, N7, N8, H1, H2, U2. -/
import Derived.Test.YtkmghcglmjehcaaPb9
section
/- The program's labels: what is in both, what may become what, of values, of steps being done. -/
set_option linter.unusedVariables false
set_option linter.unusedSimpArgs false
namespace Go.Proofs.YtkmghcglmjehcaaI
open Go Go.RowKit
def c_iBoth : IFn := ⟨2, 16, [.cell true 2 4],
 .seq (.reg none [
    ⟨(some 2), none, .box (.t 0)⟩,
    ⟨(some 3), none, .box (.t 1)⟩,
    ⟨(some 4), none, .new [(.int .i64 0), (.int .i64 0)]⟩])
 (.seq (.reg none [
    ⟨(some 5), none, .fad 0 (.t 2)⟩,
    ⟨(some 6), none, .load false 1 (.t 5)⟩,
    ⟨(some 7), none, .fad 0 (.t 3)⟩,
    ⟨(some 8), none, .load false 1 (.t 7)⟩,
    ⟨(some 9), none, .bin .and (.t 6) (.t 8)⟩,
    ⟨(some 10), none, .fad 1 (.t 2)⟩,
    ⟨(some 11), none, .load false 1 (.t 10)⟩,
    ⟨(some 12), none, .fad 1 (.t 3)⟩,
    ⟨(some 13), none, .load false 1 (.t 12)⟩,
    ⟨(some 14), none, .bin .and (.t 11) (.t 13)⟩,
    ⟨(some 15), none, .build [(.int .i64 0), (.int .i64 0)] [(0, 1, (.t 9)), (1, 1, (.t 14))]⟩,
    ⟨none, none, .store 2 (.t 4) (.t 15)⟩])
 (.ret))⟩
def c_iFlows : IFn := ⟨2, 17, [.t 4],
 .seq (.reg none [
    ⟨(some 2), none, .box (.t 0)⟩,
    ⟨(some 3), none, .box (.t 1)⟩,
    ⟨(some 4), none, .mov (.c (.bool false))⟩])
 (.seq (.reg none [
    ⟨(some 5), none, .fad 0 (.t 3)⟩,
    ⟨(some 6), none, .load false 1 (.t 5)⟩,
    ⟨(some 7), none, .fad 0 (.t 2)⟩,
    ⟨(some 8), none, .load false 1 (.t 7)⟩,
    ⟨(some 9), none, .call .q (.f 117) [(.t 6), (.t 8)]⟩,
    ⟨(some 10), none, .mov (.t 9)⟩,
    ⟨(some 11), (some (10, true)), .fad 1 (.t 3)⟩,
    ⟨(some 12), (some (10, true)), .load false 1 (.t 11)⟩,
    ⟨(some 13), (some (10, true)), .fad 1 (.t 2)⟩,
    ⟨(some 14), (some (10, true)), .load false 1 (.t 13)⟩,
    ⟨(some 15), (some (10, true)), .call .q (.f 117) [(.t 12), (.t 14)]⟩,
    ⟨(some 16), none, .pick (.t 10) (.t 15) (.c (.bool false))⟩,
    ⟨(some 4), none, .mov (.t 16)⟩])
 (.ret))⟩
def c_iEvery : IFn := ⟨0, 2, [.cell true 2 0],
 .seq (.reg none [
    ⟨(some 0), none, .new [(.int .i64 0), (.int .i64 0)]⟩])
 (.seq (.reg none [
    ⟨(some 1), none, .build [(.int .i64 0), (.int .i64 0)] [(0, 1, (.c (.int .i64 7))), (1, 1, (.c (.int .i64 7)))]⟩,
    ⟨none, none, .store 2 (.t 0) (.t 1)⟩])
 (.ret))⟩
def c_iSource : IFn := ⟨3, 26, [.cell true 2 6],
 .seq (.reg none [
    ⟨(some 3), none, .box (.t 0)⟩,
    ⟨(some 4), none, .box (.t 1)⟩,
    ⟨(some 5), none, .box (.t 2)⟩,
    ⟨(some 6), none, .new [(.int .i64 0), (.int .i64 0)]⟩])
 (.seq (.seq (.reg none [
     ⟨(some 9), none, .fad 2 (.t 4)⟩,
     ⟨(some 10), none, .load true 3 (.t 9)⟩,
     ⟨(some 11), none, .call .k (.f 112) [(.t 10)]⟩,
     ⟨(some 12), none, .len (.t 11)⟩,
     ⟨(some 13), none, .mov (.c (.int .i64 0))⟩])
  (.block 0 (.loop (.seq (.reg none [
       ⟨(some 14), none, .bin .lss (.t 13) (.t 12)⟩])
    (.seq (.cond (.t 14) (.skip) (.exit 0))
    (.seq (.block 1 (.seq (.reg none [
         ⟨(some 15), none, .iad 1 (.t 11) (.t 13)⟩,
         ⟨(some 16), none, .load false 1 (.t 15)⟩,
         ⟨(some 8), none, .mov (.t 16)⟩])
      (.reg (some 6) [
        ⟨(some 17), none, .load true 2 (.t 5)⟩,
        ⟨(some 18), none, .fad 0 (.t 3)⟩,
        ⟨(some 19), none, .load false 1 (.t 18)⟩,
        ⟨(some 20), none, .mov (.t 8)⟩,
        ⟨(some 21), none, .iad 2 (.t 19) (.t 20)⟩,
        ⟨(some 22), none, .load true 2 (.t 21)⟩,
        ⟨(some 23), none, .call .q (.f 59) [(.t 17), (.t 22)]⟩,
        ⟨none, none, .store 2 (.t 5) (.t 23)⟩])))
    (.reg none [
      ⟨(some 24), none, .bin .add (.t 13) (.c (.int .i64 1))⟩,
      ⟨(some 13), none, .mov (.t 24)⟩])))))))
 (.seq (.reg none [
    ⟨(some 25), none, .load true 2 (.t 5)⟩,
    ⟨none, none, .store 2 (.t 6) (.t 25)⟩])
 (.ret)))⟩
def c_iLabels : IFn := ⟨4, 44, [.t 8],
 .seq (.reg none [
    ⟨(some 4), none, .box (.t 0)⟩,
    ⟨(some 6), none, .box (.t 2)⟩,
    ⟨(some 8), none, .mov (.c (.slice none 0 0))⟩])
 (.seq (.seq (.reg none [
     ⟨(some 12), none, .mov (.t 1)⟩,
     ⟨(some 13), none, .len (.t 12)⟩,
     ⟨(some 14), none, .mov (.c (.int .i64 0))⟩])
  (.block 0 (.loop (.seq (.reg none [
       ⟨(some 15), none, .bin .lss (.t 14) (.t 13)⟩])
    (.seq (.cond (.t 15) (.skip) (.exit 0))
    (.seq (.block 1 (.seq (.reg none [
         ⟨(some 16), none, .iad 8 (.t 12) (.t 14)⟩,
         ⟨(some 17), none, .load true 8 (.t 16)⟩,
         ⟨(some 10), none, .new [(.int .i64 0), (.int .i64 0), (.int .i64 0), (.int .i64 0), (.int .i64 0), (.int .i64 0), (.slice none 0 0), (.slice none 0 0)]⟩,
         ⟨none, none, .store 8 (.t 10) (.t 17)⟩])
      (.seq (.reg none [
         ⟨(some 18), none, .mov (.t 3)⟩,
         ⟨(some 19), none, .load true 2 (.t 6)⟩,
         ⟨(some 20), none, .lit 2 35 1 [(.int .i64 0), (.int .i64 0)] [(0, 2, (.t 19))]⟩,
         ⟨(some 21), none, .app 2 35 16 false (.t 18) (.t 20)⟩,
         ⟨(some 3), none, .mov (.t 21)⟩])
      (.seq (.reg (some 9) [
         ⟨(some 22), none, .load true 2 (.t 6)⟩,
         ⟨(some 23), none, .fad 0 (.t 4)⟩,
         ⟨(some 24), none, .load false 1 (.t 23)⟩,
         ⟨(some 25), none, .fad 1 (.t 10)⟩,
         ⟨(some 26), none, .load false 1 (.t 25)⟩,
         ⟨(some 27), none, .iad 2 (.t 24) (.t 26)⟩,
         ⟨(some 28), none, .load true 2 (.t 27)⟩,
         ⟨(some 29), none, .call .q (.f 59) [(.t 22), (.t 28)]⟩,
         ⟨(some 11), none, .new [(.int .i64 0), (.int .i64 0)]⟩,
         ⟨none, none, .store 2 (.t 11) (.t 29)⟩])
      (.seq (.reg none [
         ⟨(some 30), none, .load true 2 (.t 4)⟩,
         ⟨(some 31), none, .fad 6 (.t 10)⟩,
         ⟨(some 32), none, .load false 1 (.t 31)⟩,
         ⟨(some 33), none, .load true 2 (.t 11)⟩,
         ⟨(some 34), none, .mov (.t 3)⟩,
         ⟨(some 35), none, .call .n (.f 111) [(.t 30), (.t 32), (.t 33), (.t 34)]⟩,
         ⟨(some 3), none, .mov (.t 35)⟩])
      (.reg none [
        ⟨(some 36), none, .load true 2 (.t 4)⟩,
        ⟨(some 37), none, .fad 7 (.t 10)⟩,
        ⟨(some 38), none, .load false 1 (.t 37)⟩,
        ⟨(some 39), none, .load true 2 (.t 11)⟩,
        ⟨(some 40), none, .mov (.t 3)⟩,
        ⟨(some 41), none, .call .n (.f 111) [(.t 36), (.t 38), (.t 39), (.t 40)]⟩,
        ⟨(some 3), none, .mov (.t 41)⟩]))))))
    (.reg none [
      ⟨(some 42), none, .bin .add (.t 14) (.c (.int .i64 1))⟩,
      ⟨(some 14), none, .mov (.t 42)⟩])))))))
 (.seq (.reg none [
    ⟨(some 43), none, .mov (.t 3)⟩,
    ⟨(some 8), none, .mov (.t 43)⟩])
 (.ret)))⟩
def c_iAt : IFn := ⟨1, 8, [.t 2],
 .seq (.reg none [
    ⟨(some 1), none, .box (.t 0)⟩,
    ⟨(some 2), none, .mov (.c (.slice none 0 0))⟩])
 (.seq (.reg (some 4) [
    ⟨(some 3), none, .load true 2 (.t 1)⟩,
    ⟨(some 4), none, .fad 1 (.t 1)⟩,
    ⟨(some 5), none, .load false 1 (.t 4)⟩,
    ⟨(some 6), none, .call .q (.f 56) []⟩,
    ⟨(some 7), none, .call .n (.f 111) [(.t 3), (.t 5), (.t 6), (.c (.slice none 0 0))]⟩,
    ⟨(some 2), none, .mov (.t 7)⟩])
 (.ret))⟩
theorem and_both {a b : Int} (ha : 0 ≤ a ∧ a ≤ 7) (hb : 0 ≤ b ∧ b ≤ 7) : IntKind.i64.wrap ((BitVec.ofInt 64 a &&& BitVec.ofInt 64 b).toNat : Nat) = bothS a b 3 := by
  have qa : a = 0 ∨ a = 1 ∨ a = 2 ∨ a = 3 ∨ a = 4 ∨ a = 5 ∨ a = 6 ∨ a = 7 := by omega
  have qb : b = 0 ∨ b = 1 ∨ b = 2 ∨ b = 3 ∨ b = 4 ∨ b = 5 ∨ b = 6 ∨ b = 7 := by omega
  rcases qa with rfl | rfl | rfl | rfl | rfl | rfl | rfl | rfl <;> rcases qb with rfl | rfl | rfl | rfl | rfl | rfl | rfl | rfl <;> decide +kernel
theorem labB_i {a : Int × Int} : labB a = true ↔ (0 ≤ a.1 ∧ a.1 ≤ 7) ∧ 0 ≤ a.2 ∧ a.2 ≤ 7 := by
  simp only [labB, Bool.and_eq_true, inB_iff]
theorem lboth_ok {a b : Int × Int} (ha : labB a = true) (hb : labB b = true) : lboth a b = (bothS a.1 b.1 3, bothS a.2 b.2 3) := by
  unfold lboth
  rw [ha, hb]
  rfl
def ILBoth (F : Nat → Option IFn) (f : Nat) : Prop := ∀ (H : Heap) (a b : Int × Int), labB a = true → labB b = true → QC F f [.agg #[.int .i64 a.1, .int .i64 a.2], .agg #[.int .i64 b.1, .int .i64 b.2]] H (.agg #[.int .i64 (lboth a b).1, .int .i64 (lboth a b).2])
theorem binI_andJ (k : IntKind) (x y : Int) : binI .and k x y = some (.int k (k.wrap ((BitVec.ofInt k.bits x &&& BitVec.ofInt k.bits y).toNat : Nat))) := rfl
theorem iBoth_ok {F : Nat → Option IFn} {f : Nat} (hf : F f = some c_iBoth) : ILBoth F f := by
  rintro H ⟨a1, a2⟩ ⟨b1, b2⟩ ha hb
  rw [lboth_ok ha hb]
  have qa := labB_i.1 ha
  have qb := labB_i.1 hb
  have h1 : binI .and .i64 a1 b1 = some (.int .i64 (bothS a1 b1 3)) := by rw [binI_andJ]; exact congrArg _ (congrArg _ (and_both qa.1 qb.1))
  have h2 : binI .and .i64 a2 b2 = some (.int .i64 (bothS a2 b2 3)) := by rw [binI_andJ]; exact congrArg _ (congrArg _ (and_both qa.2 qb.2))
  refine QC.mk hf rfl ?_
  refine seq_reg ?_
  simp only [go_sem, binC]
  refine seq_reg ?_
  simp only [go_sem, binC, inBlk_some, h1, h2]
  refine wpc_ret ⟨Or.inr rfl, _, (by (simp only [go_sem, binC, inBlk_some]) <;> rfl), rfl, rfl⟩
def IFlows (F : Nat → Option IFn) (f : Nat) : Prop := ∀ (H : Heap) (a b : Int × Int), labB a = true → labB b = true → QC F f [.agg #[.int .i64 a.1, .int .i64 a.2], .agg #[.int .i64 b.1, .int .i64 b.2]] H (.bool (flowsB a b))
theorem iFlows_ok {F : Nat → Option IFn} {f : Nat} (hf : F f = some c_iFlows) (gw : WitOk F 117) : IFlows F f := by
  rintro H ⟨a1, a2⟩ ⟨b1, b2⟩ ha hb
  have qa := labB_i.1 ha
  have qb := labB_i.1 hb
  have e : flowsB (a1, a2) (b1, b2) = (witB b1 a1 && witB b2 a2) := by
    unfold flowsB
    rw [ha, hb]
    rfl
  rw [e]
  refine QC.mk hf rfl ?_
  refine seq_reg ?_
  simp only [go_sem, binC]
  refine seq_reg ?_
  simp only [go_sem, binC, inBlk_some]
  refine op_callQ (by simp only [go_sem, binC]; exact gw _ _ _ qb.1.1 qb.1.2 qa.1.1 qa.1.2) ?_
  cases hw : witB b1 a1 with
  | true =>
    simp only [go_sem, binC, inBlk_some]
    refine op_callQ (by simp only [go_sem, binC]; exact gw _ _ _ qb.2.1 qb.2.2 qa.2.1 qa.2.2) ?_
    simp only [go_sem, binC]
    exact wpc_ret ⟨Or.inr rfl, _, (by (simp only [go_sem, binC]) <;> rfl), rfl, rfl⟩
  | false =>
    simp only [go_sem, binC]
    exact wpc_ret ⟨Or.inr rfl, _, (by (simp only [go_sem, binC]) <;> rfl), rfl, rfl⟩
theorem iEvery_ok {F : Nat → Option IFn} {f : Nat} (hf : F f = some c_iEvery) : ∀ H, QC F f [] H (.agg #[.int .i64 7, .int .i64 7]) := by
  intro H
  refine QC.mk hf rfl ?_
  refine seq_reg ?_
  simp only [go_sem, binC]
  refine seq_reg ?_
  simp only [go_sem, binC]
  exact wpc_ret ⟨Or.inr rfl, _, (by (simp only [go_sem, binC, inBlk_some]) <;> rfl), rfl, rfl⟩
/-! ### Labels in both, plainly -/
theorem bothS_all : ∀ a b c : Fin 8, bothS (bothS (a.val : Int) b.val 3) c.val 3 = bothS a.val (bothS b.val c.val 3) 3 ∧ bothS (a.val : Int) b.val 3 = bothS b.val a.val 3 ∧ bothS 7 (a.val : Int) 3 = a.val ∧ bothS (a.val : Int) a.val 3 = a.val := by decide +kernel
theorem fin8 {a : Int} (h : 0 ≤ a ∧ a ≤ 7) : ∃ x : Fin 8, (x.val : Int) = a := ⟨⟨a.toNat, by omega⟩, by show ((a.toNat : Nat) : Int) = a; omega⟩
theorem lboth_assoc {a b c : Int × Int} (ha : labB a = true) (hb : labB b = true) (hc : labB c = true) : lboth (lboth a b) c = lboth a (lboth b c) := by
  rw [lboth_ok (lboth_bd a b) hc, lboth_ok ha (lboth_bd b c), lboth_ok ha hb, lboth_ok hb hc]
  obtain ⟨a1, a2⟩ := a
  obtain ⟨b1, b2⟩ := b
  obtain ⟨c1, c2⟩ := c
  obtain ⟨x1, rfl⟩ := fin8 (labB_i.1 ha).1
  obtain ⟨x2, rfl⟩ := fin8 (labB_i.1 ha).2
  obtain ⟨y1, rfl⟩ := fin8 (labB_i.1 hb).1
  obtain ⟨y2, rfl⟩ := fin8 (labB_i.1 hb).2
  obtain ⟨z1, rfl⟩ := fin8 (labB_i.1 hc).1
  obtain ⟨z2, rfl⟩ := fin8 (labB_i.1 hc).2
  simp only [(bothS_all x1 y1 z1).1, (bothS_all x2 y2 z2).1]
theorem lboth_comm {a b : Int × Int} (ha : labB a = true) (hb : labB b = true) : lboth a b = lboth b a := by
  rw [lboth_ok ha hb, lboth_ok hb ha]
  obtain ⟨a1, a2⟩ := a
  obtain ⟨b1, b2⟩ := b
  obtain ⟨x1, rfl⟩ := fin8 (labB_i.1 ha).1
  obtain ⟨x2, rfl⟩ := fin8 (labB_i.1 ha).2
  obtain ⟨y1, rfl⟩ := fin8 (labB_i.1 hb).1
  obtain ⟨y2, rfl⟩ := fin8 (labB_i.1 hb).2
  simp only [(bothS_all x1 y1 0).2.1, (bothS_all x2 y2 0).2.1]
theorem lboth_any {a : Int × Int} (ha : labB a = true) : lboth (7, 7) a = a := by
  rw [lboth_ok rfl ha]
  obtain ⟨a1, a2⟩ := a
  obtain ⟨x1, rfl⟩ := fin8 (labB_i.1 ha).1
  obtain ⟨x2, rfl⟩ := fin8 (labB_i.1 ha).2
  simp only [(bothS_all x1 0 0).2.2.1, (bothS_all x2 0 0).2.2.1]
theorem lboth_self {a : Int × Int} (ha : labB a = true) : lboth a a = a := by
  rw [lboth_ok ha ha]
  obtain ⟨a1, a2⟩ := a
  obtain ⟨x1, rfl⟩ := fin8 (labB_i.1 ha).1
  obtain ⟨x2, rfl⟩ := fin8 (labB_i.1 ha).2
  simp only [(bothS_all x1 0 0).2.2.2, (bothS_all x2 0 0).2.2.2]
theorem lab_getD {ls : List (Int × Int)} (h : ls.all labB = true) (i : Nat) : labB (ls.getD i (0, 0)) = true := by
  rw [List.getD_eq_getElem?_getD]
  cases hi : ls[i]? with
  | none => rfl
  | some a => exact List.all_eq_true.1 h a (List.mem_of_getElem? hi)
/-- The label of what is set, as the program makes it. -/
def srcL (ls : List (Int × Int)) (v : Int × Int × Int) (h : Int × Int) : Int × Int := (varsL v).foldl (fun o x => lboth o (ls.getD x.toNat (0, 0))) h
theorem srcL_val {ls : List (Int × Int)} {v : Int × Int × Int} {h : Int × Int} (hl : ls.all labB = true) (hh : labB h = true) (hv : valB ls.length v = true) : srcL ls v h = lboth h (valL ls v) := by
  obtain ⟨k, a, b⟩ := v
  have la := lab_getD hl a.toNat
  have lb := lab_getD hl b.toNat
  have l7 : labB ((7, 7) : Int × Int) = true := rfl
  unfold valB at hv
  simp only at hv
  unfold srcL valL varsL
  simp only
  by_cases k1 : k = 1
  · subst k1
    show h = lboth h (7, 7)
    rw [lboth_comm hh l7, lboth_any hh]
  rw [if_neg k1] at hv ⊢
  by_cases k2 : k = 2
  · subst k2
    simp only [if_true, List.foldl_cons, List.foldl_nil]
    rw [if_neg (by omega), lboth_any la]
  rw [if_neg k2] at hv
  rw [if_neg k2]
  by_cases k3 : k = 3 ∨ k = 4
  · rw [if_pos k3, if_pos k3, lboth_any la]
    show lboth (lboth h _) _ = _
    rw [lboth_assoc hh la lb]
  · rw [if_neg k3] at hv; cases hv
theorem srcL_lab {ls : List (Int × Int)} {v : Int × Int × Int} {h : Int × Int} (hh : labB h = true) : labB (srcL ls v h) = true := by
  unfold srcL
  induction varsL v generalizing h with
  | nil => exact hh
  | cons x l ih => exact ih (lboth_bd _ _)
def ISource (F : Nat → Option IFn) (f : Nat) : Prop := ∀ (H : Heap) (lv sv tv ev : Value) (ls : List (Int × Int)) (k x a b c g : Int) (h : Int × Int), one sv = true → one tv = true → one ev = true → RgI b → RgI c → SlR Co.p2 (vw 0 H) lv ls → ls.all labB = true → valB ls.length (a, b, c) = true → labB h = true →
  QC F f [.agg #[lv, sv], .agg #[.int .i64 k, .int .i64 x, .int .i64 a, .int .i64 b, .int .i64 c, .int .i64 g, tv, ev], .agg #[.int .i64 h.1, .int .i64 h.2]] H (.agg #[.int .i64 (srcL ls (a, b, c) h).1, .int .i64 (srcL ls (a, b, c) h).2])
theorem varsL_le (v : Int × Int × Int) : (varsL v).length ≤ 2 := by
  unfold varsL
  split
  · simp
  · split <;> simp
theorem gcJ {H : Heap} {v : Value} {l : List Int} (h : SlR Co.int (vw 0 H) v l) {i : Nat} (hi : i < l.length) : ∃ b o, v = .slice (some ⟨b, o, none⟩) l.length l.length ∧ getCells H b (o + i) 1 = some [.int .i64 l[i]] := by
  obtain ⟨_, a, rfl, h2⟩ := h
  rcases h2 with h2 | ⟨b, o, rfl, h2⟩
  · rw [h2] at hi; simp at hi
  · obtain ⟨cs, h3, h4⟩ := h2 i hi
    have h5 := rng_gc h3
    rw [h4.1, show Co.int.w = 1 from rfl, Nat.mul_one] at h5
    exact ⟨b, o, rfl, h5⟩
theorem iSource_ok {F : Nat → Option IFn} {f : Nat} (hf : F f = some c_iSource) (gv : F 112 = some c_vars) (gb : ILBoth F 59) : ISource F f := by
  intro H lv sv tv ev ls k x a b c g h osv otv oev rb rc r1 hlab hv hh
  obtain ⟨_, la, rfl, _⟩ := id r1
  refine QC.mk hf rfl ?_
  refine seq_reg ?_
  simp only [go_sem, binC, osv, otv, oev]
  refine wpc_gen fun H1 hH1 => ?_
  have hx1 : AgX [] H H1 := hH1 ▸ AgX.app [] _ _
  have hb3 : H1[H.length]? = some ⟨[.slice la ls.length ls.length, sv], 0, 0, false, true⟩ := hH1 ▸ get_new0 _ _
  have hb4 : H1[H.length + 1]? = some ⟨[.int .i64 k, .int .i64 x, .int .i64 a, .int .i64 b, .int .i64 c, .int .i64 g, tv, ev], 0, 0, false, true⟩ := hH1 ▸ get_new _ _ 1
  have hb5 : H1[H.length + 2]? = some ⟨[.int .i64 h.1, .int .i64 h.2], 0, 0, false, true⟩ := hH1 ▸ get_new _ _ 2
  have hb6 : H1[H.length + 3]? = some ⟨[.int .i64 0, .int .i64 0], 0, 0, false, true⟩ := hH1 ▸ get_new _ _ 3
  clear hH1
  refine seq_assoc (seq_reg ?_)
  simp only [go_sem, binC, gc_of hb4, inBlk_some]
  obtain ⟨vw_, L, k2, hvs⟩ := vars_okV gv H1 a b c rb rc
  refine op_callK (by simp only [go_sem, binC]; exact k2) ?_
  have hvl := varsL_le (a, b, c)
  have hvi := varsL_in hv
  generalize hvL : varsL (a, b, c) = vs at *
  obtain ⟨_, va, rfl, _⟩ := id hvs
  generalize hHb : H1 ++ L = Hb at *
  have hx2 : AgX [] H1 Hb := hHb ▸ AgX.app [] _ _
  clear hHb k2
  simp only [go_sem, binC]
  have hb32 := hx2.get hb3 (by simp)
  have hb52 := hx2.get hb5 (by simp)
  have hb62 := hx2.get hb6 (by simp)
  have hx02 := hx1.tr hx2
  have hbl5 := (List.getElem?_eq_some_iff.1 hb52).1
  have hb6l1 := (List.getElem?_eq_some_iff.1 hb6).1
  refine seq_block (wpc_loop ?_)
  suffices hl : ∀ (m i : Nat) (e : Env) (Hc : Heap) (o : Int × Int), i + m = vs.length → AgX [H.length + 2] Hb Hc → Hc[H.length + 2]? = some ⟨[.int .i64 o.1, .int .i64 o.2], 0, 0, false, true⟩ → labB o = true → o = (vs.take i).foldl (fun o x => lboth o (ls.getD x.toNat (0, 0))) h → e 3 = ptr H.length 0 → e 5 = ptr (H.length + 2) 0 → e 6 = ptr (H.length + 3) 0 → e 11 = .slice va vs.length vs.length → e 12 = .int .i64 vs.length → e 13 = .int .i64 i → W F H.length _ e Hc _ from
    hl vs.length 0 _ Hb h (by omega) (AgX.refl _ _) hb52 hh rfl (by simp only [go_sem, binC]) (by simp only [go_sem, binC]) (by simp only [go_sem, binC]) (by simp only [go_sem, binC]) (by simp only [go_sem, binC]) (by (simp only [go_sem, binC]) <;> rfl)
  intro m
  induction m with
  | zero =>
    intro i e Hc o hi hxc hbo ho hof e3 e5 e6 e11 e12 e13
    have hb6c := hxc.get hb62 (by simp)
    have hb6l := (List.getElem?_eq_some_iff.1 hb6c).1
    refine lp_step ?_
    refine seq_reg ?_
    simp only [go_sem, binC, e12, e13]
    refine seq_cond (t := false) (by simp only [go_sem, binC]; rw [decide_eq_false (by omega)]) ?_
    simp only [go_sem, binC]
    refine seq_exit ?_
    simp only [go_sem, binC, thenX_e, out_e, thenX_n]
    refine seq_reg ?_
    simp only [go_sem, binC, e5, e6, gc_of hbo, inBlk_some, hb6c]
    rw [List.take_of_length_le (by omega)] at hof
    refine wpc_ret ⟨Or.inr rfl, .agg #[.int .i64 o.1, .int .i64 o.2], ?_, ?_, rfl⟩
    · simp [resV, resL, res1, putE_get, e6, ptr, gc_set hb6l, inBlk_some, valOf]
    · have : o = srcL ls (a, b, c) h := by rw [hof]; unfold srcL; rw [hvL]
      rw [this]
  | succ m ih =>
    intro i e Hc o hi hxc hbo ho hof e3 e5 e6 e11 e12 e13
    have hil : i < vs.length := by omega
    have hw1 : IntKind.i64.wrap ((i : Int) + 1) = ((i + 1 : Nat) : Int) := by rw [wrap_id (by omega) (by omega)]; omega
    have hvx := hvi _ (List.getElem_mem hil)
    have hbol := (List.getElem?_eq_some_iff.1 hbo).1
    have hSc : Sub (vw 0 H) (vw 0 Hc) := agx_sub (hx02.trans hxc (fun _ h _ => h) (fun b' h1 h2 => by simp only [List.mem_singleton] at h1; omega) : AgX [] H Hc)
    have hb3c := hxc.get hb32 (by simp)
    obtain ⟨lb, lo', hlvE, hga, rr1, rr2⟩ := lab_at (r1.mono hSc) (H := Hc) (fun _ _ h => h) hvx.1 hvx.2
    simp only [Value.slice.injEq, and_true] at hlvE
    subst hlvE
    have hga0 := hga []
    rw [List.append_nil] at hga0
    have hlx := lab_getD hlab vs[i].toNat
    obtain ⟨b9, o9, hv9, hg9⟩ := gcJ ((hvs.mono (vwl_sub hxc (Nat.le_refl _) (xs' := []) fun b' h1 h2 _ => ⟨by simp; omega, by simp⟩)).mono (vwl0 _ _ _)) hil
    simp only [Value.slice.injEq, and_true] at hv9
    subst hv9
    refine lp_step ?_
    refine seq_reg ?_
    simp only [go_sem, binC, e12, e13]
    refine seq_cond (t := true) (by simp only [go_sem, binC]; rw [decide_eq_true (by omega)]) ?_
    simp only [go_sem, binC]
    refine seq_skip (seq_block (seq_reg ?_))
    simp only [go_sem, binC, e11, e13]
    refine ⟨⟨by omega, by omega⟩, ?_⟩
    simp only [go_sem, binC, Int.toNat_natCast, Nat.mul_one, hg9]
    refine wpc_regD ?_
    simp only [go_sem, binC, e3, e5, gc_of hbo, gc_of hb3c, inBlk_some]
    refine ⟨⟨by omega, by omega⟩, ?_⟩
    simp only [go_sem, binC, hga0]
    refine op_callQ (by simp only [go_sem, binC]; exact gb Hc o _ ho hlx) ?_
    simp only [go_sem, binC, e5, hbo]
    simp only [go_sem, binC, out_n, thenX_n]
    refine wpc_reg ?_
    simp only [go_sem, binC, e13, hw1]
    simp only [go_sem, binC, thenX_n]
    refine ih (i + 1) _ _ (lboth o (ls.getD vs[i].toNat (0, 0))) (by omega) (hxc.trans (AgX.set _ _ _) (fun _ h _ => h) (fun _ h _ => h)) (List.getElem?_set_self hbol) (lboth_bd _ _) ?_ (by simp only [go_sem, binC, e3]) (by simp only [go_sem, binC, e5]) (by simp only [go_sem, binC, e6]) (by simp only [go_sem, binC, e11]) (by simp only [go_sem, binC, e12]) (by simp only [go_sem, binC])
    rw [List.take_add_one, List.getElem?_eq_getElem hil, List.foldl_append, ← hof]
    rfl
end Go.Proofs.YtkmghcglmjehcaaI
end
section
/- The program's labels of steps being done, and all its steps. -/
set_option linter.unusedVariables false
set_option linter.unusedSimpArgs false
namespace Go.Proofs.YtkmghcglmjehcaaI
open Go Go.RowKit
def c_iAll : IFn := ⟨1, 28, [.t 2],
 .seq (.reg none [
    ⟨(some 2), none, .mov (.c (.slice none 0 0))⟩])
 (.seq (.reg none [
    ⟨(some 3), none, .mov (.c (.slice none 0 0))⟩])
 (.seq (.seq (.reg none [
     ⟨(some 6), none, .mov (.t 0)⟩,
     ⟨(some 7), none, .len (.t 6)⟩,
     ⟨(some 8), none, .mov (.c (.int .i64 0))⟩])
  (.block 0 (.loop (.seq (.reg none [
       ⟨(some 9), none, .bin .lss (.t 8) (.t 7)⟩])
    (.seq (.cond (.t 9) (.skip) (.exit 0))
    (.seq (.block 1 (.seq (.reg none [
         ⟨(some 10), none, .iad 8 (.t 6) (.t 8)⟩,
         ⟨(some 11), none, .load true 8 (.t 10)⟩,
         ⟨(some 5), none, .new [(.int .i64 0), (.int .i64 0), (.int .i64 0), (.int .i64 0), (.int .i64 0), (.int .i64 0), (.slice none 0 0), (.slice none 0 0)]⟩,
         ⟨none, none, .store 8 (.t 5) (.t 11)⟩])
      (.seq (.reg none [
         ⟨(some 12), none, .mov (.t 3)⟩,
         ⟨(some 13), none, .load true 8 (.t 5)⟩,
         ⟨(some 14), none, .lit 8 83 1 [(.int .i64 0), (.int .i64 0), (.int .i64 0), (.int .i64 0), (.int .i64 0), (.int .i64 0), (.slice none 0 0), (.slice none 0 0)] [(0, 8, (.t 13))]⟩,
         ⟨(some 15), none, .app 8 83 96 false (.t 12) (.t 14)⟩,
         ⟨(some 3), none, .mov (.t 15)⟩])
      (.seq (.reg none [
         ⟨(some 16), none, .mov (.t 3)⟩,
         ⟨(some 17), none, .fad 6 (.t 5)⟩,
         ⟨(some 18), none, .load false 1 (.t 17)⟩,
         ⟨(some 19), none, .call .k (.f 58) [(.t 18)]⟩,
         ⟨(some 20), none, .app 8 83 96 false (.t 16) (.t 19)⟩,
         ⟨(some 3), none, .mov (.t 20)⟩])
      (.reg none [
        ⟨(some 21), none, .mov (.t 3)⟩,
        ⟨(some 22), none, .fad 7 (.t 5)⟩,
        ⟨(some 23), none, .load false 1 (.t 22)⟩,
        ⟨(some 24), none, .call .k (.f 58) [(.t 23)]⟩,
        ⟨(some 25), none, .app 8 83 96 false (.t 21) (.t 24)⟩,
        ⟨(some 3), none, .mov (.t 25)⟩])))))
    (.reg none [
      ⟨(some 26), none, .bin .add (.t 8) (.c (.int .i64 1))⟩,
      ⟨(some 8), none, .mov (.t 26)⟩])))))))
 (.seq (.reg none [
    ⟨(some 27), none, .mov (.t 3)⟩,
    ⟨(some 2), none, .mov (.t 27)⟩])
 (.ret))))⟩
theorem atL_len' : ∀ (n : Nat) (ls : List (Int × Int)) (h : Int × Int) (s : TStep n), (atT n ls h s).length = (allT n s).length
  | 0, _, _, s => s.elim
  | n + 1, ls, h, (k, x, v, g, th, el) => by
    have go : ∀ (h : Int × Int) (l : List (TStep n)), (atL n ls h l).length = (allL n l).length := fun h l => by
      unfold atL allL
      rw [List.length_flatten, List.length_flatten, List.map_map, List.map_map]
      congr 1
      exact List.map_congr_left fun a _ => atL_len' n ls h a
    rw [atT_succ, allT_succ, List.length_cons, List.length_cons, List.length_append, List.length_append, go, go]
theorem atL_len {n : Nat} (ls : List (Int × Int)) (h : Int × Int) (l : List (TStep n)) : (atL n ls h l).length = (allL n l).length := by
  unfold atL allL
  rw [List.length_flatten, List.length_flatten, List.map_map, List.map_map]
  congr 1
  exact List.map_congr_left fun a _ => atL_len' n ls h a
theorem varB_i {k : Nat} {x : Int} : varB k x = true ↔ 0 ≤ x ∧ x < k := by
  unfold varB
  rw [inB_iff]
  omega
/-- One step of a list, read in any view. -/
theorem step_atW {n : Nat} {V : Vw} {v : Value} {l : List (TStep (n + 1))} (h : SlR (Co.step (n + 1)) V v l) {i : Nat} (hi : i < l.length) : ∃ (b o : Nat) (k x a bb c g : Int) (tv ev : Value) (tl el : List (TStep n)), v = .slice (some ⟨b, o, none⟩) l.length l.length ∧ l[i] = (k, x, (a, bb, c), g, tl, el) ∧
    (RgI k ∧ RgI x ∧ RgI a ∧ RgI bb ∧ RgI c ∧ RgI g) ∧ one tv = true ∧ one ev = true ∧ (∀ H', Sub V (vw 0 H') → getCells H' b (o + i * 8) 8 = some [.int .i64 k, .int .i64 x, .int .i64 a, .int .i64 bb, .int .i64 c, .int .i64 g, tv, ev]) ∧ SlR (Co.step n) V tv tl ∧ SlR (Co.step n) V ev el := by
  obtain ⟨_, a, rfl, h2⟩ := h
  obtain ⟨b, o, rfl, h3⟩ := h2.resolve_left (fun h => by rw [h] at hi; simp at hi)
  obtain ⟨cs, h4, h5⟩ := h3 i hi
  generalize hs : l[i] = s at h5
  obtain ⟨k, x, ⟨a, bb, c⟩, g, tl, el⟩ := s
  obtain ⟨_, _, rfl, ⟨rfl, r1⟩, _, _, rfl, ⟨rfl, r2⟩, _, _, rfl, ⟨_, _, rfl, ⟨rfl, r3⟩, _, _, rfl, ⟨rfl, r4⟩, ⟨rfl, r5⟩⟩, _, _, rfl, ⟨rfl, r6⟩, _, _, rfl, ⟨tv, rfl, h6⟩, ⟨ev, rfl, h7⟩⟩ := h5
  have o6 : Go.Proofs.YtkmghcglmjehcaaI.one tv = true := by obtain ⟨_, _, rfl, _⟩ := h6; rfl
  have o7 : Go.Proofs.YtkmghcglmjehcaaI.one ev = true := by obtain ⟨_, _, rfl, _⟩ := h7; rfl
  exact ⟨b, o, k, x, a, bb, c, g, tv, ev, tl, el, rfl, rfl, ⟨r1, r2, r3, r4, r5, r6⟩, o6, o7, fun H' hs => rng_gc (rng_sub hs h4), h6, h7⟩
def AtI (F : Nat → Option IFn) (f n : Nat) : Prop := ∀ (V : Vw) (H : Heap) (lo lo1 : Nat) (lv sv v w : Value) (ls : List (Int × Int)) (l : List (TStep n)) (here : Int × Int) (out : List (Int × Int)), Sub V (vwl 0 (blkOf w) H) → lo ≤ lo1 → lo1 ≤ H.length → one sv = true → SlR Co.p2 V lv ls → SlR (Co.step n) V v l → LsV V Co.p2 2 35 lo1 H w out → (∀ s ∈ allL n l, varB ls.length s.2.1 = true) → ls.all labB = true → labB here = true → out.length + (allL n l).length ≤ 1000 →
  ∃ w' H', NC F lo f [.agg #[lv, sv], v, .agg #[.int .i64 here.1, .int .i64 here.2], w] H w' H' ∧ (AgX (blkOf w) H H' ∧ BlkN H w w' ∧ LsV V Co.p2 2 35 lo1 H' w' (out ++ atL n ls here l))
theorem sub_keep {V : Vw} {H H' : Heap} {w w' : Value} (h : Sub V (vwl 0 (blkOf w) H)) (hx : AgX (blkOf w) H H') (hn : BlkN H w w') : Sub V (vwl 0 (blkOf w') H') := by
  intro b cs hb
  have h1 := h b cs hb
  unfold vwl at h1 ⊢
  split at h1
  · rename_i h2
    cases hk : H[b]? with
    | none => rw [hk] at h1; cases h1
    | some k =>
      have hl := (List.getElem?_eq_some_iff.1 hk).1
      rw [if_pos ⟨Nat.zero_le _, fun hm => by rcases hn b hm with h3 | h3; exact h2.2 h3; omega⟩, hx.2 b hl h2.2]
      exact h1
  · cases h1
theorem sub_vw {V : Vw} {H : Heap} {xs : List Nat} (h : Sub V (vwl 0 xs H)) : Sub V (vw 0 H) := h.trans (vwl0 _ _ _)
theorem blkN_refl (H : Heap) (v : Value) : BlkN H v v := fun _ h => .inl h
theorem agx_app_w {H : Heap} (w : Value) (L : Heap) : AgX (blkOf w) H (H ++ L) := AgX.app _ _ _
theorem iLabels_ok {F : Nat → Option IFn} {f n : Nat} (hf : F f = some c_iLabels) (gb : ILBoth F 59) (ih : ∀ m, n = m + 1 → AtI F 111 m) : AtI F f n := by
  intro V H lo lo1 lv sv v w0 ls l here out0 hV hlo hlo1 hsv hlv hv ho0 hvar hlab hhere hcnt
  obtain ⟨_, la, rfl, _⟩ := id hlv
  have hv0 := hv
  obtain ⟨h0, av, rfl, hv1⟩ := hv
  suffices h : ∃ w' H', NC F lo f [.agg #[.slice la ls.length ls.length, sv], .slice av l.length l.length, .agg #[.int .i64 here.1, .int .i64 here.2], w0] H w' H' ∧ (AgX (blkOf w0) H H' ∧ BlkN H w0 w' ∧ LsV V Co.p2 2 35 lo1 H' w' (out0 ++ atL n ls here l)) from h
  refine NC.mk hf rfl ?_
  refine seq_reg ?_
  simp only [go_sem, binC, hsv]
  refine wpc_gen fun Hb hHb => ?_
  have ht0 : AgX (blkOf w0) H Hb := hHb ▸ agx_app_w _ _
  have hp0 : Hb[H.length]? = some ⟨[.slice la ls.length ls.length, sv], 0, 0, false, true⟩ := hHb ▸ get_new0 _ _
  have hh0 : Hb[H.length + 1]? = some ⟨[.int .i64 here.1, .int .i64 here.2], 0, 0, false, true⟩ := hHb ▸ get_new _ _ 1
  have hob : LsV V Co.p2 2 35 lo1 Hb w0 out0 := hHb ▸ ho0.keep (Nat.le_refl _) (AgX.app [] H _) (fun _ _ => by simp)
  clear hHb
  refine seq_assoc (seq_reg ?_)
  simp only [go_sem, binC]
  refine seq_block (wpc_loop ?_)
  suffices h : ∀ (k i : Nat) (e : Env) (Hc : Heap) (w : Value), i + k = l.length → AgX (blkOf w0) H Hc → BlkN H w0 w → LsV V Co.p2 2 35 lo1 Hc w (out0 ++ atL n ls here (l.take i)) → Hc[H.length]? = some ⟨[.slice la ls.length ls.length, sv], 0, 0, false, true⟩ → Hc[H.length + 1]? = some ⟨[.int .i64 here.1, .int .i64 here.2], 0, 0, false, true⟩ →
      e 3 = w → e 4 = ptr H.length 0 → e 6 = ptr (H.length + 1) 0 → e 12 = .slice av l.length l.length → e 13 = .int .i64 l.length → e 14 = .int .i64 i → W F lo _ e Hc _ from
    h l.length 0 _ Hb w0 (by omega) ht0 (blkN_refl _ _) (by simpa [atL] using hob) hp0 hh0 (by simp only [go_sem, binC]) (by simp only [go_sem, binC]) (by simp only [go_sem, binC]) (by simp only [go_sem, binC]) (by simp only [go_sem, binC]) (by (simp only [go_sem, binC]) <;> rfl)
  intro k
  induction k with
  | zero =>
    intro i e Hc w hi ht hbn ho hp hh e3 e4 e6 e12 e13 e14
    refine lp_step ?_
    refine seq_reg ?_
    simp only [go_sem, binC, e13, e14]
    refine seq_cond (t := false) (by simp only [go_sem, binC]; rw [decide_eq_false (by omega)]) ?_
    simp only [go_sem, binC]
    refine seq_exit ?_
    simp only [go_sem, binC, thenX_e, out_e, thenX_n]
    refine seq_reg ?_
    simp only [go_sem, binC, e3]
    rw [List.take_of_length_le (by omega)] at ho
    exact wpc_ret ⟨Or.inr rfl, _, (by (simp only [go_sem, binC]) <;> rfl), ht, hbn, ho⟩
  | succ k ihk =>
    intro i e Hc w hi ht hbn ho hp hh e3 e4 e6 e12 e13 e14
    have hil : i < l.length := by omega
    cases n with
    | zero => exact (l[i]).elim
    | succ n =>
    have hw1 : IntKind.i64.wrap ((i : Int) + 1) = ((i + 1 : Nat) : Int) := by rw [wrap_id (by omega) (by omega)]; omega
    obtain ⟨vb, vo, sk, sx, sa, sbb, sc, sg, tv, ev, tl, el, hav, hs, rg, otv, oev, hgc, htl, hel⟩ := step_atW hv0 hil
    simp only [Value.slice.injEq, and_true] at hav
    subst hav
    have htake := allL_take l i hil
    rw [hs, allT_succ] at htake
    have hle := allL_take_le l (i + 1)
    rw [htake, List.length_append, List.length_cons, List.length_append] at hle
    have hmem : ∀ s, s ∈ allT (n + 1) l[i] → varB ls.length s.2.1 = true := fun s hs' => hvar s (mem_allL hil hs')
    rw [hs, allT_succ] at hmem
    have hvx := varB_i.1 (hmem _ (List.mem_cons_self))
    simp only at hvx
    have hatl : (atL (n + 1) ls here (l.take i)).length = (allL (n + 1) (l.take i)).length := atL_len _ _ _
    have hVc : ∀ {H' : Heap} {w' : Value}, AgX (blkOf w0) H H' → BlkN H w0 w' → Sub V (vwl 0 (blkOf w') H') := fun h1 h2 => sub_keep hV h1 h2
    have hlx := lab_getD hlab sx.toNat
    have hgl : ∀ {H' : Heap}, AgX (blkOf w0) H H' → ∃ lb lo', la = some ⟨lb, lo', none⟩ ∧ getCells H' lb (lo' + sx.toNat * 2) 2 = some [.int .i64 (ls.getD sx.toNat (0, 0)).1, .int .i64 (ls.getD sx.toNat (0, 0)).2] := by
      intro H' hx
      obtain ⟨b2, o2, h1, h2, _⟩ := lab_at hlv (H := H') (sub_vw (hVc hx (blkN_refl _ _))) hvx.1 hvx.2
      simp only [Value.slice.injEq, and_true] at h1
      have := h2 []
      rw [List.append_nil] at this
      exact ⟨b2, o2, h1, this⟩
    have hgp : ∀ {H' : Heap} (_ : AgX (blkOf w0) H H') (off kk : Nat), off + kk ≤ 8 → getCells H' vb (vo + i * 8 + off) kk = some (([.int .i64 sk, .int .i64 sx, .int .i64 sa, .int .i64 sbb, .int .i64 sc, .int .i64 sg, tv, ev].drop off).take kk) := fun hs off kk h => gc_part (hgc _ (sub_vw (hVc hs (blkN_refl _ _)))) h
    have htl0 := ht.1
    refine lp_step ?_
    refine seq_reg ?_
    simp only [go_sem, binC, e13, e14]
    refine seq_cond (t := true) (by simp only [go_sem, binC]; rw [decide_eq_true (by omega)]) ?_
    simp only [go_sem, binC]
    refine seq_skip (seq_block ?_)
    refine seq_reg ?_
    have hg8 := hgc _ (sub_vw (hVc ht (blkN_refl _ _)))
    simp only [go_sem, binC, e12, e14]
    refine ⟨⟨by omega, by omega⟩, ?_⟩
    simp only [go_sem, binC, Int.toNat_natCast, hg8, otv, oev]
    refine ⟨by omega, ?_⟩
    refine wpc_gen fun H1 hH1 => ?_
    have hx1 : AgX (blkOf w) Hc H1 := hH1 ▸ agx_app_w _ _
    have ht1 : AgX (blkOf w0) H H1 := hH1 ▸ ht.trans (AgX.app [] _ _) (fun _ h _ => h) (fun _ h _ => by cases h)
    have hs1 : H1[Hc.length]? = some ⟨[.int .i64 sk, .int .i64 sx, .int .i64 sa, .int .i64 sbb, .int .i64 sc, .int .i64 sg, tv, ev], 0, 0, false, true⟩ := hH1 ▸ get_new0 _ _
    have hxn1 : AgX [] Hc H1 := hH1 ▸ AgX.app [] _ _
    have hl1 : H1.length = Hc.length + 1 := by rw [hH1, List.length_append]; rfl
    clear hH1
    have ho1 := ho.keep (Nat.le_refl _) hxn1 (fun _ _ => by simp)
    have hp1 := hxn1.get hp (by simp)
    have hh1 := hxn1.get hh (by simp)
    refine seq_reg ?_
    simp only [go_sem, binC, e3, e6, gc_of hh1, inBlk_some]
    refine op_app_ls1 (a := here) ho1 (by simp only [go_sem, binC, e3]) (by (simp only [go_sem, binC]) <;> rfl) rfl ⟨[.int .i64 here.1], [.int .i64 here.2], rfl, ⟨rfl, (labB_rg hhere).1⟩, ⟨rfl, (labB_rg hhere).2⟩⟩ hlo (by omega) (by rw [List.length_append, hatl]; omega) (by omega) fun H2 w2 hx2 _ hn2 ho2 => ?_
    simp only [go_sem, binC]
    have hbnX : ∀ {Hx : Heap} {wa wb : Value}, BlkN H w0 wa → H.length ≤ Hx.length → BlkN Hx wa wb → BlkN H w0 wb := fun h1 h2 h3 b hb => by
      rcases h3 b hb with h | h
      · exact h1 b h
      · exact .inr (by omega)
    have htX : ∀ {Hx Hy : Heap} {wa : Value}, AgX (blkOf w0) H Hx → BlkN H w0 wa → AgX (blkOf wa) Hx Hy → AgX (blkOf w0) H Hy := fun h1 h2 h3 => h1.trans h3 (fun _ h _ => h) (fun b hb hl => by
      rcases h2 b hb with h | h
      · exact h
      · omega)
    have hbn2 : BlkN H w0 w2 := hbnX hbn (by omega) hn2
    have ht2 : AgX (blkOf w0) H H2 := htX ht1 hbn hx2
    have hp2 := hx2.get hp1 (ho1.nbox hp1)
    have hh2 := hx2.get hh1 (ho1.nbox hh1)
    have hs2 := hx2.get hs1 (ho1.nbox hs1)
    have hx2l := hx2.1
    refine seq_regD ?_
    obtain ⟨lb, lo', hla, hgl2⟩ := hgl ht2
    subst hla
    simp only [go_sem, binC, e4, e6, gc_of hp2, gc_of hh2, gc_of hs2, inBlk_some]
    refine ⟨⟨by omega, by omega⟩, ?_⟩
    simp only [go_sem, binC, hgl2]
    refine op_callQ (by simp only [go_sem, binC]; exact gb H2 here _ hhere hlx) ?_
    simp only [go_sem, binC]
    refine ⟨by omega, ?_⟩
    have hin := lboth_bd here (ls.getD sx.toNat (0, 0))
    refine wpc_gen fun H3 hH3 => ?_
    have hxn3 : AgX [] H2 H3 := hH3 ▸ AgX.app [] _ _
    have hin3 : H3[H2.length]? = some ⟨[.int .i64 (lboth here (ls.getD sx.toNat (0, 0))).1, .int .i64 (lboth here (ls.getD sx.toNat (0, 0))).2], 0, 0, false, true⟩ := hH3 ▸ get_new0 _ _
    have hl3 : H3.length = H2.length + 1 := by rw [hH3, List.length_append]; rfl
    clear hH3
    have ht3 : AgX (blkOf w0) H H3 := ht2.trans hxn3 (fun _ h _ => h) (fun _ h _ => by cases h)
    have ho3 := ho2.keep (Nat.le_refl _) hxn3 (fun _ _ => by simp)
    have hp3 := hxn3.get hp2 (by simp)
    have hh3 := hxn3.get hh2 (by simp)
    have hs3 := hxn3.get hs2 (by simp)
    have hlen2 : (out0 ++ atL (n + 1) ls here (l.take i) ++ [here]).length = out0.length + (allL (n + 1) (l.take i)).length + 1 := by rw [List.length_append, List.length_append, hatl]; rfl
    refine seq_reg ?_
    simp only [go_sem, binC, e4, gc_of hp3, gc_of hs3, gc_of hin3, inBlk_some, hsv, otv]
    obtain ⟨w4, H4, k4, hx4, hn4, ho4⟩ := ih n rfl V H3 lo lo1 _ sv tv w2 ls tl (lboth here (ls.getD sx.toNat (0, 0))) _ (hVc ht3 hbn2) hlo (by omega) hsv hlv htl ho3 (fun s hs' => hmem s (List.mem_cons_of_mem _ (List.mem_append_left _ hs'))) hlab hin (by omega)
    refine op_callN (by simp only [go_sem, binC]; exact k4) ?_
    simp only [go_sem, binC]
    have hbn4 : BlkN H w0 w4 := hbnX hbn2 (by omega) hn4
    have ht4 : AgX (blkOf w0) H H4 := htX ht3 hbn2 hx4
    have hp4 := hx4.get hp3 (ho3.nbox hp3)
    have hh4 := hx4.get hh3 (ho3.nbox hh3)
    have hs4 := hx4.get hs3 (ho3.nbox hs3)
    have hin4 := hx4.get hin3 (ho3.nbox hin3)
    have hx4l := hx4.1
    have hlen4 : (out0 ++ atL (n + 1) ls here (l.take i) ++ [here] ++ atL n ls (lboth here (ls.getD sx.toNat (0, 0))) tl).length = out0.length + (allL (n + 1) (l.take i)).length + 1 + (allL n tl).length := by rw [List.length_append, hlen2, atL_len]
    refine wpc_reg ?_
    simp only [go_sem, binC, e4, gc_of hp4, gc_of hs4, gc_of hin4, inBlk_some, hsv, oev]
    obtain ⟨w5, H5, k5, hx5, hn5, ho5⟩ := ih n rfl V H4 lo lo1 _ sv ev w4 ls el (lboth here (ls.getD sx.toNat (0, 0))) _ (hVc ht4 hbn4) hlo (by omega) hsv hlv hel ho4 (fun s hs' => hmem s (List.mem_cons_of_mem _ (List.mem_append_right _ hs'))) hlab hin (by omega)
    refine op_callN (by simp only [go_sem, binC]; exact k5) ?_
    simp only [go_sem, binC, out_n, thenX_n]
    have hbn5 : BlkN H w0 w5 := hbnX hbn4 (by omega) hn5
    have ht5 : AgX (blkOf w0) H H5 := htX ht4 hbn4 hx5
    have hp5 := hx5.get hp4 (ho4.nbox hp4)
    have hh5 := hx5.get hh4 (ho4.nbox hh4)
    refine wpc_reg ?_
    simp only [go_sem, binC, e14, hw1]
    simp only [go_sem, binC, thenX_n]
    refine ihk (i + 1) _ H5 w5 (by omega) ht5 hbn5 ?_ hp5 hh5 (by simp only [go_sem, binC]) (by simp only [go_sem, binC, e4]) (by simp only [go_sem, binC, e6]) (by simp only [go_sem, binC, e12]) (by simp only [go_sem, binC, e13]) (by simp only [go_sem, binC])
    rw [atL_take ls here l i hil, hs, atT_succ]
    simpa only [List.append_assoc, List.cons_append, List.nil_append] using ho5
theorem iLabels_all {F : Nat → Option IFn} (hf : F 111 = some c_iLabels) (gb : ILBoth F 59) : ∀ n, AtI F 111 n
  | 0 => iLabels_ok hf gb fun m h => by omega
  | n + 1 => iLabels_ok hf gb fun m h => by cases h; exact iLabels_all hf gb n
def AtP (F : Nat → Option IFn) (f : Nat) : Prop := ∀ (H : Heap) (n : Nat) (lv sv : Value) (ls : List (Int × Int)) (l : List (TStep n)), SlR Co.p2 (vw 0 H) lv ls → SlR (Co.step n) (vw 0 H) sv l → (Co.prog n).sm (ls, l) → progB n (ls, l) = true →
  ∃ w H', KC F f [.agg #[lv, sv]] H w H' ∧ (AgX [] H H' ∧ LsV (vw 0 H) Co.p2 2 35 H.length H' w (atL n ls (7, 7) l))
theorem iAt_ok {F : Nat → Option IFn} {f : Nat} (hf : F f = some c_iAt) (gl : ∀ n, AtI F 111 n) (ge : ∀ H, QC F 56 [] H (.agg #[.int .i64 7, .int .i64 7])) : AtP F f := by
  intro H n lv sv ls l r1 r2 hsm hP
  have osv : one sv = true := by obtain ⟨_, a, rfl, _⟩ := r2; rfl
  obtain ⟨_, la, rfl, _⟩ := id r1
  have hcnt := progB_cnt hP hsm
  simp only at hcnt
  refine KC.mk hf rfl ?_
  refine seq_reg ?_
  simp only [go_sem, binC, osv]
  refine wpc_gen fun H1 hH1 => ?_
  have hx1 : AgX [] H H1 := hH1 ▸ AgX.app [] _ _
  have hb : H1[H.length]? = some ⟨[.slice la ls.length ls.length, sv], 0, 0, false, true⟩ := hH1 ▸ get_new0 _ _
  clear hH1
  refine seq_regD ?_
  simp only [go_sem, binC, gc_of hb, inBlk_some, osv]
  refine op_callQ (by simp only [go_sem, binC]; exact ge H1) ?_
  simp only [go_sem, binC]
  obtain ⟨w, H2, k2, hx2, hn2, ho2⟩ := gl n (vw 0 H) H1 H.length H.length _ sv sv nilS ls l (7, 7) [] (fun b cs hb => by
    have := agx_sub hx1 b cs hb
    unfold vw at this
    unfold vwl
    simpa [blkOf, nilS] using this) (Nat.le_refl _) hx1.1 osv r1 r2 LsV.nil (fun s hs => by
      have := progB_sh hP s hs
      simp only [shB, Bool.and_eq_true] at this
      exact this.1) (progB_lab hP) rfl (by simp; omega)
  refine op_callN (by simp only [go_sem, binC]; exact k2) ?_
  simp only [go_sem, binC]
  exact wpc_ret ⟨Or.inr rfl, _, (by (simp only [go_sem, binC]) <;> rfl), hx1.trans hx2 (fun _ h _ => h) (fun b h _ => by simp [blkOf, nilS] at h), by simpa using ho2⟩
end Go.Proofs.YtkmghcglmjehcaaI
end
section
/- All steps of a program; the first step that is not fine (the program's). -/
set_option linter.unusedVariables false
set_option linter.unusedSimpArgs false
namespace Go.Proofs.YtkmghcglmjehcaaI
open Go Go.RowKit
def c_iWhy0 : IFn := ⟨1, 61, [.t 2, .t 3],
 .seq (.reg none [
    ⟨(some 1), none, .box (.t 0)⟩,
    ⟨(some 2), none, .mov (.c (.int .i64 0))⟩,
    ⟨(some 3), none, .mov (.c (.bool false))⟩])
 (.seq (.reg none [
    ⟨(some 8), none, .load true 2 (.t 1)⟩,
    ⟨(some 9), none, .call .k (.f 57) [(.t 8)]⟩,
    ⟨(some 4), none, .mov (.t 9)⟩])
 (.seq (.seq (.reg none [
     ⟨(some 10), none, .fad 1 (.t 1)⟩,
     ⟨(some 11), none, .load false 1 (.t 10)⟩,
     ⟨(some 12), none, .call .k (.f 58) [(.t 11)]⟩,
     ⟨(some 13), none, .len (.t 12)⟩,
     ⟨(some 14), none, .mov (.c (.int .i64 0))⟩])
  (.block 0 (.loop (.seq (.reg none [
       ⟨(some 15), none, .bin .lss (.t 14) (.t 13)⟩])
    (.seq (.cond (.t 15) (.skip) (.exit 0))
    (.seq (.block 1 (.seq (.reg none [
         ⟨(some 16), none, .mov (.t 14)⟩,
         ⟨(some 17), none, .iad 8 (.t 12) (.t 14)⟩,
         ⟨(some 18), none, .load true 8 (.t 17)⟩,
         ⟨(some 6), none, .new [(.int .i64 0), (.int .i64 0), (.int .i64 0), (.int .i64 0), (.int .i64 0), (.int .i64 0), (.slice none 0 0), (.slice none 0 0)]⟩,
         ⟨(some 5), none, .mov (.t 16)⟩,
         ⟨none, none, .store 8 (.t 6) (.t 18)⟩])
      (.seq (.reg none [
         ⟨(some 19), none, .fad 0 (.t 1)⟩,
         ⟨(some 20), none, .load false 1 (.t 19)⟩,
         ⟨(some 21), none, .fad 1 (.t 6)⟩,
         ⟨(some 22), none, .load false 1 (.t 21)⟩,
         ⟨(some 23), none, .iad 2 (.t 20) (.t 22)⟩,
         ⟨(some 24), none, .load true 2 (.t 23)⟩,
         ⟨(some 7), none, .new [(.int .i64 0), (.int .i64 0)]⟩,
         ⟨none, none, .store 2 (.t 7) (.t 24)⟩])
      (.seq (.reg none [
         ⟨(some 25), none, .fad 0 (.t 6)⟩,
         ⟨(some 26), none, .load false 1 (.t 25)⟩])
      (.block 2 (.seq (.reg none [
          ⟨(some 28), none, .bin .eql (.t 26) (.c (.int .i64 1))⟩,
          ⟨(some 27), none, .mov (.t 28)⟩])
       (.cond (.t 27) (.seq (.reg (some 8) [
           ⟨(some 29), none, .load true 2 (.t 1)⟩,
           ⟨(some 30), none, .load true 8 (.t 6)⟩,
           ⟨(some 31), none, .mov (.t 4)⟩,
           ⟨(some 32), none, .mov (.t 5)⟩,
           ⟨(some 33), none, .iad 2 (.t 31) (.t 32)⟩,
           ⟨(some 34), none, .load true 2 (.t 33)⟩,
           ⟨(some 35), none, .call .q (.f 60) [(.t 29), (.t 30), (.t 34)]⟩,
           ⟨(some 36), none, .load true 2 (.t 7)⟩,
           ⟨(some 37), none, .call .q (.f 66) [(.t 35), (.t 36)]⟩,
           ⟨(some 38), none, .un .not (.t 37)⟩])
        (.cond (.t 38) (.seq (.reg none [
            ⟨(some 39), none, .mov (.t 5)⟩,
            ⟨(some 2), none, .mov (.t 39)⟩,
            ⟨(some 3), none, .mov (.c (.bool true))⟩])
         (.ret)) (.skip))) (.seq (.reg none [
           ⟨(some 41), none, .bin .eql (.t 26) (.c (.int .i64 3))⟩,
           ⟨(some 40), none, .mov (.t 41)⟩])
        (.cond (.t 40) (.seq (.reg (some 14) [
            ⟨(some 42), none, .mov (.t 4)⟩,
            ⟨(some 43), none, .mov (.t 5)⟩,
            ⟨(some 44), none, .iad 2 (.t 42) (.t 43)⟩,
            ⟨(some 45), none, .fad 0 (.t 44)⟩,
            ⟨(some 46), none, .load false 1 (.t 45)⟩,
            ⟨(some 47), none, .fad 5 (.t 6)⟩,
            ⟨(some 48), none, .load false 1 (.t 47)⟩,
            ⟨(some 49), none, .call .q (.f 114) [(.t 46), (.t 48)]⟩,
            ⟨(some 50), none, .un .not (.t 49)⟩,
            ⟨(some 51), none, .mov (.t 50)⟩,
            ⟨(some 52), (some (51, false)), .fad 0 (.t 7)⟩,
            ⟨(some 53), (some (51, false)), .load false 1 (.t 52)⟩,
            ⟨(some 54), (some (51, false)), .fad 5 (.t 6)⟩,
            ⟨(some 55), (some (51, false)), .load false 1 (.t 54)⟩,
            ⟨(some 56), (some (51, false)), .call .q (.f 114) [(.t 53), (.t 55)]⟩,
            ⟨(some 57), (some (51, false)), .un .not (.t 56)⟩,
            ⟨(some 58), none, .pick (.t 51) (.c (.bool true)) (.t 57)⟩])
         (.cond (.t 58) (.seq (.reg none [
             ⟨(some 59), none, .mov (.t 5)⟩,
             ⟨(some 2), none, .mov (.t 59)⟩,
             ⟨(some 3), none, .mov (.c (.bool true))⟩])
          (.ret)) (.skip))) (.skip))))))))))
    (.reg none [
      ⟨(some 60), none, .bin .add (.t 14) (.c (.int .i64 1))⟩,
      ⟨(some 14), none, .mov (.t 60)⟩])))))))
 (.seq (.reg none [
    ⟨(some 2), none, .mov (.c (.int .i64 0))⟩,
    ⟨(some 3), none, .mov (.c (.bool false))⟩])
 (.ret))))⟩
def c_iTypeOk : IFn := ⟨1, 15, [.t 2],
 .seq (.reg none [
    ⟨(some 1), none, .box (.t 0)⟩,
    ⟨(some 2), none, .mov (.c (.bool false))⟩])
 (.seq (.seq (.reg none [
     ⟨(some 5), none, .load true 2 (.t 1)⟩,
     ⟨(some 6), none, .call .q (.f 54) [(.t 5)]⟩,
     ⟨(some 7), none, .un .not (.t 6)⟩])
  (.cond (.t 7) (.seq (.reg none [
      ⟨(some 2), none, .mov (.c (.bool false))⟩])
   (.ret)) (.skip)))
 (.seq (.reg none [
    ⟨(some 9), none, .load true 2 (.t 1)⟩,
    ⟨(some 10), none, .call .q (.f 63) [(.t 9)]⟩,
    ⟨(some 8), none, .mov (.t 10)⟩,
    ⟨(some 11), none, .ext (.t 8) 0⟩,
    ⟨(some 12), none, .ext (.t 8) 1⟩,
    ⟨(some 3), none, .mov (.t 11)⟩,
    ⟨(some 4), none, .mov (.t 12)⟩])
 (.seq (.reg none [
    ⟨(some 13), none, .mov (.t 4)⟩,
    ⟨(some 14), none, .un .not (.t 13)⟩,
    ⟨(some 2), none, .mov (.t 14)⟩])
 (.ret))))⟩
/-- A step of any depth. -/
def AnyS : Type := Σ n : Nat, TStep (n + 1)
def Co.anyS : Co AnyS := ⟨8, fun V cs s => (Co.step (s.1 + 1)).rd V cs s.2, fun s => (Co.step (s.1 + 1)).sm s.2, fun h h' => (Co.step _).mono h h', fun h => by rw [(Co.step _).len h, step_w], fun h => (Co.step _).ones h⟩
def mkA (n : Nat) (k x : Int) (v : Int × Int × Int) (h : Int) (th el : List (TStep n)) : AnyS := ⟨n, (k, x, v, h, th, el)⟩
def shA (s : AnyS) : Shal := (s.2.1, s.2.2.1, s.2.2.2.1, s.2.2.2.2.1)
def allS : (n : Nat) → TStep n → List AnyS
  | 0, _ => []
  | n + 1, (k, x, v, h, th, el) => mkA n k x v h th el :: ((th.map (allS n)).flatten ++ (el.map (allS n)).flatten)
def allSL (n : Nat) (l : List (TStep n)) : List AnyS := (l.map (allS n)).flatten
theorem allS_succ (n : Nat) (k x : Int) (v : Int × Int × Int) (h : Int) (th el : List (TStep n)) : allS (n + 1) (k, x, v, h, th, el) = mkA n k x v h th el :: (allSL n th ++ allSL n el) := rfl
theorem allS_sh : ∀ (n : Nat) (s : TStep n), (allS n s).map shA = allT n s
  | 0, s => s.elim
  | n + 1, (k, x, v, g, th, el) => by
    have go : ∀ l : List (TStep n), (allSL n l).map shA = allL n l := fun l => by
      unfold allSL allL
      rw [List.map_flatten, List.map_map]
      congr 1
      exact List.map_congr_left fun a _ => allS_sh n a
    rw [allS_succ, allT_succ, List.map_cons, List.map_append, go, go]
    rfl
theorem allSL_sh {n : Nat} (l : List (TStep n)) : (allSL n l).map shA = allL n l := by
  unfold allSL allL
  rw [List.map_flatten, List.map_map]
  congr 1
  exact List.map_congr_left fun a _ => allS_sh n a
theorem allSL_len {n : Nat} (l : List (TStep n)) : (allSL n l).length = (allL n l).length := by rw [← allSL_sh, List.length_map]
theorem allSL_take {n : Nat} (l : List (TStep n)) (i : Nat) (h : i < l.length) : allSL n (l.take (i + 1)) = allSL n (l.take i) ++ allS n l[i] := by
  unfold allSL
  rw [List.take_add_one, List.getElem?_eq_getElem h, List.map_append, List.flatten_append]
  congr 1
  simp
theorem allSL_at {n : Nat} (l : List (TStep n)) {i : Nat} (h : i < (allSL n l).length) (h' : i < (allL n l).length) : shA (allSL n l)[i] = (allL n l)[i] := by
  have e := allSL_sh l
  have : ((allSL n l).map shA)[i]? = (allL n l)[i]? := by rw [e]
  rw [List.getElem?_map, List.getElem?_eq_getElem h, List.getElem?_eq_getElem h', Option.map_some, Option.some.injEq] at this
  exact this
/-- The cells of a step of any depth. -/
theorem anyS_rd {V : Vw} {cs : List Value} {s : AnyS} (h : Co.anyS.rd V cs s) : ∃ (k x a b c g : Int) (tv ev : Value) (tl el : List (TStep s.1)), s.2 = (k, x, (a, b, c), g, tl, el) ∧ cs = [.int .i64 k, .int .i64 x, .int .i64 a, .int .i64 b, .int .i64 c, .int .i64 g, tv, ev] ∧ (RgI k ∧ RgI x ∧ RgI a ∧ RgI b ∧ RgI c ∧ RgI g) ∧ Go.Proofs.YtkmghcglmjehcaaI.one tv = true ∧ Go.Proofs.YtkmghcglmjehcaaI.one ev = true ∧ SlR (Co.step s.1) V tv tl ∧ SlR (Co.step s.1) V ev el := by
  obtain ⟨m, s⟩ := s
  obtain ⟨k, x, ⟨a, bb, c⟩, g, tl, el⟩ := s
  obtain ⟨_, _, rfl, ⟨rfl, r1⟩, _, _, rfl, ⟨rfl, r2⟩, _, _, rfl, ⟨_, _, rfl, ⟨rfl, r3⟩, _, _, rfl, ⟨rfl, r4⟩, ⟨rfl, r5⟩⟩, _, _, rfl, ⟨rfl, r6⟩, _, _, rfl, ⟨tv, rfl, h6⟩, ⟨ev, rfl, h7⟩⟩ := h
  have o6 : Go.Proofs.YtkmghcglmjehcaaI.one tv = true := by obtain ⟨_, _, rfl, _⟩ := h6; rfl
  have o7 : Go.Proofs.YtkmghcglmjehcaaI.one ev = true := by obtain ⟨_, _, rfl, _⟩ := h7; rfl
  exact ⟨k, x, a, bb, c, g, tv, ev, tl, el, rfl, rfl, ⟨r1, r2, r3, r4, r5, r6⟩, o6, o7, h6, h7⟩
def AllP (F : Nat → Option IFn) (f n : Nat) : Prop := ∀ (V : Vw) (H : Heap) (v : Value) (l : List (TStep n)), Sub V (vw 0 H) → SlR (Co.step n) V v l → (allL n l).length ≤ 1000 → ∃ w H', KC F f [v] H w H' ∧ (AgX [] H H' ∧ LsV V Co.anyS 8 83 H.length H' w (allSL n l))
theorem iAll_ok {F : Nat → Option IFn} {f n : Nat} (hf : F f = some c_iAll) (ih : ∀ m, n = m + 1 → AllP F 58 m) : AllP F f n := by
  intro V H v l hV hv hcnt
  have hv0 := hv
  obtain ⟨h0, av, rfl, hv1⟩ := hv
  refine KC.mk hf rfl ?_
  refine seq_reg ?_
  simp only [go_sem, binC]
  refine seq_reg ?_
  simp only [go_sem, binC]
  refine seq_assoc (seq_reg ?_)
  simp only [go_sem, binC]
  refine seq_block (wpc_loop ?_)
  suffices h : ∀ (k i : Nat) (e : Env) (Hc : Heap) (w : Value), i + k = l.length → AgX [] H Hc → LsV V Co.anyS 8 83 H.length Hc w (allSL n (l.take i)) → e 3 = w → e 6 = .slice av l.length l.length → e 7 = .int .i64 l.length → e 8 = .int .i64 i → W F H.length _ e Hc _ from
    h l.length 0 _ H nilS (by omega) (AgX.refl _ _) (by simpa [allSL] using LsV.nil) (by simp only [go_sem, binC]) (by simp only [go_sem, binC]) (by simp only [go_sem, binC]) (by (simp only [go_sem, binC]) <;> rfl)
  intro k
  induction k with
  | zero =>
    intro i e Hc w hi ht ho e3 e6 e7 e8
    refine lp_step ?_
    refine seq_reg ?_
    simp only [go_sem, binC, e7, e8]
    refine seq_cond (t := false) (by simp only [go_sem, binC]; rw [decide_eq_false (by omega)]) ?_
    simp only [go_sem, binC]
    refine seq_exit ?_
    simp only [go_sem, binC, thenX_e, out_e, thenX_n]
    refine seq_reg ?_
    simp only [go_sem, binC, e3]
    rw [List.take_of_length_le (by omega)] at ho
    exact wpc_ret ⟨Or.inr rfl, _, (by (simp only [go_sem, binC]) <;> rfl), ht, ho⟩
  | succ k ihk =>
    intro i e Hc w hi ht ho e3 e6 e7 e8
    have hil : i < l.length := by omega
    cases n with
    | zero => exact (l[i]).elim
    | succ n =>
    have hw1 : IntKind.i64.wrap ((i : Int) + 1) = ((i + 1 : Nat) : Int) := by rw [wrap_id (by omega) (by omega)]; omega
    obtain ⟨vb, vo, sk, sx, sa, sbb, sc, sg, tv, ev, tl, el, hav, hs, rg, otv, oev, hgc, htl, hel⟩ := step_atW hv0 hil
    simp only [Value.slice.injEq, and_true] at hav
    subst hav
    have htake := allL_take l i hil
    rw [hs, allT_succ] at htake
    have hle := allL_take_le l (i + 1)
    rw [htake, List.length_append, List.length_cons, List.length_append] at hle
    have htk := allSL_len (l.take i)
    have htl0 := ht.1
    refine lp_step ?_
    refine seq_reg ?_
    simp only [go_sem, binC, e7, e8]
    refine seq_cond (t := true) (by simp only [go_sem, binC]; rw [decide_eq_true (by omega)]) ?_
    simp only [go_sem, binC]
    refine seq_skip (seq_block ?_)
    refine seq_reg ?_
    have hg8 := hgc _ (hV.trans (agx_sub ht))
    simp only [go_sem, binC, e6, e8]
    refine ⟨⟨by omega, by omega⟩, ?_⟩
    simp only [go_sem, binC, Int.toNat_natCast, hg8, otv, oev]
    refine ⟨by omega, ?_⟩
    refine wpc_gen fun H1 hH1 => ?_
    have hx1 : AgX [] Hc H1 := hH1 ▸ AgX.app [] _ _
    have hs1 : H1[Hc.length]? = some ⟨[.int .i64 sk, .int .i64 sx, .int .i64 sa, .int .i64 sbb, .int .i64 sc, .int .i64 sg, tv, ev], 0, 0, false, true⟩ := hH1 ▸ get_new0 _ _
    have hl1 : H1.length = Hc.length + 1 := by rw [hH1, List.length_append]; rfl
    clear hH1
    have ho1 := ho.keep (Nat.le_refl _) hx1 (fun _ _ => by simp)
    have ht1 := ht.tr hx1
    refine seq_reg ?_
    simp only [go_sem, binC, e3, gc_of hs1, inBlk_some, otv, oev]
    have htX : ∀ {Hx Hy : Heap} {wa : Value} {la : List AnyS}, AgX [] H Hx → LsV V Co.anyS 8 83 H.length Hx wa la → AgX (blkOf wa) Hx Hy → AgX [] H Hy := fun h1 h2 h3 => h1.trans h3 (fun _ h _ => h) (fun b hb hl => by have := (h2.blk hb).1; omega)
    refine op_app_ls1 (a := mkA n sk sx (sa, sbb, sc) sg tl el) ho1 (by simp only [go_sem, binC, e3]) (by (simp only [go_sem, binC]) <;> rfl) rfl (step_rd rg.1 rg.2.1 rg.2.2.1 rg.2.2.2.1 rg.2.2.2.2.1 rg.2.2.2.2.2 htl hel) (Nat.le_refl _) (by omega) (by omega) (by omega) fun H2 w2 hx2 _ hn2 ho2 => ?_
    simp only [go_sem, binC]
    have ht2 : AgX [] H H2 := htX ht1 ho1 hx2
    have hs2 := hx2.get hs1 (ho1.nbox hs1)
    have hx2l := hx2.1
    refine seq_reg ?_
    simp only [go_sem, binC, gc_of hs2, inBlk_some, otv]
    obtain ⟨w3, H3, k3, hx3, ho3'⟩ := ih n rfl V H2 tv tl (hV.trans (agx_sub ht2)) htl (by omega)
    refine op_callK (by simp only [go_sem, binC]; exact k3) ?_
    simp only [go_sem, binC]
    have ho3 := ho2.keep (Nat.le_refl _) hx3 (fun _ _ => by simp)
    have ht3 := ht2.tr hx3
    have hs3 := hx3.get hs2 (by simp)
    have hx3l := hx3.1
    have htl2 := allSL_len tl
    have hel2 := allSL_len el
    have hc2 : (allSL (n + 1) (l.take i) ++ [mkA n sk sx (sa, sbb, sc) sg tl el]).length = (allL (n + 1) (l.take i)).length + 1 := by rw [List.length_append, htk]; rfl
    refine op_app_lsN ho3 (by simp only [go_sem, binC]) (by simp only [go_sem, binC]) ho3' (Nat.le_refl _) (by omega) (by omega) (by omega) fun H4 w4 hx4 _ hn4 ho4 => ?_
    simp only [go_sem, binC]
    have ht4 : AgX [] H H4 := htX ht3 ho3 hx4
    have hs4 := hx4.get hs3 (ho3.nbox hs3)
    have hx4l := hx4.1
    refine wpc_reg ?_
    simp only [go_sem, binC, gc_of hs4, inBlk_some, oev]
    obtain ⟨w5, H5, k5, hx5, ho5'⟩ := ih n rfl V H4 ev el (hV.trans (agx_sub ht4)) hel (by omega)
    refine op_callK (by simp only [go_sem, binC]; exact k5) ?_
    simp only [go_sem, binC]
    have ho5 := ho4.keep (Nat.le_refl _) hx5 (fun _ _ => by simp)
    have ht5 := ht4.tr hx5
    have hx5l := hx5.1
    have hc4 : (allSL (n + 1) (l.take i) ++ [mkA n sk sx (sa, sbb, sc) sg tl el] ++ allSL n tl).length = (allL (n + 1) (l.take i)).length + 1 + (allL n tl).length := by rw [List.length_append, hc2, htl2]
    refine op_app_lsN ho5 (by simp only [go_sem, binC]) (by simp only [go_sem, binC]) ho5' (Nat.le_refl _) (by omega) (by omega) (by omega) fun H6 w6 hx6 _ hn6 ho6 => ?_
    simp only [go_sem, binC, out_n, thenX_n]
    refine wpc_reg ?_
    simp only [go_sem, binC, e8, hw1]
    simp only [go_sem, binC, thenX_n]
    refine ihk (i + 1) _ H6 w6 (by omega) (htX ht5 ho5 hx6) ?_ (by simp only [go_sem, binC]) (by simp only [go_sem, binC, e6]) (by simp only [go_sem, binC, e7]) (by simp only [go_sem, binC])
    rw [allSL_take l i hil, hs, allS_succ]
    simpa only [List.append_assoc, List.cons_append, List.nil_append] using ho6
theorem iAll_all {F : Nat → Option IFn} (hf : F 58 = some c_iAll) : ∀ n, AllP F 58 n
  | 0 => iAll_ok hf fun m h => by omega
  | n + 1 => iAll_ok hf fun m h => by cases h; exact iAll_all hf n
theorem has_both : ∀ a b : Fin 8, ∀ h : Fin 3, hasB (bothS (a.val : Int) b.val 3) h.val = (hasB a.val h.val && hasB b.val h.val) := by decide +kernel
theorem hasB_both {a b h : Int} (ha : 0 ≤ a ∧ a ≤ 7) (hb : 0 ≤ b ∧ b ≤ 7) : hasB (bothS a b 3) h = (hasB a h && hasB b h) := by
  by_cases hh : 0 ≤ h ∧ h ≤ 2
  · obtain ⟨x, rfl⟩ := fin8 ha
    obtain ⟨y, rfl⟩ := fin8 hb
    have := has_both x y ⟨h.toNat, by omega⟩
    rwa [show ((⟨h.toNat, by omega⟩ : Fin 3).val : Int) = h by show ((h.toNat : Nat) : Int) = h; omega] at this
  · have q : ∀ s : Int, hasB s h = false := fun s => by
      cases hs : hasB s h with
      | false => rfl
      | true => exact absurd (hasB_in hs) hh
    rw [q, q, q]
    rfl
theorem gcK {H H' : Heap} {b o m : Nat} {cs : List Value} (h : getCells H b o m = some cs) (hx : AgX [] H H') : getCells H' b o m = some cs := by
  unfold getCells at h ⊢
  split at h
  · rename_i k hk
    rw [hx.get hk (by simp)]
    exact h
  · cases h
theorem atT_lab {ls : List (Int × Int)} (hl : ls.all labB = true) : ∀ (n : Nat) (h : Int × Int) (s : TStep n), labB h = true → (atT n ls h s).all labB = true
  | 0, _, s, _ => s.elim
  | n + 1, h, (k, x, v, g, th, el), hh => by
    have go : ∀ (h : Int × Int) (l : List (TStep n)), labB h = true → (atL n ls h l).all labB = true := fun h l hh => by
      unfold atL
      rw [List.all_eq_true]
      intro a ha
      obtain ⟨aq, h1, h2⟩ := List.mem_flatten.1 ha
      obtain ⟨t, _, rfl⟩ := List.mem_map.1 h1
      exact List.all_eq_true.1 (atT_lab hl n h t hh) a h2
    rw [atT_succ, List.all_cons, List.all_append, hh, go _ _ (lboth_bd _ _), go _ _ (lboth_bd _ _)]
    rfl
theorem atL_lab {n : Nat} {ls : List (Int × Int)} {h : Int × Int} (hl : ls.all labB = true) (hh : labB h = true) (l : List (TStep n)) : (atL n ls h l).all labB = true := by
  unfold atL
  rw [List.all_eq_true]
  intro a ha
  obtain ⟨aq, h1, h2⟩ := List.mem_flatten.1 ha
  obtain ⟨t, _, rfl⟩ := List.mem_map.1 h1
  exact List.all_eq_true.1 (atT_lab hl n h t hh) a h2
/-- Why, of a program that is ok. -/
def WhyI (F : Nat → Option IFn) (f : Nat) : Prop := ∀ (H : Heap) (n : Nat) (lv sv : Value) (ls : List (Int × Int)) (l : List (TStep n)), SlR Co.p2 (vw 0 H) lv ls → SlR (Co.step n) (vw 0 H) sv l → (Co.prog n).sm (ls, l) → progB n (ls, l) = true → QC F f [.agg #[lv, sv]] H (.tuple #[.int .i64 (whyV n (ls, l)).1, .bool (whyV n (ls, l)).2])
theorem iWhy0_ok {F : Nat → Option IFn} {f : Nat} (hf : F f = some c_iWhy0) (ga : AtP F 57) (gl : ∀ n, AllP F 58 n) (gs : ISource F 60) (gf : IFlows F 66) (gh : HasOk F 114) : WhyI F f := by
  intro H n lv sv ls l r1 r2 hsm hP
  have osv : one sv = true := by obtain ⟨_, a, rfl, _⟩ := r2; rfl
  obtain ⟨_, la, rfl, _⟩ := id r1
  have hcnt : (allL n l).length ≤ 8 := progB_cnt hP hsm
  have hlab : ls.all labB = true := progB_lab hP
  have hok : ∀ t ∈ allL n l, shB ls.length t = true := progB_sh hP
  refine QC.mk hf rfl ?_
  refine seq_reg ?_
  simp only [go_sem, binC, osv]
  refine wpc_gen fun H1 hH1 => ?_
  have hx1 : AgX [] H H1 := hH1 ▸ AgX.app [] _ _
  have hb1 : H1[H.length]? = some ⟨[.slice la ls.length ls.length, sv], 0, 0, false, true⟩ := hH1 ▸ get_new0 _ _
  clear hH1
  refine seq_reg ?_
  simp only [go_sem, binC, gc_of hb1, inBlk_some, osv]
  obtain ⟨wa, H2, k2, hx2, oa⟩ := ga H1 n _ sv ls l (r1.mono (agx_sub hx1)) (r2.mono (agx_sub hx1)) hsm hP
  refine op_callK (by simp only [go_sem, binC]; exact k2) ?_
  simp only [go_sem, binC]
  have hb2 := hx2.get hb1 (by simp)
  have hx02 := hx1.tr hx2
  refine seq_assoc (seq_reg ?_)
  simp only [go_sem, binC, gc_of hb2, inBlk_some, osv]
  obtain ⟨wl, H3, k3, hx3, ol⟩ := gl n (vw 0 H) H2 sv l (agx_sub hx02) r2 (by omega)
  refine op_callK (by simp only [go_sem, binC]; exact k3) ?_
  obtain ⟨al, hal⟩ := ol.shape
  have hsl := allSL_len l
  rw [hsl] at hal
  rw [hal]
  simp only [go_sem, binC]
  have hb3 := hx3.get hb2 (by simp)
  have hx03 := hx02.tr hx3
  have oa3 := oa.keep (Nat.le_refl _) hx3 (fun _ _ => by simp)
  have hatl := atL_len ls (7, 7) l
  have hall : (atL n ls (7, 7) l).all labB = true := atL_lab hlab rfl l
  refine seq_block (wpc_loop ?_)
  suffices h : ∀ (k i : Nat) (e : Env) (Hc : Heap), i + k = (allL n l).length → AgX [] H3 Hc → e 1 = ptr H.length 0 → e 4 = wa → e 12 = .slice al (allL n l).length (allL n l).length → e 13 = .int .i64 (allL n l).length → e 14 = .int .i64 i → whyV n (ls, l) = why0 ls ((allL n l).drop i) ((atL n ls (7, 7) l).drop i) i → W F H.length _ e Hc _ from
    h (allL n l).length 0 _ H3 (by omega) (AgX.refl _ _) (by simp only [go_sem, binC]) (by simp only [go_sem, binC]) (by simp only [go_sem, binC]) (by simp only [go_sem, binC]) (by (simp only [go_sem, binC]) <;> rfl) (by rw [whyV_yes hP, List.drop_zero, List.drop_zero])
  intro k
  induction k with
  | zero =>
    intro i e Hc hi hxc e1 e4 e12 e13 e14 hw
    refine lp_step ?_
    refine seq_reg ?_
    simp only [go_sem, binC, e13, e14]
    refine seq_cond (t := false) (by simp only [go_sem, binC]; rw [decide_eq_false (by omega)]) ?_
    simp only [go_sem, binC]
    refine seq_exit ?_
    simp only [go_sem, binC, thenX_e, out_e, thenX_n]
    refine seq_reg ?_
    simp only [go_sem, binC]
    refine wpc_ret ⟨Or.inr rfl, .tuple #[.int .i64 0, .bool false], by simp [resV, resL, res1, putE_get, notT], ?_, rfl⟩
    rw [hw, List.drop_of_length_le (by omega)]
    rfl
  | succ k ih =>
    intro i e Hc hi hxc e1 e4 e12 e13 e14 hw
    have hil : i < (allL n l).length := by omega
    have hia : i < (atL n ls (7, 7) l).length := by omega
    have hw1 : IntKind.i64.wrap ((i : Int) + 1) = ((i + 1 : Nat) : Int) := by rw [wrap_id (by omega) (by omega)]; omega
    have hx0c := hx03.tr hxc
    have hbc := hxc.get hb3 (by simp)
    obtain ⟨ba, ca, hwa, gca, rda⟩ := (oa3.keep (Nat.le_refl _) hxc (fun _ _ => by simp)).at hia
    obtain ⟨bs, cs, hws, gcs, rds⟩ := (ol.keep (Nat.le_refl _) hxc (fun _ _ => by simp)).at (show i < (allSL n l).length by omega)
    rw [hal, hsl] at hws
    simp only [Value.slice.injEq, and_true] at hws
    subst hws
    have hsame := allSL_at l (show i < (allSL n l).length by omega) hil
    obtain ⟨sk, sx, sa, sbb, sc, sg, tv, ev, tl, el, hs2, hcs, rg, otv, oev, _, _⟩ := anyS_rd rds
    have hsh' : shA (allSL n l)[i] = (sk, sx, (sa, sbb, sc), sg) := by unfold shA; rw [hs2]
    rw [hsh'] at hsame
    subst hcs
    have hoki := hok _ (List.getElem_mem hil)
    rw [List.drop_eq_getElem_cons hil, List.drop_eq_getElem_cons hia, why0, ← hsame] at hw
    rw [← hsame] at hoki
    have hoi : labB (atL n ls (7, 7) l)[i] = true := List.all_eq_true.1 hall _ (List.getElem_mem _)
    generalize (atL n ls (7, 7) l)[i] = hr at rda hoi hw
    obtain ⟨ra, rb⟩ := hr
    obtain ⟨_, _, rfl, ⟨hq1, _⟩, ⟨hq2, _⟩⟩ := rda
    simp only at hq1 hq2
    subst hq1 hq2
    simp only [shB, Bool.and_eq_true] at hoki
    have hvx : 0 ≤ sx ∧ sx < ls.length := varB_i.1 hoki.1
    obtain ⟨lb, lo', hla, hgl0, _⟩ := lab_at (r1.mono (agx_sub hx0c)) (H := Hc) (fun _ _ h => h) hvx.1 hvx.2
    simp only [Value.slice.injEq, and_true] at hla
    subst hla
    have hlx := lab_getD hlab sx.toNat
    rw [hatl] at hwa
    have hxcl := hxc.1
    have hx03l := hx03.1
    refine lp_step ?_
    refine seq_reg ?_
    simp only [go_sem, binC, e13, e14]
    refine seq_cond (t := true) (by simp only [go_sem, binC]; rw [decide_eq_true (by omega)]) ?_
    simp only [go_sem, binC]
    refine seq_skip (seq_block ?_)
    refine seq_reg ?_
    simp only [go_sem, binC, e12, e14]
    refine ⟨⟨by omega, by omega⟩, ?_⟩
    simp only [go_sem, binC, Int.toNat_natCast, Nat.zero_add, gcs, otv, oev]
    refine ⟨by omega, ?_⟩
    refine wpc_gen fun H4 hH4 => ?_
    have hx4 : AgX [] Hc H4 := hH4 ▸ AgX.app [] _ _
    have hs4 : H4[Hc.length]? = some ⟨[.int .i64 sk, .int .i64 sx, .int .i64 sa, .int .i64 sbb, .int .i64 sc, .int .i64 sg, tv, ev], 0, 0, false, true⟩ := hH4 ▸ get_new0 _ _
    have hl4 : H4.length = Hc.length + 1 := by rw [hH4, List.length_append]; rfl
    have hgl4 : getCells H4 lb (lo' + sx.toNat * 2) 2 = some [.int .i64 (ls.getD sx.toNat (0, 0)).1, .int .i64 (ls.getD sx.toNat (0, 0)).2] := hH4 ▸ hgl0 _
    clear hH4
    have hb4 := hx4.get hbc (by simp)
    refine seq_reg ?_
    simp only [go_sem, binC, e1, gc_of hb4, gc_of hs4, inBlk_some]
    refine ⟨⟨by omega, by omega⟩, ?_⟩
    simp only [go_sem, binC, hgl4]
    refine ⟨by omega, ?_⟩
    refine wpc_gen fun H5 hH5 => ?_
    have hx5 : AgX [] H4 H5 := hH5 ▸ AgX.app [] _ _
    have ht5 : H5[H4.length]? = some ⟨[.int .i64 (ls.getD sx.toNat (0, 0)).1, .int .i64 (ls.getD sx.toNat (0, 0)).2], 0, 0, false, true⟩ := hH5 ▸ get_new0 _ _
    clear hH5
    have hb5 := hx5.get hb4 (by simp)
    have hs5 := hx5.get hs4 (by simp)
    have hxc5 := hx4.tr hx5
    have hx35 := hxc.tr hxc5
    have gca5 := gcK gca hxc5
    have r15 := r1.mono (agx_sub (hx0c.tr hxc5))
    refine seq_reg ?_
    simp only [go_sem, binC, gc_of hs5, inBlk_some]
    refine wpc_block ?_
    refine seq_reg ?_
    by_cases k1 : sk = 1
    · simp only [go_sem, binC, beq_t k1]
      refine wpc_cond (t := true) rfl ?_
      simp only [go_sem, binC]
      have hval : valB ls.length (sa, sbb, sc) = true := by have := hoki.2; rwa [if_pos k1] at this
      have hsrc := srcL_val hlab hoi hval
      have hfin : fineB ls (sk, sx, (sa, sbb, sc), sg) (ra, rb) = flowsB (srcL ls (sa, sbb, sc) (ra, rb)) (ls.getD sx.toNat (0, 0)) := by
        unfold fineB
        rw [if_pos k1, hsrc]
      refine seq_regD ?_
      simp only [go_sem, binC, e1, e4, hwa, gc_of hb5, gc_of hs5, gc_of ht5, inBlk_some, osv, otv, oev]
      refine ⟨⟨by omega, by omega⟩, ?_⟩
      simp only [go_sem, binC, Int.toNat_natCast, Nat.zero_add, gca5]
      refine op_callQ (by simp only [go_sem, binC]; exact gs H5 _ sv tv ev ls sk sx sa sbb sc sg (ra, rb) osv otv oev rg.2.2.2.1 rg.2.2.2.2.1 r15 hlab hval hoi) ?_
      simp only [go_sem, binC, gc_of ht5, inBlk_some]
      refine op_callQ (by simp only [go_sem, binC]; exact gf H5 _ _ (srcL_lab hoi) hlx) ?_
      rw [← hfin]
      cases hfi : fineB ls (sk, sx, (sa, sbb, sc), sg) (ra, rb) with
      | true =>
        simp only [go_sem, binC]
        refine wpc_cond (t := false) rfl ?_
        simp only [go_sem, binC]
        refine wpc_skip ?_
        simp only [go_sem, binC, out_n, thenX_n]
        refine wpc_reg ?_
        simp only [go_sem, binC, e14, hw1]
        simp only [go_sem, binC, thenX_n]
        rw [hfi, if_pos rfl] at hw
        exact ih (i + 1) _ H5 (by omega) hx35 (by simp only [go_sem, binC, e1]) (by simp only [go_sem, binC, e4]) (by simp only [go_sem, binC, e12]) (by simp only [go_sem, binC, e13]) (by simp only [go_sem, binC]) hw
      | false =>
        simp only [go_sem, binC]
        refine wpc_cond (t := true) rfl ?_
        simp only [go_sem, binC]
        refine seq_reg ?_
        simp only [go_sem, binC]
        refine wpc_ret ?_
        simp only [go_sem, binC, out_r, thenX_r]
        rw [hfi, if_neg (by simp)] at hw
        exact ⟨Or.inr rfl, .tuple #[.int .i64 i, .bool true], by simp [resV, resL, res1, putE_get, notT], by rw [hw], rfl⟩
    simp only [go_sem, binC, beq_f k1]
    refine wpc_cond (t := false) rfl ?_
    simp only [go_sem, binC]
    refine seq_reg ?_
    by_cases k3 : sk = 3
    · simp only [go_sem, binC, beq_t k3]
      refine wpc_cond (t := true) rfl ?_
      simp only [go_sem, binC]
      have hoiB := labB_i.1 hoi
      have hlxB := labB_i.1 hlx
      simp only at hoiB
      have hfin : fineB ls (sk, sx, (sa, sbb, sc), sg) (ra, rb) = (hasB ra sg && hasB (ls.getD sx.toNat (0, 0)).1 sg) := by
        unfold fineB
        rw [if_neg k1, if_pos k3, hasB_both hoiB.1 hlxB.1]
      refine seq_regD ?_
      simp only [go_sem, binC, e4, hwa, gc_of hs5, inBlk_some]
      refine ⟨⟨by omega, by omega⟩, ?_⟩
      have gca50 : getCells H5 ba (i * 2) 1 = some [.int .i64 ra] := by have := gc_part (off := 0) (k := 1) gca5 (by omega); simpa using this
      simp only [go_sem, binC, Int.toNat_natCast, Nat.zero_add, gca50]
      refine op_callQ (by simp only [go_sem, binC]; exact gh H5 ra sg hoiB.1.1 hoiB.1.2) ?_
      cases ha1 : hasB ra sg with
      | false =>
        rw [ha1, Bool.false_and] at hfin
        have hfi := hfin
        simp only [go_sem, binC]
        refine wpc_cond (t := true) rfl ?_
        simp only [go_sem, binC]
        refine seq_reg ?_
        simp only [go_sem, binC]
        refine wpc_ret ?_
        simp only [go_sem, binC, out_r, thenX_r]
        rw [hfi, if_neg (by simp)] at hw
        exact ⟨Or.inr rfl, .tuple #[.int .i64 i, .bool true], by simp [resV, resL, res1, putE_get, notT], by rw [hw], rfl⟩
      | true =>
        rw [ha1, Bool.true_and] at hfin
        simp only [go_sem, binC, gc_of ht5, gc_of hs5, inBlk_some]
        refine op_callQ (by simp only [go_sem, binC]; exact gh H5 _ sg hlxB.1.1 hlxB.1.2) ?_
        rw [← hfin]
        cases hfi : fineB ls (sk, sx, (sa, sbb, sc), sg) (ra, rb) with
        | true =>
          simp only [go_sem, binC]
          refine wpc_cond (t := false) rfl ?_
          simp only [go_sem, binC]
          refine wpc_skip ?_
          simp only [go_sem, binC, out_n, thenX_n]
          refine wpc_reg ?_
          simp only [go_sem, binC, e14, hw1]
          simp only [go_sem, binC, thenX_n]
          rw [hfi, if_pos rfl] at hw
          exact ih (i + 1) _ H5 (by omega) hx35 (by simp only [go_sem, binC, e1]) (by simp only [go_sem, binC, e4]) (by simp only [go_sem, binC, e12]) (by simp only [go_sem, binC, e13]) (by simp only [go_sem, binC]) hw
        | false =>
          simp only [go_sem, binC]
          refine wpc_cond (t := true) rfl ?_
          simp only [go_sem, binC]
          refine seq_reg ?_
          simp only [go_sem, binC]
          refine wpc_ret ?_
          simp only [go_sem, binC, out_r, thenX_r]
          rw [hfi, if_neg (by simp)] at hw
          exact ⟨Or.inr rfl, .tuple #[.int .i64 i, .bool true], by simp [resV, resL, res1, putE_get, notT], by rw [hw], rfl⟩
    · simp only [go_sem, binC, beq_f k3]
      refine wpc_cond (t := false) rfl ?_
      simp only [go_sem, binC]
      refine wpc_skip ?_
      simp only [go_sem, binC, out_n, thenX_n]
      have hfi : fineB ls (sk, sx, (sa, sbb, sc), sg) (ra, rb) = true := by
        unfold fineB
        rw [if_neg k1, if_neg k3]
      refine wpc_reg ?_
      simp only [go_sem, binC, e14, hw1]
      simp only [go_sem, binC, thenX_n]
      rw [hfi, if_pos rfl] at hw
      exact ih (i + 1) _ H5 (by omega) hx35 (by simp only [go_sem, binC, e1]) (by simp only [go_sem, binC, e4]) (by simp only [go_sem, binC, e12]) (by simp only [go_sem, binC, e13]) (by simp only [go_sem, binC]) hw
def typeP (n : Nat) (p : TProg n) : Bool := progB n p && !(whyV n p).2
def TypeP (F : Nat → Option IFn) (f : Nat) : Prop := ∀ (H : Heap) (n : Nat) (lv sv : Value) (ls : List (Int × Int)) (l : List (TStep n)), SlR Co.p2 (vw 0 H) lv ls → SlR (Co.step n) (vw 0 H) sv l → (Co.prog n).sm (ls, l) → QC F f [.agg #[lv, sv]] H (.bool (typeP n (ls, l)))
theorem iTypeOk_ok {F : Nat → Option IFn} {f : Nat} (hf : F f = some c_iTypeOk) (gp : ProgOk F 54) (gw : WhyI F 63) : TypeP F f := by
  intro H n lv sv ls l r1 r2 hsm
  have olv : one lv = true := by obtain ⟨_, a, rfl, _⟩ := r1; rfl
  have osv : one sv = true := by obtain ⟨_, a, rfl, _⟩ := r2; rfl
  refine QC.mk hf rfl ?_
  refine seq_reg ?_
  simp only [go_sem, binC, olv, osv]
  refine wpc_gen fun H1 hH1 => ?_
  have hx1 : AgX [] H H1 := hH1 ▸ AgX.app [] _ _
  have hb : H1[H.length]? = some ⟨[lv, sv], 0, 0, false, true⟩ := hH1 ▸ get_new0 _ _
  clear hH1
  have hS := agx_sub hx1
  unfold typeP
  refine seq_assoc (seq_reg ?_)
  simp only [go_sem, binC, gc_of hb, inBlk_some, olv, osv]
  refine op_callQ (by simp only [go_sem, binC]; exact gp H1 n _ (ls, l) (prog_rd (r1.mono hS) (r2.mono hS)) hsm) ?_
  cases hP : progB n (ls, l) with
  | false =>
    simp only [go_sem, binC]
    refine seq_cond (t := true) rfl ?_
    simp only [go_sem, binC]
    refine seq_assoc (seq_reg ?_)
    simp only [go_sem, binC]
    exact seq_ret ⟨Or.inr rfl, _, (by (simp only [go_sem, binC]) <;> rfl), rfl, rfl⟩
  | true =>
    simp only [go_sem, binC]
    refine seq_cond (t := false) rfl ?_
    simp only [go_sem, binC]
    refine seq_skip (seq_reg ?_)
    simp only [go_sem, binC, gc_of hb, inBlk_some, olv, osv]
    refine op_callQ (by simp only [go_sem, binC]; exact gw H1 n _ _ ls l (r1.mono hS) (r2.mono hS) hsm hP) ?_
    simp only [go_sem, binC]
    refine seq_reg ?_
    simp only [go_sem, binC]
    exact wpc_ret ⟨Or.inr rfl, _, (by (simp only [go_sem, binC]) <;> rfl), rfl, rfl⟩
end Go.Proofs.YtkmghcglmjehcaaI
end
section
/- Labels in order: what may be known, and is trusted, by fewer. -/
set_option linter.unusedVariables false
set_option linter.unusedSimpArgs false
namespace Go.Proofs.YtkmghcglmjehcaaI
open Go Go.RowKit
/-- A label may be known, and is trusted, by no others. -/
structure Le (a b : Int × Int) : Prop where
  la : labB a = true
  lb : labB b = true
  eq : lboth a b = a
theorem Le.refl {a : Int × Int} (h : labB a = true) : Le a a := ⟨h, h, lboth_self h⟩
theorem Le.trans {a b c : Int × Int} (h1 : Le a b) (h2 : Le b c) : Le a c := ⟨h1.la, h2.lb, by
  rw [← h1.eq, lboth_assoc h1.la h1.lb h2.lb, h2.eq]⟩
theorem Le.antisymm {a b : Int × Int} (h1 : Le a b) (h2 : Le b a) : a = b := by
  rw [← h1.eq, lboth_comm h1.la h1.lb, h2.eq]
theorem lboth_le_l {a b : Int × Int} (ha : labB a = true) (hb : labB b = true) : Le (lboth a b) a := ⟨lboth_bd _ _, ha, by
  rw [lboth_comm (lboth_bd _ _) ha, ← lboth_assoc ha ha hb, lboth_self ha]⟩
theorem lboth_le_r {a b : Int × Int} (ha : labB a = true) (hb : labB b = true) : Le (lboth a b) b := ⟨lboth_bd _ _, hb, by
  rw [lboth_assoc ha hb hb, lboth_self hb]⟩
theorem le_lboth {a b c : Int × Int} (h1 : Le c a) (h2 : Le c b) : Le c (lboth a b) := ⟨h1.la, lboth_bd _ _, by
  rw [← lboth_assoc h1.la h1.lb h2.lb, h1.eq, h2.eq]⟩
theorem lboth_mono {a b c d : Int × Int} (h1 : Le a c) (h2 : Le b d) : Le (lboth a b) (lboth c d) :=
  le_lboth ((lboth_le_l h1.la h2.la).trans h1) ((lboth_le_r h1.la h2.la).trans h2)
/-- Labels of variables, each in order. -/
def LeL (a b : List (Int × Int)) : Prop := a.length = b.length ∧ ∀ i, Le (a.getD i (0, 0)) (b.getD i (0, 0))
theorem LeL.refl {a : List (Int × Int)} (h : a.all labB = true) : LeL a a := ⟨rfl, fun i => Le.refl (lab_getD h i)⟩
theorem LeL.trans {a b c : List (Int × Int)} (h1 : LeL a b) (h2 : LeL b c) : LeL a c := ⟨h1.1.trans h2.1, fun i => (h1.2 i).trans (h2.2 i)⟩
theorem LeL.antisymm {a b : List (Int × Int)} (h1 : LeL a b) (h2 : LeL b a) : a = b := List.ext_getElem h1.1 fun i hi hj => by
  have := (h1.2 i).antisymm (h2.2 i)
  simpa [List.getD, hi, hj] using this
theorem LeL.lab {a b : List (Int × Int)} (h : LeL a b) : a.all labB = true := List.all_eq_true.2 fun x hx => by
  obtain ⟨i, hi, rfl⟩ := List.getElem_of_mem hx
  have := (h.2 i).la
  simpa [List.getD, hi] using this
/-- The labels of steps being done follow those of variables. -/
theorem atT_mono {ls ls' : List (Int × Int)} (hl : LeL ls ls') : ∀ (n : Nat) (h h' : Int × Int) (s : TStep n), Le h h' → LeL (atT n ls h s) (atT n ls' h' s)
  | 0, _, _, s, _ => s.elim
  | n + 1, h, h', (k, x, v, g, th, el), hh => by
    have app : ∀ {a b c d : List (Int × Int)}, LeL a b → LeL c d → LeL (a ++ c) (b ++ d) := fun {a b c d} h1 h2 => ⟨by rw [List.length_append, List.length_append, h1.1, h2.1], fun i => by
      by_cases hi : i < a.length
      · have e1 : (a ++ c).getD i (0, 0) = a.getD i (0, 0) := by simp [List.getD, List.getElem?_append_left hi]
        have e2 : (b ++ d).getD i (0, 0) = b.getD i (0, 0) := by simp [List.getD, List.getElem?_append_left (show i < b.length by have := h1.1; omega)]
        rw [e1, e2]; exact h1.2 i
      · have e1 : (a ++ c).getD i (0, 0) = c.getD (i - a.length) (0, 0) := by simp [List.getD, List.getElem?_append_right (show a.length ≤ i by omega)]
        have e2 : (b ++ d).getD i (0, 0) = d.getD (i - a.length) (0, 0) := by simp [List.getD, List.getElem?_append_right (show b.length ≤ i by have := h1.1; omega), h1.1]
        rw [e1, e2]; exact h2.2 _⟩
    have go : ∀ (h h' : Int × Int) (l : List (TStep n)), Le h h' → LeL (atL n ls h l) (atL n ls' h' l) := fun h h' l hh => by
      induction l with
      | nil => exact ⟨rfl, fun i => by simp [atL, List.getD]; exact Le.refl rfl⟩
      | cons a l ih =>
        have e : ∀ ls h, atL n ls h (a :: l) = atT n ls h a ++ atL n ls h l := fun _ _ => by simp [atL]
        rw [e, e]
        exact app (atT_mono hl n h h' a hh) ih
    rw [atT_succ, atT_succ]
    have hn := lboth_mono hh (hl.2 x.toNat)
    have hone : LeL [h] [h'] := ⟨rfl, fun i => by
      cases i with
      | zero => exact hh
      | succ i => exact Le.refl rfl⟩
    exact app hone (app (go _ _ th hn) (go _ _ el hn))
theorem valL_mono {ls ls' : List (Int × Int)} (hl : LeL ls ls') (v : Int × Int × Int) : Le (valL ls v) (valL ls' v) := by
  have h7 : Le (7, 7) (7, 7) := Le.refl rfl
  have h1 : Le (if v.1 = 1 then ((7, 7) : Int × Int) else lboth (7, 7) (ls.getD v.2.1.toNat (0, 0))) (if v.1 = 1 then (7, 7) else lboth (7, 7) (ls'.getD v.2.1.toNat (0, 0))) := by
    split
    · exact h7
    · exact lboth_mono h7 (hl.2 _)
  unfold valL
  simp only
  split
  · rename_i hc
    simpa only [hc, if_true] using lboth_mono h1 (hl.2 v.2.2.toNat)
  · rename_i hc
    exact h1
end Go.Proofs.YtkmghcglmjehcaaI
end
section
/- Labels that are found: the greatest below some that steps allow. -/
set_option linter.unusedVariables false
set_option linter.unusedSimpArgs false
namespace Go.Proofs.YtkmghcglmjehcaaI
open Go Go.RowKit
/-- What is set may be set, as far as it is free. -/
def Fix (n : Nat) (l : List (TStep n)) (free : Int → Bool) (m : List (Int × Int)) : Prop := ∀ i (h : i < (allL n l).length), (allL n l)[i].1 = 1 → free (allL n l)[i].2.1 = true → Le (m.getD (allL n l)[i].2.1.toNat (0, 0)) (lboth ((atL n m (7, 7) l).getD i (0, 0)) (valL m (allL n l)[i].2.2.1))
/-- The greatest labels below some that steps allow. -/
structure Inf (n : Nat) (l : List (TStep n)) (free : Int → Bool) (init r : List (Int × Int)) : Prop where
  le : LeL r init
  fix : Fix n l free r
  top : ∀ m, LeL m init → Fix n l free m → LeL m r
theorem Inf.unique {n : Nat} {l : List (TStep n)} {free : Int → Bool} {init r r' : List (Int × Int)} (h : Inf n l free init r) (h' : Inf n l free init r') : r = r' :=
  (h'.top r h.le h.fix).antisymm (h.top r' h'.le h'.fix)
theorem getD_setP {ls : List (Int × Int)} {x j : Nat} {v : Int × Int} (h : x < ls.length) : (ls.set x v).getD j (0, 0) = if x = j then v else ls.getD j (0, 0) := by
  rw [List.getD_eq_getElem?_getD, List.getD_eq_getElem?_getD, List.getElem?_set]
  by_cases hij : x = j
  · subst hij; rw [if_pos rfl, if_pos h, if_pos rfl]; rfl
  · rw [if_neg hij, if_neg hij]
theorem set_le {ls : List (Int × Int)} {x : Nat} {y : Int × Int} (hl : ls.all labB = true) (hx : x < ls.length) (hy : labB y = true) : LeL (ls.set x (lboth (ls.getD x (0, 0)) y)) ls := ⟨List.length_set, fun j => by
  rw [getD_setP hx]
  split
  · rename_i h; subst h; exact lboth_le_l (lab_getD hl _) hy
  · exact Le.refl (lab_getD hl _)⟩
theorem LeL.app {a b c d : List (Int × Int)} (h1 : LeL a b) (h2 : LeL c d) : LeL (a ++ c) (b ++ d) := ⟨by rw [List.length_append, List.length_append, h1.1, h2.1], fun i => by
  by_cases hi : i < a.length
  · have e1 : (a ++ c).getD i (0, 0) = a.getD i (0, 0) := by simp [List.getD, List.getElem?_append_left hi]
    have e2 : (b ++ d).getD i (0, 0) = b.getD i (0, 0) := by simp [List.getD, List.getElem?_append_left (show i < b.length by have := h1.1; omega)]
    rw [e1, e2]; exact h1.2 i
  · have e1 : (a ++ c).getD i (0, 0) = c.getD (i - a.length) (0, 0) := by simp [List.getD, List.getElem?_append_right (show a.length ≤ i by omega)]
    have e2 : (b ++ d).getD i (0, 0) = d.getD (i - a.length) (0, 0) := by simp [List.getD, List.getElem?_append_right (show b.length ≤ i by have := h1.1; omega), h1.1]
    rw [e1, e2]; exact h2.2 _⟩
theorem atL_mono {n : Nat} {ls ls' : List (Int × Int)} {h h' : Int × Int} (hl : LeL ls ls') (hh : Le h h') (l : List (TStep n)) : LeL (atL n ls h l) (atL n ls' h' l) := by
  induction l with
  | nil => exact ⟨rfl, fun i => by simp [atL, List.getD]; exact Le.refl rfl⟩
  | cons a l ih =>
    have e : ∀ ls h, atL n ls h (a :: l) = atT n ls h a ++ atL n ls h l := fun _ _ => by simp [atL]
    rw [e, e]
    exact (atT_mono hl n h h' a hh).app ih
end Go.Proofs.YtkmghcglmjehcaaI
end
section
/- How often labels may fall. -/
set_option linter.unusedVariables false
set_option linter.unusedSimpArgs false
namespace Go.Proofs.YtkmghcglmjehcaaI
open Go Go.RowKit
def pc (x : Int) : Nat := (x % 2 + x / 2 % 2 + x / 4 % 2).toNat
theorem pc_all : ∀ a b : Fin 8, (bothS (a.val : Int) b.val 3 = a.val → pc a.val ≤ pc b.val ∧ (pc (a.val : Int) = pc b.val → (a.val : Int) = b.val)) ∧ pc (a.val : Int) ≤ 3 := by decide +kernel
theorem pc_le {a b : Int} (ha : 0 ≤ a ∧ a ≤ 7) (hb : 0 ≤ b ∧ b ≤ 7) (h : bothS a b 3 = a) : pc a ≤ pc b ∧ (pc a = pc b → a = b) := by
  obtain ⟨x, rfl⟩ := fin8 ha
  obtain ⟨y, rfl⟩ := fin8 hb
  exact (pc_all x y).1 h
theorem pc_3 {a : Int} (ha : 0 ≤ a ∧ a ≤ 7) : pc a ≤ 3 := by
  obtain ⟨x, rfl⟩ := fin8 ha
  exact (pc_all x 0).2
def pcL (a : Int × Int) : Nat := pc a.1 + pc a.2
theorem pcL_le {a b : Int × Int} (h : Le a b) : pcL a ≤ pcL b ∧ (pcL a = pcL b → a = b) := by
  have qa := labB_i.1 h.la
  have qb := labB_i.1 h.lb
  have he := h.eq
  rw [lboth_ok h.la h.lb] at he
  have e1 : bothS a.1 b.1 3 = a.1 := congrArg Prod.fst he
  have e2 : bothS a.2 b.2 3 = a.2 := congrArg Prod.snd he
  have h1 := pc_le qa.1 qb.1 e1
  have h2 := pc_le qa.2 qb.2 e2
  unfold pcL
  refine ⟨by omega, fun h => ?_⟩
  have k1 := h1.2 (by omega)
  have k2 := h2.2 (by omega)
  exact Prod.ext k1 k2
def meas (ls : List (Int × Int)) : Nat := (ls.map pcL).sum
theorem LeL.tail {a b : Int × Int} {x y : List (Int × Int)} (h : LeL (a :: x) (b :: y)) : Le a b ∧ LeL x y := by
  refine ⟨by simpa [List.getD] using h.2 0, by simpa using h.1, fun i => ?_⟩
  simpa [List.getD] using h.2 (i + 1)
theorem meas_le : ∀ (a b : List (Int × Int)), LeL a b → meas a ≤ meas b ∧ (meas a = meas b → a = b)
  | [], [], _ => ⟨Nat.le_refl _, fun _ => rfl⟩
  | [], _ :: _, h => by have := h.1; simp at this
  | _ :: _, [], h => by have := h.1; simp at this
  | a :: x, b :: y, h => by
    obtain ⟨h1, h2⟩ := h.tail
    have q1 := pcL_le h1
    have q2 := meas_le x y h2
    unfold meas at q2 ⊢
    rw [List.map_cons, List.map_cons, List.sum_cons, List.sum_cons]
    refine ⟨by omega, fun h => ?_⟩
    rw [q1.2 (by omega), q2.2 (by omega)]
theorem meas_bd : ∀ (ls : List (Int × Int)), ls.all labB = true → meas ls ≤ 6 * ls.length
  | [], _ => by simp [meas]
  | a :: ls, h => by
    rw [List.all_cons, Bool.and_eq_true] at h
    have q := labB_i.1 h.1
    have h1 := pc_3 q.1
    have h2 := pc_3 q.2
    have h3 := meas_bd ls h.2
    unfold meas at h3 ⊢
    unfold pcL at h3 ⊢
    rw [List.map_cons, List.sum_cons, List.length_cons]
    omega
/-- What falls, or stays, stays as soon as it was done more often than it can fall. -/
theorem iter_fix {f : List (Int × Int) → List (Int × Int)} (hf : ∀ x, x.all labB = true → LeL (f x) x) : ∀ (k : Nat) (x : List (Int × Int)), x.all labB = true → meas x < k → f (Nat.repeat f k x) = Nat.repeat f k x
  | 0, x, _, h => by omega
  | k + 1, x, hx, h => by
    by_cases he : f x = x
    · have hr : ∀ j, Nat.repeat f j x = x := fun j => by
        induction j with
        | zero => rfl
        | succ j ih => show f (Nat.repeat f j x) = x; rw [ih, he]
      rw [hr, he]
    · have h1 := meas_le _ _ (hf x hx)
      have h2 : meas (f x) < k := by
        have : meas (f x) ≠ meas x := fun h => he (h1.2 h)
        omega
      have h3 := iter_fix hf k (f x) (hf x hx).lab h2
      have hs : ∀ j (y : List (Int × Int)), Nat.repeat f (j + 1) y = Nat.repeat f j (f y) := fun j y => by
        induction j with
        | zero => rfl
        | succ j ih => show f (Nat.repeat f (j + 1) y) = f (Nat.repeat f j (f y)); rw [ih]
      rw [hs]
      exact h3
end Go.Proofs.YtkmghcglmjehcaaI
end
section
/- The reference's rounds end in the labels that are found. -/
set_option linter.unusedVariables false
set_option linter.unusedSimpArgs false
namespace Go.Proofs.YtkmghcglmjehcaaI
open Go Go.RowKit
/-- One step of what a variable needs. -/
def needS (ls : List (Int × Int)) (v : Int) (o : Int × Int) (x : Shal × (Int × Int)) : Int × Int := if x.1.1 = 1 ∧ x.1.2.1 = v then lboth o (lboth x.2 (valL ls x.1.2.2.1)) else o
def needV (n : Nat) (ls : List (Int × Int)) (l : List (TStep n)) (v : Int) : Int × Int := ((allL n l).zip (atL n ls (7, 7) l)).foldl (needS ls v) (ls.getD v.toNat (0, 0))
theorem needS_fold (ls : List (Int × Int)) (v : Int) : ∀ (xs : List (Shal × (Int × Int))) (o : Int × Int), labB o = true → Le (xs.foldl (needS ls v) o) o ∧ (∀ c, Le c o → (∀ x ∈ xs, x.1.1 = 1 → x.1.2.1 = v → Le c (lboth x.2 (valL ls x.1.2.2.1))) → Le c (xs.foldl (needS ls v) o)) ∧ ∀ x ∈ xs, x.1.1 = 1 → x.1.2.1 = v → Le (xs.foldl (needS ls v) o) (lboth x.2 (valL ls x.1.2.2.1))
  | [], o, ho => ⟨Le.refl ho, fun c h _ => h, fun x hx => by cases hx⟩
  | x :: xs, o, ho => by
    have hs : Le (needS ls v o x) o := by
      unfold needS
      split
      · exact lboth_le_l ho (lboth_bd _ _)
      · exact Le.refl ho
    obtain ⟨h1, h2, h3⟩ := needS_fold ls v xs (needS ls v o x) hs.la
    rw [List.foldl_cons]
    refine ⟨h1.trans hs, fun c hc hall => h2 c ?_ fun y hy => hall y (List.mem_cons_of_mem _ hy), fun y hy k1 k2 => ?_⟩
    · unfold needS
      split
      · rename_i hx
        exact le_lboth hc (hall x List.mem_cons_self hx.1 hx.2)
      · exact hc
    · rcases List.mem_cons.1 hy with rfl | hy
      · refine h1.trans ?_
        unfold needS
        rw [if_pos ⟨k1, k2⟩]
        exact lboth_le_r ho (lboth_bd _ _)
      · exact h3 y hy k1 k2
/-- One variable is told anew. -/
def roundS (n : Nat) (l : List (TStep n)) (free : Int → Bool) (ls : List (Int × Int)) (v : Nat) : List (Int × Int) := if free v = true then ls.set v (needV n ls l v) else ls
def roundL (n : Nat) (l : List (TStep n)) (free : Int → Bool) (k : Nat) (ls : List (Int × Int)) : List (Int × Int) := (List.range k).foldl (roundS n l free) ls
theorem needV_le {n : Nat} {ls : List (Int × Int)} {l : List (TStep n)} (hl : ls.all labB = true) (v : Int) : Le (needV n ls l v) (ls.getD v.toNat (0, 0)) := (needS_fold ls v _ _ (lab_getD hl _)).1
theorem roundS_le {n : Nat} {l : List (TStep n)} {free : Int → Bool} {ls : List (Int × Int)} (hl : ls.all labB = true) {v : Nat} (hv : v < ls.length) : LeL (roundS n l free ls v) ls := by
  unfold roundS
  split
  · refine ⟨List.length_set, fun j => ?_⟩
    rw [getD_setP hv]
    split
    · rename_i h; subst h; exact needV_le hl _
    · exact Le.refl (lab_getD hl _)
  · exact LeL.refl hl
theorem roundS_top {n : Nat} {l : List (TStep n)} {free : Int → Bool} {ls m : List (Int × Int)} (hl : ls.all labB = true) {v : Nat} (hv : v < ls.length) (hm : Fix n l free m) (h : LeL m ls) : LeL m (roundS n l free ls v) := by
  unfold roundS
  split
  · rename_i hf
    refine ⟨by rw [List.length_set]; exact h.1, fun j => ?_⟩
    rw [getD_setP hv]
    split
    · rename_i hj
      subst hj
      refine (needS_fold ls v _ _ (lab_getD hl _)).2.1 _ (h.2 _) fun x hx k1 k2 => ?_
      obtain ⟨i, hi, rfl⟩ := List.getElem_of_mem hx
      rw [List.length_zip] at hi
      have hi1 : i < (allL n l).length := by omega
      have hi2 : i < (atL n ls (7, 7) l).length := by omega
      simp only [List.getElem_zip] at k1 k2 ⊢
      have q := hm i hi1 k1 (by rw [k2]; exact hf)
      rw [k2, Int.toNat_natCast] at q
      refine q.trans (lboth_mono ?_ (valL_mono h _))
      have := (atL_mono h (Le.refl (show labB ((7, 7) : Int × Int) = true from rfl)) l).2 i
      rwa [show (atL n ls (7, 7) l).getD i (0, 0) = (atL n ls (7, 7) l)[i] by simp [List.getD, hi2]] at this
    · exact h.2 j
  · exact h
theorem rounds_ind {n : Nat} {l : List (TStep n)} {free : Int → Bool} : ∀ (vs : List Nat) (ls : List (Int × Int)), ls.all labB = true → (∀ v ∈ vs, v < ls.length) → LeL (vs.foldl (roundS n l free) ls) ls ∧ (∀ m, Fix n l free m → LeL m ls → LeL m (vs.foldl (roundS n l free) ls)) ∧ (vs.foldl (roundS n l free) ls = ls → ∀ v ∈ vs, roundS n l free ls v = ls)
  | [], ls, hl, _ => ⟨LeL.refl hl, fun m _ h => h, fun _ v hv => by cases hv⟩
  | v :: vs, ls, hl, hv => by
    have h0 := roundS_le (l := l) (free := free) hl (hv v List.mem_cons_self)
    obtain ⟨h1, h2, h3⟩ := rounds_ind vs (roundS n l free ls v) h0.lab fun w hw => by rw [h0.1]; exact hv w (List.mem_cons_of_mem _ hw)
    rw [List.foldl_cons]
    refine ⟨h1.trans h0, fun m hm h => h2 m hm (roundS_top hl (hv v List.mem_cons_self) hm h), fun he => ?_⟩
    have e1 : roundS n l free ls v = ls := h0.antisymm (by rw [he] at h1; exact h1)
    intro w hw
    rcases List.mem_cons.1 hw with rfl | hw
    · exact e1
    · have := h3 (by rw [he, e1]) w hw
      rwa [e1] at this
theorem round_fix {n : Nat} {l : List (TStep n)} {free : Int → Bool} {ls : List (Int × Int)} (hl : ls.all labB = true) (hv : ∀ t ∈ allL n l, varB ls.length t.2.1 = true) (h : roundL n l free ls.length ls = ls) : Fix n l free ls := by
  intro i hi hk hf
  have hb := varB_i.1 (hv _ (List.getElem_mem hi))
  have hx : (allL n l)[i].2.1.toNat < ls.length := by omega
  have h1 := (rounds_ind (l := l) (free := free) (List.range ls.length) ls hl (fun v hv => by simpa using hv)).2.2 h _ (List.mem_range.2 hx)
  have hc : (((allL n l)[i].2.1.toNat : Nat) : Int) = (allL n l)[i].2.1 := by omega
  unfold roundS at h1
  rw [hc, if_pos hf] at h1
  have hat : i < (atL n ls (7, 7) l).length := by rw [atL_len]; exact hi
  have h2 : ls.getD (allL n l)[i].2.1.toNat (0, 0) = needV n ls l (allL n l)[i].2.1 := by
    conv => lhs; rw [← h1]
    rw [getD_setP hx, if_pos rfl]
  rw [h2]
  have hz : i < ((allL n l).zip (atL n ls (7, 7) l)).length := by rw [List.length_zip]; omega
  have h3 := (needS_fold ls (allL n l)[i].2.1 ((allL n l).zip (atL n ls (7, 7) l)) _ (lab_getD hl (allL n l)[i].2.1.toNat)).2.2 _ (List.getElem_mem hz) (by simpa using hk) (by simp)
  simp only [List.getElem_zip] at h3
  rw [show (atL n ls (7, 7) l).getD i (0, 0) = (atL n ls (7, 7) l)[i] by simp [List.getD, hat]]
  exact h3
end Go.Proofs.YtkmghcglmjehcaaI
end
section
/- After 25 rounds the reference has the labels that are found. -/
set_option linter.unusedVariables false
set_option linter.unusedSimpArgs false
namespace Go.Proofs.YtkmghcglmjehcaaI
open Go Go.RowKit
def rnd (n : Nat) (l : List (TStep n)) (free : Int → Bool) (x : List (Int × Int)) : List (Int × Int) := roundL n l free x.length x
theorem rnd_ind {n : Nat} {l : List (TStep n)} {free : Int → Bool} {x : List (Int × Int)} (h : x.all labB = true) : LeL (rnd n l free x) x ∧ ∀ m, Fix n l free m → LeL m x → LeL m (rnd n l free x) :=
  let q := rounds_ind (l := l) (free := free) (List.range x.length) x h (fun v hv => by simpa using hv)
  ⟨q.1, q.2.1⟩
theorem rnds_ind {n : Nat} {l : List (TStep n)} {free : Int → Bool} {x : List (Int × Int)} (h : x.all labB = true) : ∀ k, LeL (Nat.repeat (rnd n l free) k x) x ∧ ∀ m, Fix n l free m → LeL m x → LeL m (Nat.repeat (rnd n l free) k x)
  | 0 => ⟨LeL.refl h, fun m _ h => h⟩
  | k + 1 => by
    obtain ⟨h1, h2⟩ := rnds_ind h k
    obtain ⟨h3, h4⟩ := rnd_ind (l := l) (free := free) h1.lab
    exact ⟨h3.trans h1, fun m hm hx => h4 m hm (h2 m hm hx)⟩
theorem rnds_inf {n : Nat} {l : List (TStep n)} {free : Int → Bool} {x : List (Int × Int)} (h : x.all labB = true) (hx : x.length ≤ 4) (hv : ∀ t ∈ allL n l, varB x.length t.2.1 = true) : Inf n l free x (Nat.repeat (rnd n l free) 25 x) := by
  obtain ⟨h1, h2⟩ := rnds_ind (l := l) (free := free) h 25
  refine ⟨h1, ?_, fun m hm hf => h2 m hf hm⟩
  have hb := meas_bd x h
  have h3 := iter_fix (f := rnd n l free) (fun y hy => (rnd_ind hy).1) 25 x h (by omega)
  exact round_fix h1.lab (by rw [h1.1]; exact hv) h3
end Go.Proofs.YtkmghcglmjehcaaI
end
section
/- The program's passes end in the labels that are found. -/
set_option linter.unusedVariables false
set_option linter.unusedSimpArgs false
namespace Go.Proofs.YtkmghcglmjehcaaI
open Go Go.RowKit
/-- One step of a pass: what is set is told anew, by the labels of being done of the pass's start. -/
def passS (free : Int → Bool) (ls : List (Int × Int)) (x : Shal × (Int × Int)) : List (Int × Int) := if x.1.1 = 1 ∧ free x.1.2.1 = true then ls.set x.1.2.1.toNat (lboth (ls.getD x.1.2.1.toNat (0, 0)) (lboth x.2 (valL ls x.1.2.2.1))) else ls
def pass (n : Nat) (l : List (TStep n)) (free : Int → Bool) (ls : List (Int × Int)) : List (Int × Int) := ((allL n l).zip (atL n ls (7, 7) l)).foldl (passS free) ls
theorem passS_le {free : Int → Bool} {ls : List (Int × Int)} {x : Shal × (Int × Int)} (hl : ls.all labB = true) (hx : x.1.2.1.toNat < ls.length) : LeL (passS free ls x) ls := by
  unfold passS
  split
  · exact set_le hl hx (lboth_bd _ _)
  · exact LeL.refl hl
theorem pass_ind {free : Int → Bool} : ∀ (xs : List (Shal × (Int × Int))) (ls : List (Int × Int)), ls.all labB = true → (∀ x ∈ xs, x.1.2.1.toNat < ls.length) → LeL (xs.foldl (passS free) ls) ls ∧ (∀ m, LeL m ls → (∀ x ∈ xs, x.1.1 = 1 → free x.1.2.1 = true → ∀ ls', LeL m ls' → Le (m.getD x.1.2.1.toNat (0, 0)) (lboth x.2 (valL ls' x.1.2.2.1))) → LeL m (xs.foldl (passS free) ls)) ∧ (xs.foldl (passS free) ls = ls → ∀ x ∈ xs, passS free ls x = ls)
  | [], ls, hl, _ => ⟨LeL.refl hl, fun m h _ => h, fun _ x hx => by cases hx⟩
  | x :: xs, ls, hl, hx => by
    have hx0 := hx x List.mem_cons_self
    have h0 := passS_le (free := free) hl hx0
    obtain ⟨h1, h2, h3⟩ := pass_ind xs (passS free ls x) h0.lab fun w hw => by rw [h0.1]; exact hx w (List.mem_cons_of_mem _ hw)
    rw [List.foldl_cons]
    refine ⟨h1.trans h0, fun m hm hg => h2 m ?_ fun y hy => hg y (List.mem_cons_of_mem _ hy), fun he => ?_⟩
    · unfold passS
      split
      · rename_i hc
        refine ⟨by rw [List.length_set]; exact hm.1, fun j => ?_⟩
        rw [getD_setP hx0]
        split
        · rename_i hj
          subst hj
          exact le_lboth (hm.2 _) (hg x List.mem_cons_self hc.1 hc.2 ls hm)
        · exact hm.2 j
      · exact hm
    · have e1 : passS free ls x = ls := h0.antisymm (by rw [he] at h1; exact h1)
      intro w hw
      rcases List.mem_cons.1 hw with rfl | hw
      · exact e1
      · have := h3 (by rw [he, e1]) w hw
        rwa [e1] at this
theorem pass_all {n : Nat} {l : List (TStep n)} {free : Int → Bool} {ls : List (Int × Int)} (hl : ls.all labB = true) (hv : ∀ t ∈ allL n l, varB ls.length t.2.1 = true) : LeL (pass n l free ls) ls ∧ (∀ m, Fix n l free m → LeL m ls → LeL m (pass n l free ls)) ∧ (pass n l free ls = ls → Fix n l free ls) := by
  have hmem : ∀ x ∈ (allL n l).zip (atL n ls (7, 7) l), x.1.2.1.toNat < ls.length := fun x hx => by
    have := varB_i.1 (hv _ (List.of_mem_zip hx).1)
    omega
  obtain ⟨h1, h2, h3⟩ := pass_ind (free := free) _ ls hl hmem
  refine ⟨h1, fun m hm h => h2 m h fun x hx k1 k2 ls' h' => ?_, fun he i hi hk hf => ?_⟩
  · obtain ⟨i, hi, rfl⟩ := List.getElem_of_mem hx
    rw [List.length_zip] at hi
    have hi1 : i < (allL n l).length := by omega
    have hi2 : i < (atL n ls (7, 7) l).length := by omega
    simp only [List.getElem_zip] at k1 k2 ⊢
    have q := hm i hi1 k1 k2
    refine q.trans (lboth_mono ?_ (valL_mono h' _))
    have := (atL_mono h (Le.refl (show labB ((7, 7) : Int × Int) = true from rfl)) l).2 i
    rwa [show (atL n ls (7, 7) l).getD i (0, 0) = (atL n ls (7, 7) l)[i] by simp [List.getD, hi2]] at this
  · have hat : i < (atL n ls (7, 7) l).length := by rw [atL_len]; exact hi
    have hz : i < ((allL n l).zip (atL n ls (7, 7) l)).length := by rw [List.length_zip]; omega
    have hx := hmem _ (List.getElem_mem hz)
    have h4 := h3 he _ (List.getElem_mem hz)
    simp only [List.getElem_zip] at h4 hx
    unfold passS at h4
    rw [if_pos ⟨hk, hf⟩] at h4
    have h5 : ls.getD (allL n l)[i].2.1.toNat (0, 0) = lboth (ls.getD (allL n l)[i].2.1.toNat (0, 0)) (lboth (atL n ls (7, 7) l)[i] (valL ls (allL n l)[i].2.2.1)) := by
      conv => lhs; rw [← h4]
      rw [getD_setP hx, if_pos rfl]
    rw [h5, show (atL n ls (7, 7) l).getD i (0, 0) = (atL n ls (7, 7) l)[i] by simp [List.getD, hat]]
    exact lboth_le_r (lab_getD hl _) (lboth_bd _ _)
/-- Where a pass changes nothing any more the labels are found. -/
theorem passes_inf {n : Nat} {l : List (TStep n)} {free : Int → Bool} {x : List (Int × Int)} (h : x.all labB = true) (hv : ∀ t ∈ allL n l, varB x.length t.2.1 = true) {k : Nat} (he : pass n l free (Nat.repeat (pass n l free) k x) = Nat.repeat (pass n l free) k x) : Inf n l free x (Nat.repeat (pass n l free) k x) := by
  have hind : ∀ k, LeL (Nat.repeat (pass n l free) k x) x ∧ ∀ m, Fix n l free m → LeL m x → LeL m (Nat.repeat (pass n l free) k x) := fun k => by
    induction k with
    | zero => exact ⟨LeL.refl h, fun m _ h => h⟩
    | succ k ih =>
      obtain ⟨h3, h4, _⟩ := pass_all (free := free) ih.1.lab (fun t ht => by rw [ih.1.1]; exact hv t ht)
      exact ⟨h3.trans ih.1, fun m hm hx => h4 m hm (ih.2 m hm hx)⟩
  obtain ⟨h1, h2⟩ := hind k
  exact ⟨h1, (pass_all h1.lab (fun t ht => by rw [h1.1]; exact hv t ht)).2.2 he, fun m hm hf => h2 m hf hm⟩
end Go.Proofs.YtkmghcglmjehcaaI
end
section
/- What is fine, by the order of labels. -/
set_option linter.unusedVariables false
set_option linter.unusedSimpArgs false
namespace Go.Proofs.YtkmghcglmjehcaaI
open Go Go.RowKit
theorem why0_fine {ls : List (Int × Int)} : ∀ (ss : List Shal) (hs : List (Int × Int)) (i : Nat), (why0 ls ss hs i).2 = false ↔ ∀ x ∈ ss.zip hs, fineB ls x.1 x.2 = true
  | [], hs, i => by simp [why0]
  | _ :: _, [], i => by simp [why0]
  | s :: ss, h :: hs, i => by
    rw [why0, List.zip_cons_cons]
    by_cases hf : fineB ls s h = true
    · rw [if_pos hf, why0_fine ss hs (i + 1)]
      simp [hf]
    · rw [if_neg hf]
      simp [hf]
/-- A program is fine just if it is in form and each step is fine. -/
theorem typeP_iff {n : Nat} {ls : List (Int × Int)} {l : List (TStep n)} : typeP n (ls, l) = true ↔ progB n (ls, l) = true ∧ ∀ x ∈ (allL n l).zip (atL n ls (7, 7) l), fineB ls x.1 x.2 = true := by
  unfold typeP
  rw [Bool.and_eq_true, Bool.not_eq_true']
  refine and_congr_right fun h => ?_
  rw [whyV_yes h]
  exact why0_fine _ _ _
end Go.Proofs.YtkmghcglmjehcaaI
end
section
/- Labels that are found are fine if some are. -/
set_option linter.unusedVariables false
set_option linter.unusedSimpArgs false
namespace Go.Proofs.YtkmghcglmjehcaaI
open Go Go.RowKit
theorem Le.has {a b : Int × Int} (h : Le a b) {x : Int} (hx : hasB a.1 x = true) : hasB b.1 x = true := by
  have qa := labB_i.1 h.la
  have qb := labB_i.1 h.lb
  have he := h.eq
  rw [lboth_ok h.la h.lb] at he
  have e1 : bothS a.1 b.1 3 = a.1 := congrArg Prod.fst he
  have := hasB_both (h := x) qa.1 qb.1
  rw [e1, hx, Bool.true_and] at this
  exact this.symm
theorem shB_varN {k : Nat} {t : Shal} (h : shB k t = true) : varB k t.2.1 = true := by
  simp only [shB, Bool.and_eq_true] at h
  exact h.1
end Go.Proofs.YtkmghcglmjehcaaI
end
section
/- Trees of steps in blocks of one's own. -/
set_option linter.unusedVariables false
set_option linter.unusedSimpArgs false
namespace Go.Proofs.YtkmghcglmjehcaaI
open Go Go.RowKit
def shOf {n : Nat} (s : TStep (n + 1)) : Shal := (s.1, s.2.1, s.2.2.1, s.2.2.2.1)
def thOf {n : Nat} (s : TStep (n + 1)) : List (TStep n) := s.2.2.2.2.1
def elOf {n : Nat} (s : TStep (n + 1)) : List (TStep n) := s.2.2.2.2.2
def shV (s : Shal) (tv ev : Value) : List Value := [.int .i64 s.1, .int .i64 s.2.1, .int .i64 s.2.2.1.1, .int .i64 s.2.2.1.2.1, .int .i64 s.2.2.1.2.2, .int .i64 s.2.2.2, tv, ev]
def shRg (s : Shal) : Prop := RgI s.1 ∧ RgI s.2.1 ∧ RgI s.2.2.1.1 ∧ RgI s.2.2.1.2.1 ∧ RgI s.2.2.1.2.2 ∧ RgI s.2.2.2
/-- One step in memory: its cells, and the blocks of the steps in it. -/
def EltT {n : Nat} (P : Value → List (TStep n) → List Nat → Prop) (a : TStep (n + 1)) (cs : List Value) (B : List Nat) : Prop := ∃ tv ev B1 B2, cs = shV (shOf a) tv ev ∧ shRg (shOf a) ∧ P tv (thOf a) B1 ∧ P ev (elOf a) B2 ∧ B = B1 ++ B2
def BodyT {n : Nat} (P : Value → List (TStep n) → List Nat → Prop) (l : List (TStep (n + 1))) (cs : List Value) (Bs : List (List Nat)) : Prop := l.length ≤ 1048576 ∧ cs.length = l.length * 8 ∧ Bs.length = l.length ∧ Bs.flatten.Nodup ∧
  ∀ (i : Nat) (h : i < l.length) (h' : i < Bs.length), EltT P l[i] ((cs.drop (i * 8)).take 8) Bs[i]
/-- A tree of steps whose lists each lie in a block of its own. -/
def OwnT (lo : Nat) (H : Heap) : (n : Nat) → Value → List (TStep n) → List Nat → Prop
  | 0, v, l, B => v = nilS ∧ l = [] ∧ B = []
  | n + 1, v, l, B => (v = nilS ∧ l = [] ∧ B = []) ∨ ∃ b cs Bs, lo ≤ b ∧ v = sli b 0 l.length ∧ l ≠ [] ∧ H[b]? = some ⟨cs, 8, 83, true, true⟩ ∧ B = b :: Bs.flatten ∧ b ∉ Bs.flatten ∧ BodyT (OwnT lo H n) l cs Bs
theorem OwnT.nil {lo : Nat} {H : Heap} : ∀ {n : Nat}, OwnT lo H n nilS [] []
  | 0 => ⟨rfl, rfl, rfl⟩
  | n + 1 => .inl ⟨rfl, rfl, rfl⟩
theorem OwnT.one {lo : Nat} {H : Heap} : ∀ {n : Nat} {v : Value} {l : List (TStep n)} {B : List Nat}, OwnT lo H n v l B → one v = true
  | 0, v, l, B, ⟨h, _⟩ => by rw [h]; rfl
  | n + 1, v, l, B, .inl ⟨h, _⟩ => by rw [h]; rfl
  | n + 1, v, l, B, .inr ⟨b, cs, Bs, _, h, _⟩ => by rw [h]; rfl
theorem EltT.imp {n : Nat} {P P' : Value → List (TStep n) → List Nat → Prop} {a : TStep (n + 1)} {cs : List Value} {B : List Nat} (h : EltT P a cs B) (h1 : ∀ v l B1, (∀ b ∈ B1, b ∈ B) → P v l B1 → P' v l B1) : EltT P' a cs B := by
  obtain ⟨tv, ev, B1, B2, e1, e2, e3, e4, rfl⟩ := h
  exact ⟨tv, ev, B1, B2, e1, e2, h1 _ _ _ (fun b hb => List.mem_append_left _ hb) e3, h1 _ _ _ (fun b hb => List.mem_append_right _ hb) e4, rfl⟩
theorem mem_flat {Bs : List (List Nat)} {i : Nat} (hi : i < Bs.length) {b : Nat} (hb : b ∈ Bs[i]) : b ∈ Bs.flatten := List.mem_flatten.2 ⟨_, List.getElem_mem hi, hb⟩
theorem BodyT.imp {n : Nat} {P P' : Value → List (TStep n) → List Nat → Prop} {l : List (TStep (n + 1))} {cs : List Value} {Bs : List (List Nat)} (h : BodyT P l cs Bs) (h1 : ∀ v l B1, (∀ b ∈ B1, b ∈ Bs.flatten) → P v l B1 → P' v l B1) : BodyT P' l cs Bs := by
  obtain ⟨a0, a1, a2, a3, a4⟩ := h
  exact ⟨a0, a1, a2, a3, fun i h h' => (a4 i h h').imp fun v l B1 hs hp => h1 v l B1 (fun b hb => mem_flat h' (hs b hb)) hp⟩
theorem BodyT.nil {n : Nat} {P : Value → List (TStep n) → List Nat → Prop} : BodyT P [] [] [] := ⟨by simp, rfl, rfl, by simp, fun i h => by simp at h⟩
theorem OwnT.keep {lo lo' : Nat} {H H' : Heap} : ∀ {n : Nat} {v : Value} {l : List (TStep n)} {B : List Nat}, OwnT lo H n v l B → lo' ≤ lo → (∀ b ∈ B, H'[b]? = H[b]?) → OwnT lo' H' n v l B
  | 0, v, l, B, h, _, _ => h
  | n + 1, v, l, B, .inl h, _, _ => .inl h
  | n + 1, v, l, B, .inr ⟨b, cs, Bs, h1, h2, h3, h5, h8, h9, h10⟩, hlo, hk => by
    refine .inr ⟨b, cs, Bs, by omega, h2, h3, ?_, h8, h9, h10.imp fun v l B1 hs h => OwnT.keep h hlo fun b' hb' => hk b' (by rw [h8]; exact List.mem_cons_of_mem _ (hs b' hb'))⟩
    rw [hk b (by rw [h8]; exact List.mem_cons_self)]; exact h5
theorem OwnT.ge {lo : Nat} {H : Heap} : ∀ {n : Nat} {v : Value} {l : List (TStep n)} {B : List Nat}, OwnT lo H n v l B → ∀ b ∈ B, lo ≤ b ∧ b < H.length ∧ ∃ cs, H[b]? = some ⟨cs, 8, 83, true, true⟩
  | 0, v, l, B, ⟨_, _, h⟩, b, hb => by rw [h] at hb; cases hb
  | n + 1, v, l, B, .inl ⟨_, _, h⟩, b, hb => by rw [h] at hb; cases hb
  | n + 1, v, l, B, .inr ⟨b0, cs, Bs, h1, h2, h3, h5, h8, h9, ⟨a0, a1, a2, a3, a4⟩⟩, b, hb => by
    rw [h8, List.mem_cons] at hb
    rcases hb with rfl | hb
    · exact ⟨h1, (List.getElem?_eq_some_iff.1 h5).1, cs, h5⟩
    · obtain ⟨X, hX, hbX⟩ := List.mem_flatten.1 hb
      obtain ⟨i, hi, rfl⟩ := List.getElem_of_mem hX
      obtain ⟨tv, ev, B1, B2, _, _, e3, e4, e5⟩ := a4 i (by omega) hi
      rw [e5, List.mem_append] at hbX
      rcases hbX with h | h
      · exact OwnT.ge e3 b h
      · exact OwnT.ge e4 b h
theorem OwnT.nodup {lo : Nat} {H : Heap} : ∀ {n : Nat} {v : Value} {l : List (TStep n)} {B : List Nat}, OwnT lo H n v l B → B.Nodup
  | 0, v, l, B, ⟨_, _, h⟩ => by rw [h]; exact List.nodup_nil
  | n + 1, v, l, B, .inl ⟨_, _, h⟩ => by rw [h]; exact List.nodup_nil
  | n + 1, v, l, B, .inr ⟨b0, cs, Bs, h1, h2, h3, h5, h8, h9, ⟨a0, a1, a2, a3, a4⟩⟩ => by rw [h8]; exact List.nodup_cons.2 ⟨h9, a3⟩
theorem OwnT.len {lo : Nat} {H : Heap} : ∀ {n : Nat} {v : Value} {l : List (TStep n)} {B : List Nat}, OwnT lo H n v l B → l.length ≤ 1048576 ∧ ∃ a, v = .slice a l.length l.length
  | 0, v, l, B, ⟨h, h2, _⟩ => by rw [h, h2]; exact ⟨by simp, none, rfl⟩
  | n + 1, v, l, B, .inl ⟨h, h2, _⟩ => by rw [h, h2]; exact ⟨by simp, none, rfl⟩
  | n + 1, v, l, B, .inr ⟨b, cs, Bs, _, h, _, _, _, _, ⟨a0, _⟩⟩ => ⟨a0, _, h⟩
theorem OwnT.sl {lo : Nat} {H : Heap} : ∀ {n : Nat} {v : Value} {l : List (TStep n)} {B : List Nat}, OwnT lo H n v l B → SlR (Co.step n) (vws lo H) v l
  | 0, v, l, B, ⟨h, h2, _⟩ => by rw [h, h2]; exact ⟨by simp, none, rfl, .inl rfl⟩
  | n + 1, v, l, B, .inl ⟨h, h2, _⟩ => by rw [h, h2]; exact ⟨by simp, none, rfl, .inl rfl⟩
  | n + 1, v, l, B, .inr ⟨b, cs, Bs, h1, h2, h3, h5, h8, h9, ⟨a0, a1, a2, a3, a4⟩⟩ => by
    refine ⟨by omega, _, h2, .inr ⟨b, 0, rfl, fun i hi => ?_⟩⟩
    obtain ⟨tv, ev, B1, B2, e1, e2, e3, e4, e5⟩ := a4 i hi (by omega)
    have hr := step_rd e2.1 e2.2.1 e2.2.2.1 e2.2.2.2.1 e2.2.2.2.2.1 e2.2.2.2.2.2 (OwnT.sl e3) (OwnT.sl e4)
    refine ⟨shV (shOf l[i]) tv ev, ?_, hr⟩
    unfold rng vws
    rw [if_pos h1, h5]
    simp only [Option.bind_some, if_true, Nat.zero_add, step_w]
    rw [if_pos (by have : i * 8 + 8 ≤ l.length * 8 := by omega
                   omega), ← e1]
/-- A step more. -/
theorem BodyT.snoc {n : Nat} {P P' : Value → List (TStep n) → List Nat → Prop} {l : List (TStep (n + 1))} {cs cs8 : List Value} {Bs : List (List Nat)} {a : TStep (n + 1)} {B : List Nat} (h : BodyT P l cs Bs) (h1 : ∀ v l B1, (∀ b ∈ B1, b ∈ Bs.flatten) → P v l B1 → P' v l B1) (ha : EltT P' a cs8 B) (hB : B.Nodup) (hap : ∀ b ∈ B, b ∉ Bs.flatten) (hl : l.length < 1048576) : BodyT P' (l ++ [a]) (cs ++ cs8) (Bs ++ [B]) := by
  obtain ⟨a0, a1, a2, a3, a4⟩ := h
  have h8 : cs8.length = 8 := by obtain ⟨tv, ev, B1, B2, e1, _⟩ := ha; rw [e1]; rfl
  refine ⟨by rw [List.length_append, List.length_singleton]; omega, by rw [List.length_append, List.length_append, a1, h8, List.length_singleton]; omega, by rw [List.length_append, List.length_append, a2]; rfl, ?_, fun i hi hi' => ?_⟩
  · rw [List.flatten_append, List.nodup_append]
    refine ⟨a3, by simpa using hB, fun x hx y hy => ?_⟩
    simp only [List.flatten_cons, List.flatten_nil, List.append_nil] at hy
    intro he
    subst he
    exact hap x hy hx
  · rcases Nat.lt_or_ge i l.length with hlt | hge
    · rw [List.getElem_append_left hlt, List.getElem_append_left (by omega : i < Bs.length)]
      have := (a4 i hlt (by omega)).imp fun v l B1 hs hp => h1 v l B1 (fun b hb => mem_flat (by omega) (hs b hb)) hp
      have hd : ((cs ++ cs8).drop (i * 8)).take 8 = (cs.drop (i * 8)).take 8 := by
        rw [List.drop_append_of_le_length (by omega), List.take_append_of_le_length (by rw [List.length_drop]; omega)]
      rw [hd]
      exact this
    · have hil : i = l.length := by rw [List.length_append, List.length_singleton] at hi; omega
      subst hil
      have e1 : (l ++ [a])[l.length]'hi = a := by simp
      have e2 : (Bs ++ [B])[l.length]'hi' = B := by
        rw [List.getElem_append_right (by omega)]; simp
      rw [e1, e2, List.drop_append, List.drop_of_length_le (by omega), a1, Nat.sub_self, List.nil_append, List.drop_zero, List.take_of_length_le (by omega)]
      exact ha
end Go.Proofs.YtkmghcglmjehcaaI
end
section
/- Steps copied; steps changed in their place. -/
set_option linter.unusedVariables false
set_option linter.unusedSimpArgs false
namespace Go.Proofs.YtkmghcglmjehcaaI
open Go Go.RowKit
def c_cloneSteps : IFn := ⟨1, 26, [.t 2],
 .seq (.reg none [
    ⟨(some 2), none, .mov (.c (.slice none 0 0))⟩])
 (.seq (.reg none [
    ⟨(some 3), none, .mov (.c (.slice none 0 0))⟩])
 (.seq (.seq (.reg none [
     ⟨(some 6), none, .mov (.t 0)⟩,
     ⟨(some 7), none, .len (.t 6)⟩,
     ⟨(some 8), none, .mov (.c (.int .i64 0))⟩])
  (.block 0 (.loop (.seq (.reg none [
       ⟨(some 9), none, .bin .lss (.t 8) (.t 7)⟩])
    (.seq (.cond (.t 9) (.skip) (.exit 0))
    (.seq (.block 1 (.seq (.reg none [
         ⟨(some 10), none, .iad 8 (.t 6) (.t 8)⟩,
         ⟨(some 11), none, .load true 8 (.t 10)⟩,
         ⟨(some 5), none, .new [(.int .i64 0), (.int .i64 0), (.int .i64 0), (.int .i64 0), (.int .i64 0), (.int .i64 0), (.slice none 0 0), (.slice none 0 0)]⟩,
         ⟨none, none, .store 8 (.t 5) (.t 11)⟩])
      (.seq (.reg (some 7) [
         ⟨(some 12), none, .fad 6 (.t 5)⟩,
         ⟨(some 13), none, .load false 1 (.t 12)⟩,
         ⟨(some 14), none, .call .k (.f 110) [(.t 13)]⟩,
         ⟨(some 15), none, .fad 7 (.t 5)⟩,
         ⟨(some 16), none, .load false 1 (.t 15)⟩,
         ⟨(some 17), none, .call .k (.f 110) [(.t 16)]⟩,
         ⟨(some 18), none, .fad 6 (.t 5)⟩,
         ⟨none, none, .store 1 (.t 18) (.t 14)⟩,
         ⟨(some 19), none, .fad 7 (.t 5)⟩,
         ⟨none, none, .store 1 (.t 19) (.t 17)⟩])
      (.reg none [
        ⟨(some 20), none, .mov (.t 3)⟩,
        ⟨(some 21), none, .load true 8 (.t 5)⟩,
        ⟨(some 22), none, .lit 8 83 1 [(.int .i64 0), (.int .i64 0), (.int .i64 0), (.int .i64 0), (.int .i64 0), (.int .i64 0), (.slice none 0 0), (.slice none 0 0)] [(0, 8, (.t 21))]⟩,
        ⟨(some 23), none, .app 8 83 96 true (.t 20) (.t 22)⟩,
        ⟨(some 3), none, .mov (.t 23)⟩]))))
    (.reg none [
      ⟨(some 24), none, .bin .add (.t 8) (.c (.int .i64 1))⟩,
      ⟨(some 8), none, .mov (.t 24)⟩])))))))
 (.seq (.reg none [
    ⟨(some 25), none, .mov (.t 3)⟩,
    ⟨(some 2), none, .mov (.t 25)⟩])
 (.ret))))⟩
theorem op_app_kill {F : Nat → Option IFn} {lo0 es et bytes : Nat} {x y : Opd} {e : Env} {H : Heap} {cs ys : List Value} {b n : Nat} {K : Value → Heap → Prop} (hk : H[b]? = some ⟨cs, es, et, true, true⟩) (hn : cs.length = n * es) (hx : x.ev e = sli b 0 n) (hy : y.ev e = sli H.length 0 1) (hlo : lo0 ≤ b) (hyl : ys.length = es) (hl : n < 1048576) (hb : bytes ≤ 1048576)
    (k : ∀ H', AgX [b] H H' → H'[H.length + 1]? = some ⟨cs ++ ys, es, et, true, true⟩ → K (sli (H.length + 1) 0 (n + 1)) H') : wpOp F lo0 (.app es et bytes true x y) e (H ++ [⟨ys, es, et, true, true⟩]) K := by
  have hbl := (List.getElem?_eq_some_iff.1 hk).1
  have hbytes : (n + 1) * bytes ≤ 1048576 * 1048576 := Nat.mul_le_mul (by omega) hb
  refine op_app _ _ _ _ _ (b := ⟨b, 0, none⟩) (n := n) (c := n) (a := ⟨H.length, 0, none⟩) (m := 1) (c' := 1) (ys := ys) (kb := ⟨cs, es, et, true, true⟩) hx hy (by omega) ?_ ?_ ⟨hlo, rfl, rfl, rfl, rfl, hn, by omega, by omega⟩ ?_
  · unfold getCells
    rw [get_new0]
    simp only [List.getElem?_cons_zero, Nat.one_mul, Nat.zero_add]
    rw [if_pos (by omega), List.drop_zero, List.take_of_length_le (by omega)]
  · show (H ++ [_])[b]? = _
    rw [List.getElem?_append_left hbl]; exact hk
  · have hset : (H ++ ([⟨ys, es, et, true, true⟩] : Heap)).set b ⟨[], es, et, false, true && n == 0⟩ = H.set b ⟨[], es, et, false, true && n == 0⟩ ++ [⟨ys, es, et, true, true⟩] := List.set_append_left _ _ hbl
    simp only [if_true, Bool.or_true, Bool.and_true, List.length_append, List.length_cons, List.length_nil, Nat.zero_add]
    rw [hset, List.append_assoc]
    have hag : AgX [b] H (H.set b ⟨[], es, et, false, true && n == 0⟩ ++ ([⟨ys, es, et, true, true⟩] ++ [⟨cs ++ ys, es, et, true, true⟩])) := (AgX.set H b _).trans (AgX.app [] _ _) (fun b h _ => h) (fun b h _ => by cases h)
    refine k _ hag ?_
    have : H.length + 1 = (H.set b ⟨[], es, et, false, true && n == 0⟩).length + 1 := by rw [List.length_set]
    rw [this, get_new]
    rfl
def CloneOk (F : Nat → Option IFn) (f n : Nat) : Prop := ∀ (H : Heap) (v : Value) (l : List (TStep n)), SlR (Co.step n) (vw 0 H) v l → (Co.sl (Co.step n)).sm l → ∃ v' B H', KC F f [v] H v' H' ∧ AgX [] H H' ∧ OwnT H.length H' n v' l B
theorem cloneSteps_ok {F : Nat → Option IFn} {f n : Nat} (hf : F f = some c_cloneSteps) (ih : ∀ m, n = m + 1 → CloneOk F 110 m) : CloneOk F f n := by
  intro H v l hv hsm
  suffices h : ∃ v' H', KC F f [v] H v' H' ∧ (∃ B, AgX [] H H' ∧ OwnT H.length H' n v' l B) by
    obtain ⟨v', H', h1, B, h2⟩ := h
    exact ⟨v', B, H', h1, h2⟩
  have hv0 := hv
  obtain ⟨h0, av, rfl, _⟩ := hv
  have hlm : l.length ≤ 1048576 := hsm.1
  refine KC.mk hf rfl ?_
  refine seq_reg ?_
  simp only [go_sem, binC]
  refine seq_reg ?_
  simp only [go_sem, binC]
  refine seq_assoc (seq_reg ?_)
  simp only [go_sem, binC]
  refine seq_block (wpc_loop ?_)
  suffices h : ∀ (k i : Nat) (e : Env) (Hc : Heap) (v3 : Value) (B : List Nat), i + k = l.length → AgX [] H Hc → OwnT H.length Hc n v3 (l.take i) B → e 3 = v3 → e 6 = .slice av l.length l.length → e 7 = .int .i64 l.length → e 8 = .int .i64 i → W F H.length _ e Hc _ from
    h l.length 0 _ H nilS [] (by omega) (AgX.refl _ _) OwnT.nil (by simp only [go_sem, binC]) (by simp only [go_sem, binC]) (by simp only [go_sem, binC]) (by (simp only [go_sem, binC]) <;> rfl)
  intro k
  induction k with
  | zero =>
    intro i e Hc v3 B hi hxc ho e3 e6 e7 e8
    refine lp_step ?_
    refine seq_reg ?_
    simp only [go_sem, binC, e7, e8]
    refine seq_cond (t := false) (by simp only [go_sem, binC]; rw [decide_eq_false (by omega)]) ?_
    simp only [go_sem, binC]
    refine seq_exit ?_
    simp only [go_sem, binC, thenX_e, out_e, thenX_n]
    refine seq_reg ?_
    simp only [go_sem, binC, e3]
    rw [List.take_of_length_le (by omega)] at ho
    exact wpc_ret ⟨Or.inr rfl, _, (by (simp only [go_sem, binC]) <;> rfl), B, hxc, ho⟩
  | succ k ihk =>
    intro i e Hc v3 B hi hxc ho e3 e6 e7 e8
    have hil : i < l.length := by omega
    cases n with
    | zero => exact (l[i]).elim
    | succ n =>
    obtain ⟨vb, vo, kd, vr, va, vbb, vc, hh, tv, ev, tl, el, hav, hs, rg, otv, oev, hgc, htl, hel⟩ := step_at hv0 hil
    simp only [Value.slice.injEq, and_true] at hav
    subst hav
    obtain ⟨_, tva, rfl, _⟩ := id htl
    obtain ⟨_, eva, rfl, _⟩ := id hel
    have hg8 := hgc Hc (agx_sub hxc)
    have hsi : (Co.step (n + 1)).sm l[i] := hsm.2 _ (List.getElem_mem hil)
    rw [hs] at hsi
    obtain ⟨_, _, _, _, smt, sme⟩ := hsi
    have hw1 : IntKind.i64.wrap ((i : Int) + 1) = ((i + 1 : Nat) : Int) := by rw [wrap_id (by omega) (by omega)]; omega
    have hHl := hxc.1
    refine lp_step ?_
    refine seq_reg ?_
    simp only [go_sem, binC, e7, e8]
    refine seq_cond (t := true) (by simp only [go_sem, binC]; rw [decide_eq_true (by omega)]) ?_
    simp only [go_sem, binC]
    refine seq_skip (seq_block (seq_reg ?_))
    simp only [go_sem, binC, e6, e8]
    refine ⟨⟨by omega, by omega⟩, ?_⟩
    simp only [go_sem, binC, Int.toNat_natCast, hg8, otv, oev]
    refine ⟨by omega, ?_⟩
    refine wpc_gen fun H1 hH1 => ?_
    have hx1 : AgX [] Hc H1 := hH1 ▸ AgX.app [] _ _
    have hbx : H1[Hc.length]? = some ⟨[.int .i64 kd, .int .i64 vr, .int .i64 va, .int .i64 vbb, .int .i64 vc, .int .i64 hh, (.slice tva tl.length tl.length), (.slice eva el.length el.length)], 0, 0, false, true⟩ := hH1 ▸ get_new0 _ _
    have hl1 : H1.length = Hc.length + 1 := by rw [hH1, List.length_append]; rfl
    clear hH1
    refine seq_regD ?_
    simp only [go_sem, binC, gc_of hbx, inBlk_some]
    obtain ⟨tv', B1, H2, k2, hx2, o2⟩ := ih n rfl H1 _ tl (htl.mono (agx_sub (hxc.tr hx1))) smt
    obtain ⟨_, ta', rfl⟩ := id o2.len
    refine op_callK (by simp only [go_sem, binC]; exact k2) ?_
    have hbx2 := hx2.get hbx (by simp)
    simp only [go_sem, binC, gc_of hbx2, inBlk_some]
    obtain ⟨ev', B2, H3, k3, hx3, o3⟩ := ih n rfl H2 _ el (hel.mono (agx_sub ((hxc.tr hx1).tr hx2))) sme
    obtain ⟨_, ea', rfl⟩ := id o3.len
    refine op_callK (by simp only [go_sem, binC]; exact k3) ?_
    have hbx3 := hx3.get hbx2 (by simp)
    have hl2 := hx2.1
    have hl3 := hx3.1
    have hb3l := (List.getElem?_eq_some_iff.1 hbx3).1
    have ot' := o2.one
    have oe' := o3.one
    simp only [go_sem, binC, hbx3, ot', oe']
    refine ⟨by omega, ?_⟩
    simp only [go_sem, binC, List.getElem?_set_self hb3l, ot', oe', List.set_set]
    refine ⟨by omega, ?_⟩
    refine wpc_genH fun H4 hH4 => ?_
    have hx4 : AgX [Hc.length] H3 H4 := by rw [hH4]; exact AgX.set _ _ _
    have hb4 : H4[Hc.length]? = some ⟨[.int .i64 kd, .int .i64 vr, .int .i64 va, .int .i64 vbb, .int .i64 vc, .int .i64 hh, (.slice ta' tl.length tl.length), (.slice ea' el.length el.length)], 0, 0, false, true⟩ := by rw [hH4]; exact List.getElem?_set_self hb3l
    have hl4 : H4.length = H3.length := by rw [hH4, List.length_set]
    clear hH4
    refine wpc_reg ?_
    simp only [go_sem, binC, e3, gc_of hb4, inBlk_some]
    have hag4 : AgX [] H H4 := (((hxc.tr hx1).tr hx2).tr hx3).trans hx4 (fun _ h _ => h) (fun b h1 h2 => by simp only [List.mem_singleton] at h1; omega)
    have hg2 := o2.ge
    have hg3 := o3.ge
    have hgB := ho.ge
    have hkt : ∀ b ∈ B, H4[b]? = Hc[b]? := fun b hb => by
      have h2 := (hgB b hb).2.1
      rw [hx4.2 b (by omega) (by simp; omega), hx3.2 b (by omega) (by simp), hx2.2 b (by omega) (by simp), hx1.2 b h2 (by simp)]
    have ho4 := ho.keep (Nat.le_refl _) hkt
    have o24 : OwnT H.length H4 n (.slice ta' tl.length tl.length) tl B1 := o2.keep (by omega) fun b hb => by
      have := hg2 b hb
      rw [hx4.2 b (by omega) (by simp; omega), hx3.2 b (by omega) (by simp)]
    have o34 : OwnT H.length H4 n (.slice ea' el.length el.length) el B2 := o3.keep (by omega) fun b hb => by
      have := hg3 b hb
      rw [hx4.2 b (by omega) (by simp; omega)]
    have hnd : (B1 ++ B2).Nodup := List.nodup_append.2 ⟨o2.nodup, o3.nodup, fun x hx y hy he => by have := hg2 x hx; have := hg3 y hy; omega⟩
    have hrg : shRg (shOf l[i]) := by rw [hs]; exact rg
    have helt : ∀ {H' : Heap}, (∀ b ∈ B1 ++ B2, H'[b]? = H4[b]?) → EltT (OwnT H.length H' n) l[i] [.int .i64 kd, .int .i64 vr, .int .i64 va, .int .i64 vbb, .int .i64 vc, .int .i64 hh, (.slice ta' tl.length tl.length), (.slice ea' el.length el.length)] (B1 ++ B2) := fun hk => by
      rw [hs]
      exact ⟨(.slice ta' tl.length tl.length), (.slice ea' el.length el.length), B1, B2, rfl, rg, o24.keep (Nat.le_refl _) (fun b hb => hk b (List.mem_append_left _ hb)), o34.keep (Nat.le_refl _) (fun b hb => hk b (List.mem_append_right _ hb)), rfl⟩
    have hfar : ∀ b ∈ B1 ++ B2, Hc.length < b ∧ b < H4.length := fun b hb => by
      rcases List.mem_append.1 hb with h | h
      · have := hg2 b h; omega
      · have := hg3 b h; omega
    have htk : l.take (i + 1) = l.take i ++ [l[i]] := by rw [List.take_add_one, List.getElem?_eq_getElem hil]; rfl
    have htl' : (l.take i).length = i := by rw [List.length_take]; omega
    have hend : ∀ (e' : Env) (H' : Heap) (v' : Value) (B' : List Nat), AgX [] H H' → OwnT H.length H' (n + 1) v' (l.take (i + 1)) B' → e' 3 = v' → e' 6 = .slice (some ⟨vb, vo, none⟩) l.length l.length → e' 7 = .int .i64 l.length → e' 8 = .int .i64 ((i + 1 : Nat) : Int) → W F H.length _ e' H' _ := fun e' H' v' B' a1 a2 a3 a6 a7 a8 => ihk (i + 1) e' H' v' B' (by omega) a1 a2 a3 a6 a7 a8
    rcases ho4 with ⟨rfl, hl0, _⟩ | ⟨b, cs, Bs, hb1, rfl, hne, hb2, rfl, hb4n, hbd⟩
    · have hi0 : i = 0 := by have := congrArg List.length hl0; rw [htl'] at this; simpa using this
      subst hi0
      refine op_app_nil _ _ _ _ _ (a := ⟨H4.length, 0, none⟩) (m := 1) (c' := 1) (ys := [.int .i64 kd, .int .i64 vr, .int .i64 va, .int .i64 vbb, .int .i64 vc, .int .i64 hh, (.slice ta' tl.length tl.length), (.slice ea' el.length el.length)]) (by (simp only [go_sem, binC, e3]) <;> rfl) (by (simp only [go_sem, binC]) <;> rfl) (by omega) (by rw [gc_new0]; rfl) (by omega) (by omega) ?_
      simp only [go_sem, binC, out_n, thenX_n]
      refine wpc_reg ?_
      simp only [go_sem, binC, e8, hw1]
      simp only [go_sem, binC, thenX_n]
      have hx5 : AgX [] H4 (H4 ++ [⟨[.int .i64 kd, .int .i64 vr, .int .i64 va, .int .i64 vbb, .int .i64 vc, .int .i64 hh, (.slice ta' tl.length tl.length), (.slice ea' el.length el.length)], 8, 83, true, true⟩, ⟨[.int .i64 kd, .int .i64 vr, .int .i64 va, .int .i64 vbb, .int .i64 vc, .int .i64 hh, (.slice ta' tl.length tl.length), (.slice ea' el.length el.length)], 8, 83, true, true⟩]) := AgX.app [] _ _
      refine hend _ _ (sli (H4.length + 1) 0 1) ((H4.length + 1) :: [B1 ++ B2].flatten) (hag4.tr hx5) (.inr ⟨H4.length + 1, _, [B1 ++ B2], by omega, by rw [show (l.take (0 + 1)).length = 1 by rw [List.length_take]; omega], by rw [htk]; exact List.append_ne_nil_of_right_ne_nil _ (by simp), get_new _ _ 1, rfl, ?_, ?_⟩) (by (simp only [go_sem, binC]) <;> rfl) (by simp only [go_sem, binC, e6]) (by simp only [go_sem, binC, e7]) (by simp only [go_sem, binC])
      · simp only [List.flatten_cons, List.flatten_nil, List.append_nil]
        intro hb
        have := hfar _ hb
        omega
      · have := (BodyT.nil (P := OwnT H.length H4 n)).snoc (P' := OwnT H.length (H4 ++ [⟨[.int .i64 kd, .int .i64 vr, .int .i64 va, .int .i64 vbb, .int .i64 vc, .int .i64 hh, (.slice ta' tl.length tl.length), (.slice ea' el.length el.length)], 8, 83, true, true⟩, ⟨[.int .i64 kd, .int .i64 vr, .int .i64 va, .int .i64 vbb, .int .i64 vc, .int .i64 hh, (.slice ta' tl.length tl.length), (.slice ea' el.length el.length)], 8, 83, true, true⟩]) n) (a := l[0]) (fun v l B1 hs h => h.keep (Nat.le_refl _) fun b hb => by have := hs b hb; simp at this) (helt (fun b hb => hx5.2 b (hfar b hb).2 (by simp))) hnd (fun b _ => by simp) (by simp)
        rw [htk, hl0]
        exact this
    · rw [htl']
      have hbB : b < Hc.length := (hgB b (List.mem_cons_self)).2.1
      obtain ⟨c1, c2, c3, c4, c5⟩ := id hbd
      rw [htl'] at c1 c2 c3
      refine op_app_kill hb2 c2 (by simp only [go_sem, binC, e3, htl']) (by (simp only [go_sem, binC]) <;> rfl) (by omega) rfl (by omega) (by omega) fun H5 hx5 hb5 => ?_
      simp only [go_sem, binC, out_n, thenX_n]
      refine wpc_reg ?_
      simp only [go_sem, binC, e8, hw1]
      simp only [go_sem, binC, thenX_n]
      have hk5 : ∀ b' ∈ Bs.flatten, H5[b']? = H4[b']? := fun b' hb' => hx5.2 b' (by have := (hgB b' (List.mem_cons_of_mem _ hb')).2.1; omega) (by intro h; simp only [List.mem_singleton] at h; subst h; exact hb4n hb')
      refine hend _ H5 (sli (H4.length + 1) 0 (i + 1)) ((H4.length + 1) :: (Bs ++ [B1 ++ B2]).flatten) (hag4.trans hx5 (fun _ h _ => h) (fun b' h1 h2 => by simp only [List.mem_singleton] at h1; omega)) (.inr ⟨H4.length + 1, _, Bs ++ [B1 ++ B2], by omega, by rw [List.length_take, Nat.min_eq_left (by omega)], by rw [htk]; exact List.append_ne_nil_of_right_ne_nil _ (by simp), hb5, rfl, ?_, ?_⟩) (by (simp only [go_sem, binC]) <;> rfl) (by simp only [go_sem, binC, e6]) (by simp only [go_sem, binC, e7]) (by simp only [go_sem, binC])
      · rw [List.flatten_append, List.mem_append]
        simp only [List.flatten_cons, List.flatten_nil, List.append_nil]
        rintro (h | h)
        · have := (hgB _ (List.mem_cons_of_mem _ h)).2.1; omega
        · have := hfar _ h; omega
      · rw [htk]
        exact hbd.snoc (fun v l B' hs h => h.keep (Nat.le_refl _) fun b' hb' => hk5 b' (hs b' hb')) (helt (fun b' hb' => hx5.2 b' (hfar b' hb').2 (by have := hfar b' hb'; simp; omega))) hnd (fun b' hb' h => by have := hfar b' hb'; have := (hgB b' (List.mem_cons_of_mem _ h)).2.1; omega) (by rw [htl']; omega)
theorem cloneSteps_all {F : Nat → Option IFn} (hf : F 110 = some c_cloneSteps) : ∀ n, CloneOk F 110 n
  | 0 => cloneSteps_ok hf fun m h => by cases h
  | n + 1 => cloneSteps_ok hf fun m h => by cases h; exact cloneSteps_all hf n
end Go.Proofs.YtkmghcglmjehcaaI
end
section
/- Programs in memory of one's own; a program copied. -/
set_option linter.unusedVariables false
set_option linter.unusedSimpArgs false
namespace Go.Proofs.YtkmghcglmjehcaaI
open Go Go.RowKit
def okS (k : Nat) (s : Shal) : Prop := varB k s.2.1 = true ∧ (valB k s.2.2.1 = true ∨ s.2.2.1 = (0, 0, 0)) ∧ (s.1 = 1 → valB k s.2.2.1 = true) ∧ (s.1 ≠ 1 → s.2.2.1 = (0, 0, 0)) ∧ (s.1 = 3 → 0 ≤ s.2.2.2 ∧ s.2.2.2 ≤ 2)
theorem stepB_okS (k : Nat) : ∀ (n : Nat) (d : Int) (s : TStep n), stepB k n d s = true → ∀ t ∈ allT n s, okS k t
  | 0, _, s, _ => s.elim
  | n + 1, d, (kd, vr, v, ho, th, el), h => by
    intro t ht
    rw [allT_succ, List.mem_cons, List.mem_append] at ht
    have h0 := h
    simp only [stepB, Bool.and_eq_true, decide_eq_true_eq] at h
    obtain ⟨⟨h1, hv⟩, h⟩ := h
    have hnil : ((th.length : Int) + el.length = 0) → t ∈ allL n th ∨ t ∈ allL n el → False := fun h0 hm => by
      obtain rfl : th = [] := List.eq_nil_of_length_eq_zero (by omega)
      obtain rfl : el = [] := List.eq_nil_of_length_eq_zero (by omega)
      simp [allL] at hm
    have go : ∀ l : List (TStep n), l.all (stepB k n (d - 1)) = true → t ∈ allL n l → okS k t := fun l hl hm => by
      unfold allL at hm
      rw [List.mem_flatten] at hm
      obtain ⟨ts, h3, h4⟩ := hm
      obtain ⟨a, h5, rfl⟩ := List.mem_map.1 h3
      exact stepB_okS k n (d - 1) a (List.all_eq_true.1 hl a h5) t h4
    by_cases k1 : kd = 1
    · rw [if_pos k1] at h
      simp only [Bool.and_eq_true, decide_eq_true_eq] at h
      rcases ht with rfl | ht
      · exact ⟨hv, .inl h.1.1, fun _ => h.1.1, fun hh => absurd k1 hh, fun hh => by simp only at hh; omega⟩
      · exact (hnil h.2 ht).elim
    rw [if_neg k1] at h
    by_cases k3 : kd = 3
    · rw [if_pos k3] at h
      simp only [Bool.and_eq_true, decide_eq_true_eq, inB_iff] at h
      rcases ht with rfl | ht
      · exact ⟨hv, .inr h.1.1, fun hh => absurd hh k1, fun _ => h.1.1, fun _ => h.1.2⟩
      · exact (hnil h.2 ht).elim
    rw [if_neg k3] at h
    by_cases k2 : kd = 2
    · rw [if_pos k2] at h
      simp only [Bool.and_eq_true, decide_eq_true_eq] at h
      rcases ht with rfl | ht | ht
      · exact ⟨hv, .inr h.1.1.1, fun hh => absurd hh k1, fun _ => h.1.1.1, fun hh => absurd hh k3⟩
      · exact go th h.1.2 ht
      · exact go el h.2 ht
    · rw [if_neg k2] at h; cases h
theorem progB_okS {n : Nat} {ls : List (Int × Int)} {l : List (TStep n)} (h : progB n (ls, l) = true) : ∀ t ∈ allL n l, okS ls.length t := by
  simp only [progB, Bool.and_eq_true, decide_eq_true_eq, List.all_eq_true] at h
  intro t ht
  unfold allL at ht
  rw [List.mem_flatten] at ht
  obtain ⟨ts, h3, h4⟩ := ht
  obtain ⟨a, h5, rfl⟩ := List.mem_map.1 h3
  exact stepB_okS _ n 3 a (h.1.2 a h5) t h4
def c_pclone : IFn := ⟨1, 10, [.cell true 2 2],
 .seq (.reg none [
    ⟨(some 1), none, .box (.t 0)⟩,
    ⟨(some 2), none, .new [(.slice none 0 0), (.slice none 0 0)]⟩])
 (.seq (.reg (some 5) [
    ⟨(some 3), none, .fad 0 (.t 1)⟩,
    ⟨(some 4), none, .load false 1 (.t 3)⟩,
    ⟨(some 5), none, .app 2 35 16 false (.c (.slice none 0 0)) (.t 4)⟩,
    ⟨(some 6), none, .fad 1 (.t 1)⟩,
    ⟨(some 7), none, .load false 1 (.t 6)⟩,
    ⟨(some 8), none, .call .k (.f 110) [(.t 7)]⟩,
    ⟨(some 9), none, .build [(.slice none 0 0), (.slice none 0 0)] [(0, 1, (.t 5)), (1, 1, (.t 8))]⟩,
    ⟨none, none, .store 2 (.t 2) (.t 9)⟩])
 (.ret))⟩
def LabV (lo : Nat) (H : Heap) (v : Value) (ls : List (Int × Int)) : Prop := (v = nilS ∧ ls = []) ∨ ∃ b, lo ≤ b ∧ v = sli b 0 ls.length ∧ ls ≠ [] ∧ H[b]? = some ⟨ls.flatMap fp, 2, 35, true, true⟩
theorem LabV.one {lo : Nat} {H : Heap} {v : Value} {ls : List (Int × Int)} (h : LabV lo H v ls) : one v = true := by
  rcases h with ⟨rfl, _⟩ | ⟨b, _, rfl, _⟩ <;> rfl
theorem LabV.shape {lo : Nat} {H : Heap} {v : Value} {ls : List (Int × Int)} (h : LabV lo H v ls) : ∃ a, v = .slice a ls.length ls.length := by
  rcases h with ⟨rfl, rfl⟩ | ⟨b, _, rfl, _⟩
  · exact ⟨none, rfl⟩
  · exact ⟨_, rfl⟩
theorem LabV.keep {lo lo' : Nat} {H H' : Heap} {v : Value} {ls : List (Int × Int)} {xs : List Nat} (h : LabV lo H v ls) (hl : lo' ≤ lo) (hx : AgX xs H H') (hn : ∀ b, lo ≤ b → H[b]? = some ⟨ls.flatMap fp, 2, 35, true, true⟩ → b ∉ xs) : LabV lo' H' v ls := by
  rcases h with h | ⟨b, h1, h2, h3, h4⟩
  · exact .inl h
  · exact .inr ⟨b, by omega, h2, h3, hx.get h4 (hn b h1 h4)⟩
theorem LabV.sl {lo : Nat} {H : Heap} {v : Value} {ls : List (Int × Int)} (h : LabV lo H v ls) (hr : ∀ p ∈ ls, RgI p.1 ∧ RgI p.2) (hl : ls.length ≤ 1000) : SlR Co.p2 (vw 0 H) v ls := by
  rcases h with h | ⟨b, h1, h2, h3, h4⟩
  · exact GLi.slP (es := 2) (lo := lo) (et := 35) (.inl h) hr hl
  · exact GLi.slP (es := 2) (.inr ⟨b, true, h1, h2, h3, h4⟩) hr hl
theorem sl_p2s {H : Heap} {v : Value} {l : List (Int × Int)} (h : SlR Co.p2 (vw 0 H) v l) (hl : l ≠ []) : ∃ b o, v = .slice (some ⟨b, o, none⟩) l.length l.length ∧ getCells H b o (l.length * 2) = some (l.flatMap fp) := by
  obtain ⟨b, o, ys, h1, h3, h2, h4⟩ := sl_cells (w := 2) rfl h hl
  refine ⟨b, o, h1, ?_⟩
  have hfl := flat_len (fl := fp) (w := 2) (fun _ => rfl) l
  have : ys = l.flatMap fp := by
    refine List.ext_getElem? fun m => ?_
    by_cases hm : m < l.length * 2
    · have hi : m / 2 < l.length := by omega
      obtain ⟨_, _, e1, ⟨rfl, _⟩, ⟨rfl, _⟩⟩ := h4 (m / 2) hi
      have q1 : ((ys.drop (m / 2 * 2)).take 2)[m % 2]? = ys[m]? := by
        rw [List.getElem?_take, if_pos (by omega), List.getElem?_drop]
        congr 1; omega
      have q2 : (l.flatMap fp)[m]? = (fp l[m / 2])[m % 2]? := by
        have e : l.flatMap fp = (l.take (m / 2)).flatMap fp ++ (fp l[m / 2] ++ (l.drop (m / 2 + 1)).flatMap fp) := by
          conv => lhs; rw [← List.take_append_drop (m / 2) l, List.drop_eq_getElem_cons hi]
          rw [List.flatMap_append, List.flatMap_cons]
        have hlt : ((l.take (m / 2)).flatMap fp).length = m / 2 * 2 := by rw [flat_len (fl := fp) (w := 2) (fun _ => rfl), List.length_take]; omega
        rw [e, List.getElem?_append_right (by omega), hlt, List.getElem?_append_left (by show m - m / 2 * 2 < 2; omega)]
        congr 1; omega
      rw [← q1, e1, q2]
      rfl
    · rw [List.getElem?_eq_none (by omega), List.getElem?_eq_none (by omega)]
  rw [← this]
  exact h3
def PCloneOk (F : Nat → Option IFn) (f : Nat) : Prop := ∀ (H : Heap) (n : Nat) (lv sv : Value) (ls : List (Int × Int)) (l : List (TStep n)), SlR Co.p2 (vw 0 H) lv ls → SlR (Co.step n) (vw 0 H) sv l → (Co.prog n).sm (ls, l) → ∃ lv' sv' B H', KC F f [.agg #[lv, sv]] H (.agg #[lv', sv']) H' ∧ AgX [] H H' ∧ LabV H.length H' lv' ls ∧ OwnT H.length H' n sv' l B
theorem pclone_ok {F : Nat → Option IFn} {f : Nat} (hf : F f = some c_pclone) (gc : ∀ n, CloneOk F 110 n) : PCloneOk F f := by
  intro H n lv sv ls l r1 r2 hsm
  suffices h : ∃ w H', KC F f [.agg #[lv, sv]] H w H' ∧ (∃ lv' sv' B, w = .agg #[lv', sv'] ∧ AgX [] H H' ∧ LabV H.length H' lv' ls ∧ OwnT H.length H' n sv' l B) by
    obtain ⟨w, H', h1, lv', sv', B, rfl, h2⟩ := h
    exact ⟨lv', sv', B, H', h1, h2⟩
  have osv : one sv = true := by obtain ⟨_, a, rfl, _⟩ := r2; rfl
  have olv : one lv = true := by obtain ⟨_, a, rfl, _⟩ := r1; rfl
  have hls : ls.length ≤ 1048576 := hsm.1.1
  refine KC.mk hf rfl ?_
  refine seq_reg ?_
  simp only [go_sem, binC, osv, olv]
  refine wpc_gen fun H1 hH1 => ?_
  have hx1 : AgX [] H H1 := hH1 ▸ AgX.app [] _ _
  have hb1 : H1[H.length]? = some ⟨[lv, sv], 0, 0, false, true⟩ := hH1 ▸ get_new0 _ _
  have hb2 : H1[H.length + 1]? = some ⟨[nilS, nilS], 0, 0, false, true⟩ := hH1 ▸ get_new _ _ 1
  have hln : H1.length = H.length + 2 := by rw [hH1]; simp
  clear hH1
  have hl1 := hx1.1
  have happ : ∀ (e : Env) (K : Value → Heap → Prop), e 4 = lv → (∀ lv' L, LabV H.length (H1 ++ L) lv' ls → K lv' (H1 ++ L)) → wpOp F H1.length (.app 2 35 16 false (.c (.slice none 0 0)) (.t 4)) e H1 K := by
    intro e K e4 k
    by_cases hl0 : ls = []
    · obtain ⟨_, a, rfl, _⟩ := r1
      subst hl0
      refine op_app_zero _ _ _ _ _ rfl (by (simp only [go_sem, binC, e4]) <;> rfl) ?_
      have := k nilS []
      rw [List.append_nil] at this
      exact this (.inl ⟨rfl, rfl⟩)
    · obtain ⟨b, o, rfl, hg⟩ := sl_p2s (r1.mono (agx_sub hx1)) hl0
      have hne : ls.length ≠ 0 := fun h => hl0 (List.eq_nil_of_length_eq_zero h)
      refine op_app_nil _ _ _ _ _ rfl (by (simp only [go_sem, binC, e4]) <;> rfl) hne hg (by omega) (by omega) ?_
      exact k _ _ (.inr ⟨H1.length, hl1, rfl, hl0, get_new0 _ _⟩)
  refine seq_regD ?_
  simp only [go_sem, binC, gc_of hb1, inBlk_some]
  refine happ _ _ (by simp only [go_sem, binC]) fun lv' L hL => ?_
  have hx2 : AgX [] H1 (H1 ++ L) := AgX.app [] _ _
  have hb12 := hx2.get hb1 (by simp)
  simp only [go_sem, binC, gc_of hb12, inBlk_some]
  obtain ⟨sv', B, H3, k3, hx3, o3⟩ := gc n (H1 ++ L) sv l (r2.mono (agx_sub (hx1.tr hx2))) hsm.2
  obtain ⟨la', rfl⟩ := hL.shape
  obtain ⟨_, sa', rfl⟩ := id o3.len
  refine op_callK (by simp only [go_sem, binC]; exact k3) ?_
  have hb23 := (hx2.tr hx3).get hb2 (by simp)
  have hb23l := (List.getElem?_eq_some_iff.1 hb23).1
  simp only [go_sem, binC, hb23]
  have hl3 := hx3.1
  have hl2 := hx2.1
  have hxs : AgX [H.length + 1] H3 (H3.set (H.length + 1) ⟨[.slice la' ls.length ls.length, .slice sa' l.length l.length], 0, 0, false, true⟩) := AgX.set _ _ _
  refine wpc_ret ⟨Or.inr rfl, .agg #[.slice la' ls.length ls.length, .slice sa' l.length l.length], ?_, _, _, B, rfl, ((hx1.tr hx2).tr hx3).setN (by omega) _, ?_, ?_⟩
  · simp [resV, resL, res1, putE_get, ptr, gc_set hb23l, inBlk_some, valOf]
  · exact (hL.keep (Nat.le_refl _) hx3 (fun b _ _ => by simp)).keep (Nat.le_refl _) hxs (fun b _ h1 h2 => by simp only [List.mem_singleton] at h2; subst h2; rw [hb23] at h1; simp at h1)
  · refine o3.keep (by omega) fun b hb => hxs.2 b (o3.ge b hb).2.1 (fun h => ?_)
    have := (o3.ge b hb).1
    simp only [List.mem_singleton] at h
    have hq : (H1 ++ L).length = H1.length + L.length := List.length_append
    omega
theorem flat_set : ∀ (l : List (Int × Int)) (i : Nat) (x : Int × Int), i < l.length → setL (l.flatMap fp) (i * 2) (fp x) = (l.set i x).flatMap fp := by
  intro l i x hi
  have hfl := flat_len (fl := fp) (w := 2) (fun _ => rfl) l
  rw [setL_eq _ _ _ (by show i * 2 + 2 ≤ _; omega)]
  have e : l.flatMap fp = (l.take i).flatMap fp ++ (fp l[i] ++ (l.drop (i + 1)).flatMap fp) := by
    conv => lhs; rw [← List.take_append_drop i l, List.drop_eq_getElem_cons hi]
    rw [List.flatMap_append, List.flatMap_cons]
  have hlt : ((l.take i).flatMap fp).length = i * 2 := by rw [flat_len (fl := fp) (w := 2) (fun _ => rfl), List.length_take]; omega
  rw [List.set_eq_take_append_cons_drop, if_pos hi, List.flatMap_append, List.flatMap_cons, e]
  rw [List.take_append_of_le_length (by omega), List.take_of_length_le (by omega), List.drop_append, List.drop_of_length_le (by rw [hlt]; show _ ≤ i * 2 + 2; omega), hlt]
  rw [show i * 2 + (fp x).length - i * 2 = 2 from by show i * 2 + 2 - i * 2 = 2; omega]
  rw [List.nil_append, List.append_assoc]
  rfl
theorem LabV.blk {lo : Nat} {H : Heap} {v : Value} {ls : List (Int × Int)} (h : LabV lo H v ls) {b : Nat} (hb : b ∈ blkOf v) : lo ≤ b ∧ v = sli b 0 ls.length ∧ H[b]? = some ⟨ls.flatMap fp, 2, 35, true, true⟩ := by
  rcases h with ⟨rfl, _⟩ | ⟨b', q1, rfl, q3, q4⟩
  · cases hb
  · simp only [blkOf, sli, List.mem_singleton] at hb
    subst hb
    exact ⟨q1, rfl, q4⟩
theorem bne_t {a b : Int} (h : ¬ a = b) : (a != b) = true := by simp [h]
theorem bne_f {a b : Int} (h : a = b) : (a != b) = false := by simp [h]
theorem blk_slP {es et b : Nat} {ap so : Bool} {H : Heap} {l : List (Int × Int)} (h : H[b]? = some ⟨l.flatMap fp, es, et, ap, so⟩) (hr : ∀ p ∈ l, RgI p.1 ∧ RgI p.2) (hl : l.length ≤ 1000) : SlR Co.p2 (vw 0 H) (sli b 0 l.length) l := by
  by_cases h0 : l = []
  · subst h0; exact ⟨by simp, _, rfl, .inl rfl⟩
  · have hfl := flat_len (fl := fp) (w := 2) (fun _ => rfl) l
    refine ⟨by omega, _, rfl, .inr ⟨b, 0, rfl, fun i hi => ⟨fp l[i], ?_, ⟨[.int .i64 l[i].1], [.int .i64 l[i].2], rfl, ⟨rfl, (hr _ (List.getElem_mem hi)).1⟩, ⟨rfl, (hr _ (List.getElem_mem hi)).2⟩⟩⟩⟩⟩
    unfold rng vw
    rw [if_pos (Nat.zero_le _), h]
    simp only [Option.map_some, Nat.zero_add, show Co.p2.w = 2 from rfl]
    rw [if_pos (by omega)]
    congr 1
    have : l.flatMap fp = (l.take i).flatMap fp ++ (fp l[i] ++ (l.drop (i + 1)).flatMap fp) := by
      conv => lhs; rw [← List.take_append_drop i l, List.drop_eq_getElem_cons hi]
      rw [List.flatMap_append, List.flatMap_cons]
    rw [this]
    have hlt : ((l.take i).flatMap fp).length = i * 2 := by rw [flat_len (fl := fp) (w := 2) (fun _ => rfl), List.length_take]; omega
    rw [List.drop_append, List.drop_of_length_le (by omega), hlt, Nat.sub_self, List.nil_append, List.drop_zero]
    rfl
end Go.Proofs.YtkmghcglmjehcaaI
end
