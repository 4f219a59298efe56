/- Texts of this proof, merged: J1, J2, J3, Y0, K1. -/
import Derived.Test.YtbjeldblaclpnaaGreatPz9
section
set_option linter.unusedVariables false
set_option linter.unusedSimpArgs false
namespace Go.Proofs.YtbjeldblaclpnaaGreatI
open Go Go.RowKit
def c_iBoth : IFn := ⟨2,16,[.cell true 2 4],
 .seq (.reg none [⟨some 2,none,.box (.t 0)⟩,⟨some 3,none,.box (.t 1)⟩,⟨some 4,none,.new [(.int .i64 0),(.int .i64 0)]⟩])
 (.seq (.reg none [⟨some 5,none,.fad 0 (.t 2)⟩,⟨some 6,none,.load false 1 (.t 5)⟩,⟨some 7,none,.fad 0 (.t 3)⟩,⟨some 8,none,.load false 1 (.t 7)⟩,
   ⟨some 9,none,.bin .and (.t 6) (.t 8)⟩,⟨some 10,none,.fad 1 (.t 2)⟩,⟨some 11,none,.load false 1 (.t 10)⟩,⟨some 12,none,.fad 1 (.t 3)⟩,
   ⟨some 13,none,.load false 1 (.t 12)⟩,⟨some 14,none,.bin .and (.t 11) (.t 13)⟩,
   ⟨some 15,none,.build [(.int .i64 0),(.int .i64 0)] [(0,1,(.t 9)),(1,1,(.t 14))]⟩,⟨none,none,.store 2 (.t 4) (.t 15)⟩])
 (.ret))⟩
def c_iFlows : IFn := ⟨2,17,[.t 4],
 .seq (.reg none [⟨some 2,none,.box (.t 0)⟩,⟨some 3,none,.box (.t 1)⟩,⟨some 4,none,.mov (.c (.bool false))⟩])
 (.seq (.reg none [⟨some 5,none,.fad 0 (.t 3)⟩,⟨some 6,none,.load false 1 (.t 5)⟩,⟨some 7,none,.fad 0 (.t 2)⟩,⟨some 8,none,.load false 1 (.t 7)⟩,
   ⟨some 9,none,.call .q (.f 49) [.t 6,.t 8]⟩,⟨some 10,none,.mov (.t 9)⟩,⟨some 11,some (10,true),.fad 1 (.t 3)⟩,⟨some 12,some (10,true),.load false 1 (.t 11)⟩,
   ⟨some 13,some (10,true),.fad 1 (.t 2)⟩,⟨some 14,some (10,true),.load false 1 (.t 13)⟩,⟨some 15,some (10,true),.call .q (.f 49) [.t 12,.t 14]⟩,
   ⟨some 16,none,.pick (.t 10) (.t 15) (.c (.bool false))⟩,⟨some 4,none,.mov (.t 16)⟩])
 (.ret))⟩
def c_iEvery : IFn := ⟨0,2,[.cell true 2 0],
 .seq (.reg none [⟨some 0,none,.new [(.int .i64 0),(.int .i64 0)]⟩])
 (.seq (.reg none [⟨some 1,none,.build [(.int .i64 0),(.int .i64 0)] [(0,1,(.c (.int .i64 7))),(1,1,(.c (.int .i64 7)))]⟩,⟨none,none,.store 2 (.t 0) (.t 1)⟩])
 (.ret))⟩
def c_iSource : IFn := ⟨3,26,[.cell true 2 6],
 .seq (.reg none [⟨some 3,none,.box (.t 0)⟩,⟨some 4,none,.box (.t 1)⟩,⟨some 5,none,.box (.t 2)⟩,⟨some 6,none,.new [(.int .i64 0),(.int .i64 0)]⟩])
 (.seq (.seq (.reg none [⟨some 9,none,.fad 2 (.t 4)⟩,⟨some 10,none,.load true 3 (.t 9)⟩,⟨some 11,none,.call .k (.f 80) [.t 10]⟩,⟨some 12,none,.len (.t 11)⟩,
   ⟨some 13,none,.mov (.c (.int .i64 0))⟩])
  (.block 0 (.loop (.seq (.reg none [⟨some 14,none,.bin .lss (.t 13) (.t 12)⟩])
   (.seq (.cond (.t 14) (.skip) (.exit 0))
   (.seq (.block 1 (.seq (.reg none [⟨some 15,none,.iad 1 (.t 11) (.t 13)⟩,⟨some 16,none,.load false 1 (.t 15)⟩,⟨some 8,none,.mov (.t 16)⟩])
    (.reg (some 6) [⟨some 17,none,.load true 2 (.t 5)⟩,⟨some 18,none,.fad 0 (.t 3)⟩,⟨some 19,none,.load false 1 (.t 18)⟩,⟨some 20,none,.mov (.t 8)⟩,
     ⟨some 21,none,.iad 2 (.t 19) (.t 20)⟩,⟨some 22,none,.load true 2 (.t 21)⟩,⟨some 23,none,.call .q (.f 79) [.t 17,.t 22]⟩,
     ⟨none,none,.store 2 (.t 5) (.t 23)⟩])))
   (.reg none [⟨some 24,none,.bin .add (.t 13) (.c (.int .i64 1))⟩,⟨some 13,none,.mov (.t 24)⟩])))))))
 (.seq (.reg none [⟨some 25,none,.load true 2 (.t 5)⟩,⟨none,none,.store 2 (.t 6) (.t 25)⟩])
 (.ret)))⟩
def c_iLabels : IFn := ⟨4,44,[.t 8],
 .seq (.reg none [⟨some 4,none,.box (.t 0)⟩,⟨some 6,none,.box (.t 2)⟩,⟨some 8,none,.mov (.c (.slice none 0 0))⟩])
 (.seq (.seq (.reg none [⟨some 12,none,.mov (.t 1)⟩,⟨some 13,none,.len (.t 12)⟩,⟨some 14,none,.mov (.c (.int .i64 0))⟩])
  (.block 0 (.loop (.seq (.reg none [⟨some 15,none,.bin .lss (.t 14) (.t 13)⟩])
   (.seq (.cond (.t 15) (.skip) (.exit 0))
   (.seq (.block 1 (.seq (.reg none [⟨some 16,none,.iad 8 (.t 12) (.t 14)⟩,⟨some 17,none,.load true 8 (.t 16)⟩,
      ⟨some 10,none,.new [(.int .i64 0),(.int .i64 0),(.int .i64 0),(.int .i64 0),(.int .i64 0),(.int .i64 0),(.slice none 0 0),(.slice none 0 0)]⟩,
      ⟨none,none,.store 8 (.t 10) (.t 17)⟩])
    (.seq (.reg none [⟨some 18,none,.mov (.t 3)⟩,⟨some 19,none,.load true 2 (.t 6)⟩,⟨some 20,none,.lit 2 57 1 [(.int .i64 0),(.int .i64 0)] [(0,2,(.t 19))]⟩,
      ⟨some 21,none,.app 2 57 16 false (.t 18) (.t 20)⟩,⟨some 3,none,.mov (.t 21)⟩])
    (.seq (.reg (some 9) [⟨some 22,none,.load true 2 (.t 6)⟩,⟨some 23,none,.fad 0 (.t 4)⟩,⟨some 24,none,.load false 1 (.t 23)⟩,⟨some 25,none,.fad 1 (.t 10)⟩,
      ⟨some 26,none,.load false 1 (.t 25)⟩,⟨some 27,none,.iad 2 (.t 24) (.t 26)⟩,⟨some 28,none,.load true 2 (.t 27)⟩,
      ⟨some 29,none,.call .q (.f 79) [.t 22,.t 28]⟩,⟨some 11,none,.new [(.int .i64 0),(.int .i64 0)]⟩,⟨none,none,.store 2 (.t 11) (.t 29)⟩])
    (.seq (.reg none [⟨some 30,none,.load true 2 (.t 4)⟩,⟨some 31,none,.fad 6 (.t 10)⟩,⟨some 32,none,.load false 1 (.t 31)⟩,
      ⟨some 33,none,.load true 2 (.t 11)⟩,⟨some 34,none,.mov (.t 3)⟩,⟨some 35,none,.call .n (.f 51) [.t 30,.t 32,.t 33,.t 34]⟩,⟨some 3,none,.mov (.t 35)⟩])
    (.reg none [⟨some 36,none,.load true 2 (.t 4)⟩,⟨some 37,none,.fad 7 (.t 10)⟩,⟨some 38,none,.load false 1 (.t 37)⟩,⟨some 39,none,.load true 2 (.t 11)⟩,
     ⟨some 40,none,.mov (.t 3)⟩,⟨some 41,none,.call .n (.f 51) [.t 36,.t 38,.t 39,.t 40]⟩,⟨some 3,none,.mov (.t 41)⟩]))))))
   (.reg none [⟨some 42,none,.bin .add (.t 14) (.c (.int .i64 1))⟩,⟨some 14,none,.mov (.t 42)⟩])))))))
 (.seq (.reg none [⟨some 43,none,.mov (.t 3)⟩,⟨some 8,none,.mov (.t 43)⟩])
 (.ret)))⟩
def c_iAt : IFn := ⟨1,8,[.t 2],
 .seq (.reg none [⟨some 1,none,.box (.t 0)⟩,⟨some 2,none,.mov (.c (.slice none 0 0))⟩])
 (.seq (.reg (some 4) [⟨some 3,none,.load true 2 (.t 1)⟩,⟨some 4,none,.fad 1 (.t 1)⟩,⟨some 5,none,.load false 1 (.t 4)⟩,⟨some 6,none,.call .q (.f 52) []⟩,
   ⟨some 7,none,.call .n (.f 51) [.t 3,.t 5,.t 6,(.c (.slice none 0 0))]⟩,⟨some 2,none,.mov (.t 7)⟩])
 (.ret))⟩
theorem and_both {a b : Int} (ha : 0 <= a /\ a <= 7) (hb : 0 <= b /\ b <= 7) : IntKind.i64.wrap ((BitVec.ofInt 64 a &&& BitVec.ofInt 64 b).toNat : Nat) = bothS a b 3 := by
 have qa : a = 0 \/ a = 1 \/ a = 2 \/ a = 3 \/ a = 4 \/ a = 5 \/ a = 6 \/ a = 7 := by omega
 have qb : b = 0 \/ b = 1 \/ b = 2 \/ b = 3 \/ b = 4 \/ b = 5 \/ b = 6 \/ b = 7 := by omega
 rcases qa with rfl | rfl | rfl | rfl | rfl | rfl | rfl | rfl <;> rcases qb with rfl | rfl | rfl | rfl | rfl | rfl | rfl | rfl <;> decide +kernel
theorem labB_i {a : Int × Int} : labB a = true ↔ (0 <= a.1 /\ a.1 <= 7) /\ 0 <= a.2 /\ a.2 <= 7 := by
 simp only [labB,Bool.and_eq_true,inB_iff]
theorem lboth_ok {a b : Int × Int} (ha : labB a = true) (hb : labB b = true) : lboth a b = (bothS a.1 b.1 3,bothS a.2 b.2 3) := by
 unfold lboth
 rw [ha,hb]
 rfl
def ILBoth (F : Nat -> Option IFn) (f : Nat) : Prop := ∀ (H : Heap) (a b : Int × Int),labB a = true -> labB b = true -> QC F f [.agg #[.int .i64 a.1,.int .i64 a.2],.agg #[.int .i64 b.1,.int .i64 b.2]] H (.agg #[.int .i64 (lboth a b).1,.int .i64 (lboth a b).2])
theorem binI_andJ (k : IntKind) (x y : Int) : binI .and k x y = some (.int k (k.wrap ((BitVec.ofInt k.bits x &&& BitVec.ofInt k.bits y).toNat : Nat))) := rfl
theorem iBoth_ok {F : Nat -> Option IFn} {f : Nat} (hf : F f = some c_iBoth) : ILBoth F f := by
 rintro H ⟨a1,a2⟩ ⟨b1,b2⟩ ha hb
 rw [lboth_ok ha hb]
 have qa := labB_i.1 ha
 have qb := labB_i.1 hb
 have h1 : binI .and .i64 a1 b1 = some (.int .i64 (bothS a1 b1 3)) := by rw [binI_andJ]; exact congrArg _ (congrArg _ (and_both qa.1 qb.1))
 have h2 : binI .and .i64 a2 b2 = some (.int .i64 (bothS a2 b2 3)) := by rw [binI_andJ]; exact congrArg _ (congrArg _ (and_both qa.2 qb.2))
 refine QC.mk hf rfl ?_
 refine seq_reg ?_
 simp only [go_sem,binC]
 refine seq_reg ?_
 simp only [go_sem,binC,inBlk_some,h1,h2]
 refine wpc_ret ⟨Or.inr rfl,_,(by (simp only [go_sem,binC,inBlk_some]) <;> rfl),rfl,rfl⟩
def IFlows (F : Nat -> Option IFn) (f : Nat) : Prop := ∀ (H : Heap) (a b : Int × Int),labB a = true -> labB b = true -> QC F f [.agg #[.int .i64 a.1,.int .i64 a.2],.agg #[.int .i64 b.1,.int .i64 b.2]] H (.bool (flowsB a b))
theorem iFlows_ok {F : Nat -> Option IFn} {f : Nat} (hf : F f = some c_iFlows) (gw : WitOk F 49) : IFlows F f := by
 rintro H ⟨a1,a2⟩ ⟨b1,b2⟩ ha hb
 have qa := labB_i.1 ha
 have qb := labB_i.1 hb
 have e : flowsB (a1,a2) (b1,b2) = (witB b1 a1 && witB b2 a2) := by
  unfold flowsB
  rw [ha,hb]
  rfl
 rw [e]
 refine QC.mk hf rfl ?_
 refine seq_reg ?_
 simp only [go_sem,binC]
 refine seq_reg ?_
 simp only [go_sem,binC,inBlk_some]
 refine op_callQ (by simp only [go_sem,binC]; exact gw _ _ _ qb.1.1 qb.1.2 qa.1.1 qa.1.2) ?_
 cases hw : witB b1 a1 with
 | true =>
   simp only [go_sem,binC,inBlk_some]
   refine op_callQ (by simp only [go_sem,binC]; exact gw _ _ _ qb.2.1 qb.2.2 qa.2.1 qa.2.2) ?_
   simp only [go_sem,binC]
   exact wpc_ret ⟨Or.inr rfl,_,(by (simp only [go_sem,binC]) <;> rfl),rfl,rfl⟩
 | false =>
   simp only [go_sem,binC]
   exact wpc_ret ⟨Or.inr rfl,_,(by (simp only [go_sem,binC]) <;> rfl),rfl,rfl⟩
theorem iEvery_ok {F : Nat -> Option IFn} {f : Nat} (hf : F f = some c_iEvery) : ∀ H,QC F f [] H (.agg #[.int .i64 7,.int .i64 7]) := by
 intro H
 refine QC.mk hf rfl ?_
 refine seq_reg ?_
 simp only [go_sem,binC]
 refine seq_reg ?_
 simp only [go_sem,binC]
 exact wpc_ret ⟨Or.inr rfl,_,(by (simp only [go_sem,binC,inBlk_some]) <;> rfl),rfl,rfl⟩
theorem bothS_all : ∀ a b c : Fin 8,bothS (bothS (a.val : Int) b.val 3) c.val 3 = bothS a.val (bothS b.val c.val 3) 3 /\ bothS (a.val : Int) b.val 3 = bothS b.val a.val 3 /\ bothS 7 (a.val : Int) 3 = a.val /\ bothS (a.val : Int) a.val 3 = a.val := by decide +kernel
theorem fin8 {a : Int} (h : 0 <= a /\ a <= 7) : ∃ x : Fin 8,(x.val : Int) = a := ⟨⟨a.toNat,by omega⟩,by show ((a.toNat : Nat) : Int) = a; omega⟩
theorem lboth_assoc {a b c : Int × Int} (ha : labB a = true) (hb : labB b = true) (hc : labB c = true) : lboth (lboth a b) c = lboth a (lboth b c) := by
 rw [lboth_ok (lboth_bd a b) hc,lboth_ok ha (lboth_bd b c),lboth_ok ha hb,lboth_ok hb hc]
 obtain ⟨a1,a2⟩ := a
 obtain ⟨b1,b2⟩ := b
 obtain ⟨c1,c2⟩ := c
 obtain ⟨x1,rfl⟩ := fin8 (labB_i.1 ha).1
 obtain ⟨x2,rfl⟩ := fin8 (labB_i.1 ha).2
 obtain ⟨y1,rfl⟩ := fin8 (labB_i.1 hb).1
 obtain ⟨y2,rfl⟩ := fin8 (labB_i.1 hb).2
 obtain ⟨z1,rfl⟩ := fin8 (labB_i.1 hc).1
 obtain ⟨z2,rfl⟩ := fin8 (labB_i.1 hc).2
 simp only [(bothS_all x1 y1 z1).1,(bothS_all x2 y2 z2).1]
theorem lboth_comm {a b : Int × Int} (ha : labB a = true) (hb : labB b = true) : lboth a b = lboth b a := by
 rw [lboth_ok ha hb,lboth_ok hb ha]
 obtain ⟨a1,a2⟩ := a
 obtain ⟨b1,b2⟩ := b
 obtain ⟨x1,rfl⟩ := fin8 (labB_i.1 ha).1
 obtain ⟨x2,rfl⟩ := fin8 (labB_i.1 ha).2
 obtain ⟨y1,rfl⟩ := fin8 (labB_i.1 hb).1
 obtain ⟨y2,rfl⟩ := fin8 (labB_i.1 hb).2
 simp only [(bothS_all x1 y1 0).2.1,(bothS_all x2 y2 0).2.1]
theorem lboth_any {a : Int × Int} (ha : labB a = true) : lboth (7,7) a = a := by
 rw [lboth_ok rfl ha]
 obtain ⟨a1,a2⟩ := a
 obtain ⟨x1,rfl⟩ := fin8 (labB_i.1 ha).1
 obtain ⟨x2,rfl⟩ := fin8 (labB_i.1 ha).2
 simp only [(bothS_all x1 0 0).2.2.1,(bothS_all x2 0 0).2.2.1]
theorem lab_getD {ls : List (Int × Int)} (h : ls.all labB = true) (i : Nat) : labB (ls.getD i (0,0)) = true := by
 rw [List.getD_eq_getElem?_getD]
 cases hi : ls[i]? with
 | none => rfl
 | some a => exact List.all_eq_true.1 h a (List.mem_of_getElem? hi)
def srcL (ls : List (Int × Int)) (v : Int × Int × Int) (h : Int × Int) : Int × Int := (varsL v).foldl (fun o x => lboth o (ls.getD x.toNat (0,0))) h
theorem srcL_val {ls : List (Int × Int)} {v : Int × Int × Int} {h : Int × Int} (hl : ls.all labB = true) (hh : labB h = true) (hv : valB ls.length v = true) : srcL ls v h = lboth h (valL ls v) := by
 obtain ⟨k,a,b⟩ := v
 have la := lab_getD hl a.toNat
 have lb := lab_getD hl b.toNat
 have l7 : labB ((7,7) : Int × Int) = true := rfl
 unfold valB at hv
 simp only at hv
 unfold srcL valL varsL
 simp only
 by_cases k1 : k = 1
 ·subst k1
  show h = lboth h (7,7)
  rw [lboth_comm hh l7,lboth_any hh]
 rw [if_neg k1] at hv ⊢
 by_cases k2 : k = 2
 ·subst k2
  simp only [if_true,List.foldl_cons,List.foldl_nil]
  rw [if_neg (by omega),lboth_any la]
 rw [if_neg k2] at hv
 rw [if_neg k2]
 by_cases k3 : k = 3 \/ k = 4
 ·rw [if_pos k3,if_pos k3,lboth_any la]
  show lboth (lboth h _) _ = _
  rw [lboth_assoc hh la lb]
 ·rw [if_neg k3] at hv; cases hv
theorem srcL_lab {ls : List (Int × Int)} {v : Int × Int × Int} {h : Int × Int} (hh : labB h = true) : labB (srcL ls v h) = true := by
 unfold srcL
 induction varsL v generalizing h with
 | nil => exact hh
 | cons x l ih => exact ih (lboth_bd _ _)
def ISource (F : Nat -> Option IFn) (f : Nat) : Prop := ∀ (H : Heap) (lv sv tv ev : Value) (ls : List (Int × Int)) (k x a b c g : Int) (h : Int × Int),one sv = true -> one tv = true -> one ev = true -> RgI b -> RgI c -> SlR Co.p2 (vw 0 H) lv ls -> ls.all labB = true -> valB ls.length (a,b,c) = true -> labB h = true ->
 QC F f [.agg #[lv,sv],.agg #[.int .i64 k,.int .i64 x,.int .i64 a,.int .i64 b,.int .i64 c,.int .i64 g,tv,ev],.agg #[.int .i64 h.1,.int .i64 h.2]] H (.agg #[.int .i64 (srcL ls (a,b,c) h).1,.int .i64 (srcL ls (a,b,c) h).2])
theorem varsL_le (v : Int × Int × Int) : (varsL v).length <= 2 := by
 unfold varsL
 split
 ·simp
 ·split <;> simp
theorem gcJ {H : Heap} {v : Value} {l : List Int} (h : SlR Co.int (vw 0 H) v l) {i : Nat} (hi : i < l.length) : ∃ b o,v = .slice (some ⟨b,o,none⟩) l.length l.length /\ getCells H b (o + i) 1 = some [.int .i64 l[i]] := by
 obtain ⟨_,a,rfl,h2⟩ := h
 rcases h2 with h2 | ⟨b,o,rfl,h2⟩
 ·rw [h2] at hi; simp at hi
 ·obtain ⟨cs,h3,h4⟩ := h2 i hi
  have h5 := rng_gc h3
  rw [h4.1,show Co.int.w = 1 from rfl,Nat.mul_one] at h5
  exact ⟨b,o,rfl,h5⟩
theorem iSource_ok {F : Nat -> Option IFn} {f : Nat} (hf : F f = some c_iSource) (gv : F 80 = some c_vars) (gb : ILBoth F 79) : ISource F f := by
 intro H lv sv tv ev ls k x a b c g h osv otv oev rb rc r1 hlab hv hh
 obtain ⟨_,la,rfl,_⟩ := id r1
 refine QC.mk hf rfl ?_
 refine seq_reg ?_
 simp only [go_sem,binC,osv,otv,oev]
 refine wpc_gen fun H1 hH1 => ?_
 have hx1 : AgX [] H H1 := hH1 ▸ AgX.app [] _ _
 have hb3 : H1[H.length]? = some ⟨[.slice la ls.length ls.length,sv],0,0,false,true⟩ := hH1 ▸ get_new0 _ _
 have hb4 : H1[H.length + 1]? = some ⟨[.int .i64 k,.int .i64 x,.int .i64 a,.int .i64 b,.int .i64 c,.int .i64 g,tv,ev],0,0,false,true⟩ := hH1 ▸ get_new _ _ 1
 have hb5 : H1[H.length + 2]? = some ⟨[.int .i64 h.1,.int .i64 h.2],0,0,false,true⟩ := hH1 ▸ get_new _ _ 2
 have hb6 : H1[H.length + 3]? = some ⟨[.int .i64 0,.int .i64 0],0,0,false,true⟩ := hH1 ▸ get_new _ _ 3
 clear hH1
 refine seq_assoc (seq_reg ?_)
 simp only [go_sem,binC,gc_of hb4,inBlk_some]
 obtain ⟨vw_,L,k2,hvs⟩ := vars_okV gv H1 a b c rb rc
 refine op_callK (by simp only [go_sem,binC]; exact k2) ?_
 have hvl := varsL_le (a,b,c)
 have hvi := varsL_in hv
 generalize hvL : varsL (a,b,c) = vs at *
 obtain ⟨_,va,rfl,_⟩ := id hvs
 generalize hHb : H1 ++ L = Hb at *
 have hx2 : AgX [] H1 Hb := hHb ▸ AgX.app [] _ _
 clear hHb k2
 simp only [go_sem,binC]
 have hb32 := hx2.get hb3 (by simp)
 have hb52 := hx2.get hb5 (by simp)
 have hb62 := hx2.get hb6 (by simp)
 have hx02 := hx1.tr hx2
 have hbl5 := (List.getElem?_eq_some_iff.1 hb52).1
 have hb6l1 := (List.getElem?_eq_some_iff.1 hb6).1
 refine seq_block (wpc_loop ?_)
 suffices hl : ∀ (m i : Nat) (e : Env) (Hc : Heap) (o : Int × Int),i + m = vs.length -> AgX [H.length + 2] Hb Hc -> Hc[H.length + 2]? = some ⟨[.int .i64 o.1,.int .i64 o.2],0,0,false,true⟩ -> labB o = true -> o = (vs.take i).foldl (fun o x => lboth o (ls.getD x.toNat (0,0))) h -> e 3 = ptr H.length 0 -> e 5 = ptr (H.length + 2) 0 -> e 6 = ptr (H.length + 3) 0 -> e 11 = .slice va vs.length vs.length -> e 12 = .int .i64 vs.length -> e 13 = .int .i64 i -> W F H.length _ e Hc _ from
  hl vs.length 0 _ Hb h (by omega) (AgX.refl _ _) hb52 hh rfl (by simp only [go_sem,binC]) (by simp only [go_sem,binC]) (by simp only [go_sem,binC]) (by simp only [go_sem,binC]) (by simp only [go_sem,binC]) (by (simp only [go_sem,binC]) <;> rfl)
 intro m
 induction m with
 | zero =>
   intro i e Hc o hi hxc hbo ho hof e3 e5 e6 e11 e12 e13
   have hb6c := hxc.get hb62 (by simp)
   have hb6l := (List.getElem?_eq_some_iff.1 hb6c).1
   refine lp_step ?_
   refine seq_reg ?_
   simp only [go_sem,binC,e12,e13]
   refine seq_cond (t := false) (by simp only [go_sem,binC]; rw [decide_eq_false (by omega)]) ?_
   simp only [go_sem,binC]
   refine seq_exit ?_
   simp only [go_sem,binC,thenX_e,out_e,thenX_n]
   refine seq_reg ?_
   simp only [go_sem,binC,e5,e6,gc_of hbo,inBlk_some,hb6c]
   rw [List.take_of_length_le (by omega)] at hof
   refine wpc_ret ⟨Or.inr rfl,.agg #[.int .i64 o.1,.int .i64 o.2],?_,?_,rfl⟩
   ·simp [resV,resL,res1,putE_get,e6,ptr,gc_set hb6l,inBlk_some,valOf]
   ·have : o = srcL ls (a,b,c) h := by rw [hof]; unfold srcL; rw [hvL]
    rw [this]
 | succ m ih =>
   intro i e Hc o hi hxc hbo ho hof e3 e5 e6 e11 e12 e13
   have hil : i < vs.length := by omega
   have hw1 : IntKind.i64.wrap ((i : Int) + 1) = ((i + 1 : Nat) : Int) := by rw [wrap_id (by omega) (by omega)]; omega
   have hvx := hvi _ (List.getElem_mem hil)
   have hbol := (List.getElem?_eq_some_iff.1 hbo).1
   have hSc : Sub (vw 0 H) (vw 0 Hc) := agx_sub (hx02.trans hxc (fun _ h _ => h) (fun b' h1 h2 => by simp only [List.mem_singleton] at h1; omega) : AgX [] H Hc)
   have hb3c := hxc.get hb32 (by simp)
   obtain ⟨lb,lo',hlvE,hga,rr1,rr2⟩ := lab_at (r1.mono hSc) (H := Hc) (fun _ _ h => h) hvx.1 hvx.2
   simp only [Value.slice.injEq,and_true] at hlvE
   subst hlvE
   have hga0 := hga []
   rw [List.append_nil] at hga0
   have hlx := lab_getD hlab vs[i].toNat
   obtain ⟨b9,o9,hv9,hg9⟩ := gcJ ((hvs.mono (vwl_sub hxc (Nat.le_refl _) (xs' := []) fun b' h1 h2 _ => ⟨by simp; omega,by simp⟩)).mono (vwl0 _ _ _)) hil
   simp only [Value.slice.injEq,and_true] at hv9
   subst hv9
   refine lp_step ?_
   refine seq_reg ?_
   simp only [go_sem,binC,e12,e13]
   refine seq_cond (t := true) (by simp only [go_sem,binC]; rw [decide_eq_true (by omega)]) ?_
   simp only [go_sem,binC]
   refine seq_skip (seq_block (seq_reg ?_))
   simp only [go_sem,binC,e11,e13]
   refine ⟨⟨by omega,by omega⟩,?_⟩
   simp only [go_sem,binC,Int.toNat_natCast,Nat.mul_one,hg9]
   refine wpc_regD ?_
   simp only [go_sem,binC,e3,e5,gc_of hbo,gc_of hb3c,inBlk_some]
   refine ⟨⟨by omega,by omega⟩,?_⟩
   simp only [go_sem,binC,hga0]
   refine op_callQ (by simp only [go_sem,binC]; exact gb Hc o _ ho hlx) ?_
   simp only [go_sem,binC,e5,hbo]
   simp only [go_sem,binC,out_n,thenX_n]
   refine wpc_reg ?_
   simp only [go_sem,binC,e13,hw1]
   simp only [go_sem,binC,thenX_n]
   refine ih (i + 1) _ _ (lboth o (ls.getD vs[i].toNat (0,0))) (by omega) (hxc.trans (AgX.set _ _ _) (fun _ h _ => h) (fun _ h _ => h)) (List.getElem?_set_self hbol) (lboth_bd _ _) ?_ (by simp only [go_sem,binC,e3]) (by simp only [go_sem,binC,e5]) (by simp only [go_sem,binC,e6]) (by simp only [go_sem,binC,e11]) (by simp only [go_sem,binC,e12]) (by simp only [go_sem,binC])
   rw [List.take_add_one,List.getElem?_eq_getElem hil,List.foldl_append,<- hof]
   rfl
end Go.Proofs.YtbjeldblaclpnaaGreatI
end
section
set_option linter.unusedVariables false
set_option linter.unusedSimpArgs false
namespace Go.Proofs.YtbjeldblaclpnaaGreatI
open Go Go.RowKit
def c_iAll : IFn := ⟨1,28,[.t 2],
 .seq (.reg none [⟨some 2,none,.mov (.c (.slice none 0 0))⟩])
 (.seq (.reg none [⟨some 3,none,.mov (.c (.slice none 0 0))⟩])
 (.seq (.seq (.reg none [⟨some 6,none,.mov (.t 0)⟩,⟨some 7,none,.len (.t 6)⟩,⟨some 8,none,.mov (.c (.int .i64 0))⟩])
  (.block 0 (.loop (.seq (.reg none [⟨some 9,none,.bin .lss (.t 8) (.t 7)⟩])
   (.seq (.cond (.t 9) (.skip) (.exit 0))
   (.seq (.block 1 (.seq (.reg none [⟨some 10,none,.iad 8 (.t 6) (.t 8)⟩,⟨some 11,none,.load true 8 (.t 10)⟩,
      ⟨some 5,none,.new [(.int .i64 0),(.int .i64 0),(.int .i64 0),(.int .i64 0),(.int .i64 0),(.int .i64 0),(.slice none 0 0),(.slice none 0 0)]⟩,
      ⟨none,none,.store 8 (.t 5) (.t 11)⟩])
    (.seq (.reg none [⟨some 12,none,.mov (.t 3)⟩,⟨some 13,none,.load true 8 (.t 5)⟩,
      ⟨some 14,none,.lit 8 54 1 [(.int .i64 0),(.int .i64 0),(.int .i64 0),(.int .i64 0),(.int .i64 0),(.int .i64 0),(.slice none 0 0),(.slice none 0 0)] [(0,8,(.t 13))]⟩,
      ⟨some 15,none,.app 8 54 96 false (.t 12) (.t 14)⟩,⟨some 3,none,.mov (.t 15)⟩])
    (.seq (.reg none [⟨some 16,none,.mov (.t 3)⟩,⟨some 17,none,.fad 6 (.t 5)⟩,⟨some 18,none,.load false 1 (.t 17)⟩,⟨some 19,none,.call .k (.f 22) [.t 18]⟩,
      ⟨some 20,none,.app 8 54 96 false (.t 16) (.t 19)⟩,⟨some 3,none,.mov (.t 20)⟩])
    (.reg none [⟨some 21,none,.mov (.t 3)⟩,⟨some 22,none,.fad 7 (.t 5)⟩,⟨some 23,none,.load false 1 (.t 22)⟩,⟨some 24,none,.call .k (.f 22) [.t 23]⟩,
     ⟨some 25,none,.app 8 54 96 false (.t 21) (.t 24)⟩,⟨some 3,none,.mov (.t 25)⟩])))))
   (.reg none [⟨some 26,none,.bin .add (.t 8) (.c (.int .i64 1))⟩,⟨some 8,none,.mov (.t 26)⟩])))))))
 (.seq (.reg none [⟨some 27,none,.mov (.t 3)⟩,⟨some 2,none,.mov (.t 27)⟩])
 (.ret))))⟩
theorem atL_len' : ∀ (n : Nat) (ls : List (Int × Int)) (h : Int × Int) (s : TStep n),(atT n ls h s).length = (allT n s).length
 | 0,_,_,s => s.elim
 | n + 1,ls,h,(k,x,v,g,th,el) => by
   have go : ∀ (h : Int × Int) (l : List (TStep n)),(atL n ls h l).length = (allL n l).length := fun h l => by
    unfold atL allL
    rw [List.length_flatten,List.length_flatten,List.map_map,List.map_map]
    congr 1
    exact List.map_congr_left fun a _ => atL_len' n ls h a
   rw [atT_succ,allT_succ,List.length_cons,List.length_cons,List.length_append,List.length_append,go,go]
theorem atL_len {n : Nat} (ls : List (Int × Int)) (h : Int × Int) (l : List (TStep n)) : (atL n ls h l).length = (allL n l).length := by
 unfold atL allL
 rw [List.length_flatten,List.length_flatten,List.map_map,List.map_map]
 congr 1
 exact List.map_congr_left fun a _ => atL_len' n ls h a
theorem varB_i {k : Nat} {x : Int} : varB k x = true ↔ 0 <= x /\ x < k := by
 unfold varB
 rw [inB_iff]
 omega
theorem step_atW {n : Nat} {V : Vw} {v : Value} {l : List (TStep (n + 1))} (h : SlR (Co.step (n + 1)) V v l) {i : Nat} (hi : i < l.length) : ∃ (b o : Nat) (k x a bb c g : Int) (tv ev : Value) (tl el : List (TStep n)),v = .slice (some ⟨b,o,none⟩) l.length l.length /\ l[i] = (k,x,(a,bb,c),g,tl,el) /\
  (RgI k /\ RgI x /\ RgI a /\ RgI bb /\ RgI c /\ RgI g) /\ one tv = true /\ one ev = true /\ (∀ H',Sub V (vw 0 H') -> getCells H' b (o + i * 8) 8 = some [.int .i64 k,.int .i64 x,.int .i64 a,.int .i64 bb,.int .i64 c,.int .i64 g,tv,ev]) /\ SlR (Co.step n) V tv tl /\ SlR (Co.step n) V ev el := by
 obtain ⟨_,a,rfl,h2⟩ := h
 obtain ⟨b,o,rfl,h3⟩ := h2.resolve_left (fun h => by rw [h] at hi; simp at hi)
 obtain ⟨cs,h4,h5⟩ := h3 i hi
 generalize hs : l[i] = s at h5
 obtain ⟨k,x,⟨a,bb,c⟩,g,tl,el⟩ := s
 obtain ⟨_,_,rfl,⟨rfl,r1⟩,_,_,rfl,⟨rfl,r2⟩,_,_,rfl,⟨_,_,rfl,⟨rfl,r3⟩,_,_,rfl,⟨rfl,r4⟩,⟨rfl,r5⟩⟩,_,_,rfl,⟨rfl,r6⟩,_,_,rfl,⟨tv,rfl,h6⟩,⟨ev,rfl,h7⟩⟩ := h5
 have o6 : Go.Proofs.YtbjeldblaclpnaaGreatI.one tv = true := by obtain ⟨_,_,rfl,_⟩ := h6; rfl
 have o7 : Go.Proofs.YtbjeldblaclpnaaGreatI.one ev = true := by obtain ⟨_,_,rfl,_⟩ := h7; rfl
 exact ⟨b,o,k,x,a,bb,c,g,tv,ev,tl,el,rfl,rfl,⟨r1,r2,r3,r4,r5,r6⟩,o6,o7,fun H' hs => rng_gc (rng_sub hs h4),h6,h7⟩
def AtI (F : Nat -> Option IFn) (f n : Nat) : Prop := ∀ (V : Vw) (H : Heap) (lo lo1 : Nat) (lv sv v w : Value) (ls : List (Int × Int)) (l : List (TStep n)) (here : Int × Int) (out : List (Int × Int)),Sub V (vwl 0 (blkOf w) H) -> lo <= lo1 -> lo1 <= H.length -> one sv = true -> SlR Co.p2 V lv ls -> SlR (Co.step n) V v l -> LsV V Co.p2 2 57 lo1 H w out -> (∀ s ∈ allL n l,varB ls.length s.2.1 = true) -> ls.all labB = true -> labB here = true -> out.length + (allL n l).length <= 1000 ->
 ∃ w' H',NC F lo f [.agg #[lv,sv],v,.agg #[.int .i64 here.1,.int .i64 here.2],w] H w' H' /\ (AgX (blkOf w) H H' /\ BlkN H w w' /\ LsV V Co.p2 2 57 lo1 H' w' (out ++ atL n ls here l))
theorem sub_keep {V : Vw} {H H' : Heap} {w w' : Value} (h : Sub V (vwl 0 (blkOf w) H)) (hx : AgX (blkOf w) H H') (hn : BlkN H w w') : Sub V (vwl 0 (blkOf w') H') := by
 intro b cs hb
 have h1 := h b cs hb
 unfold vwl at h1 ⊢
 split at h1
 ·rename_i h2
  cases hk : H[b]? with
  | none => rw [hk] at h1; cases h1
  | some k =>
    have hl := (List.getElem?_eq_some_iff.1 hk).1
    rw [if_pos ⟨Nat.zero_le _,fun hm => by rcases hn b hm with h3 | h3; exact h2.2 h3; omega⟩,hx.2 b hl h2.2]
    exact h1
 ·cases h1
theorem sub_vw {V : Vw} {H : Heap} {xs : List Nat} (h : Sub V (vwl 0 xs H)) : Sub V (vw 0 H) := h.trans (vwl0 _ _ _)
theorem blkN_refl (H : Heap) (v : Value) : BlkN H v v := fun _ h => .inl h
theorem agx_app_w {H : Heap} (w : Value) (L : Heap) : AgX (blkOf w) H (H ++ L) := AgX.app _ _ _
theorem iLabels_ok {F : Nat -> Option IFn} {f n : Nat} (hf : F f = some c_iLabels) (gb : ILBoth F 79) (ih : ∀ m,n = m + 1 -> AtI F 51 m) : AtI F f n := by
 intro V H lo lo1 lv sv v w0 ls l here out0 hV hlo hlo1 hsv hlv hv ho0 hvar hlab hhere hcnt
 obtain ⟨_,la,rfl,_⟩ := id hlv
 have hv0 := hv
 obtain ⟨h0,av,rfl,hv1⟩ := hv
 suffices h : ∃ w' H',NC F lo f [.agg #[.slice la ls.length ls.length,sv],.slice av l.length l.length,.agg #[.int .i64 here.1,.int .i64 here.2],w0] H w' H' /\ (AgX (blkOf w0) H H' /\ BlkN H w0 w' /\ LsV V Co.p2 2 57 lo1 H' w' (out0 ++ atL n ls here l)) from h
 refine NC.mk hf rfl ?_
 refine seq_reg ?_
 simp only [go_sem,binC,hsv]
 refine wpc_gen fun Hb hHb => ?_
 have ht0 : AgX (blkOf w0) H Hb := hHb ▸ agx_app_w _ _
 have hp0 : Hb[H.length]? = some ⟨[.slice la ls.length ls.length,sv],0,0,false,true⟩ := hHb ▸ get_new0 _ _
 have hh0 : Hb[H.length + 1]? = some ⟨[.int .i64 here.1,.int .i64 here.2],0,0,false,true⟩ := hHb ▸ get_new _ _ 1
 have hob : LsV V Co.p2 2 57 lo1 Hb w0 out0 := hHb ▸ ho0.keep (Nat.le_refl _) (AgX.app [] H _) (fun _ _ => by simp)
 clear hHb
 refine seq_assoc (seq_reg ?_)
 simp only [go_sem,binC]
 refine seq_block (wpc_loop ?_)
 suffices h : ∀ (k i : Nat) (e : Env) (Hc : Heap) (w : Value),i + k = l.length -> AgX (blkOf w0) H Hc -> BlkN H w0 w -> LsV V Co.p2 2 57 lo1 Hc w (out0 ++ atL n ls here (l.take i)) -> Hc[H.length]? = some ⟨[.slice la ls.length ls.length,sv],0,0,false,true⟩ -> Hc[H.length + 1]? = some ⟨[.int .i64 here.1,.int .i64 here.2],0,0,false,true⟩ ->
   e 3 = w -> e 4 = ptr H.length 0 -> e 6 = ptr (H.length + 1) 0 -> e 12 = .slice av l.length l.length -> e 13 = .int .i64 l.length -> e 14 = .int .i64 i -> W F lo _ e Hc _ from
  h l.length 0 _ Hb w0 (by omega) ht0 (blkN_refl _ _) (by simpa [atL] using hob) hp0 hh0 (by simp only [go_sem,binC]) (by simp only [go_sem,binC]) (by simp only [go_sem,binC]) (by simp only [go_sem,binC]) (by simp only [go_sem,binC]) (by (simp only [go_sem,binC]) <;> rfl)
 intro k
 induction k with
 | zero =>
   intro i e Hc w hi ht hbn ho hp hh e3 e4 e6 e12 e13 e14
   refine lp_step ?_
   refine seq_reg ?_
   simp only [go_sem,binC,e13,e14]
   refine seq_cond (t := false) (by simp only [go_sem,binC]; rw [decide_eq_false (by omega)]) ?_
   simp only [go_sem,binC]
   refine seq_exit ?_
   simp only [go_sem,binC,thenX_e,out_e,thenX_n]
   refine seq_reg ?_
   simp only [go_sem,binC,e3]
   rw [List.take_of_length_le (by omega)] at ho
   exact wpc_ret ⟨Or.inr rfl,_,(by (simp only [go_sem,binC]) <;> rfl),ht,hbn,ho⟩
 | succ k ihk =>
   intro i e Hc w hi ht hbn ho hp hh e3 e4 e6 e12 e13 e14
   have hil : i < l.length := by omega
   cases n with
   | zero => exact (l[i]).elim
   | succ n =>
   have hw1 : IntKind.i64.wrap ((i : Int) + 1) = ((i + 1 : Nat) : Int) := by rw [wrap_id (by omega) (by omega)]; omega
   obtain ⟨vb,vo,sk,sx,sa,sbb,sc,sg,tv,ev,tl,el,hav,hs,rg,otv,oev,hgc,htl,hel⟩ := step_atW hv0 hil
   simp only [Value.slice.injEq,and_true] at hav
   subst hav
   have htake := allL_take l i hil
   rw [hs,allT_succ] at htake
   have hle := allL_take_le l (i + 1)
   rw [htake,List.length_append,List.length_cons,List.length_append] at hle
   have hmem : ∀ s,s ∈ allT (n + 1) l[i] -> varB ls.length s.2.1 = true := fun s hs' => hvar s (mem_allL hil hs')
   rw [hs,allT_succ] at hmem
   have hvx := varB_i.1 (hmem _ (List.mem_cons_self))
   simp only at hvx
   have hatl : (atL (n + 1) ls here (l.take i)).length = (allL (n + 1) (l.take i)).length := atL_len _ _ _
   have hVc : ∀ {H' : Heap} {w' : Value},AgX (blkOf w0) H H' -> BlkN H w0 w' -> Sub V (vwl 0 (blkOf w') H') := fun h1 h2 => sub_keep hV h1 h2
   have hlx := lab_getD hlab sx.toNat
   have hgl : ∀ {H' : Heap},AgX (blkOf w0) H H' -> ∃ lb lo',la = some ⟨lb,lo',none⟩ /\ getCells H' lb (lo' + sx.toNat * 2) 2 = some [.int .i64 (ls.getD sx.toNat (0,0)).1,.int .i64 (ls.getD sx.toNat (0,0)).2] := by
    intro H' hx
    obtain ⟨b2,o2,h1,h2,_⟩ := lab_at hlv (H := H') (sub_vw (hVc hx (blkN_refl _ _))) hvx.1 hvx.2
    simp only [Value.slice.injEq,and_true] at h1
    have := h2 []
    rw [List.append_nil] at this
    exact ⟨b2,o2,h1,this⟩
   have hgp : ∀ {H' : Heap} (_ : AgX (blkOf w0) H H') (off kk : Nat),off + kk <= 8 -> getCells H' vb (vo + i * 8 + off) kk = some (([.int .i64 sk,.int .i64 sx,.int .i64 sa,.int .i64 sbb,.int .i64 sc,.int .i64 sg,tv,ev].drop off).take kk) := fun hs off kk h => gc_part (hgc _ (sub_vw (hVc hs (blkN_refl _ _)))) h
   have htl0 := ht.1
   refine lp_step ?_
   refine seq_reg ?_
   simp only [go_sem,binC,e13,e14]
   refine seq_cond (t := true) (by simp only [go_sem,binC]; rw [decide_eq_true (by omega)]) ?_
   simp only [go_sem,binC]
   refine seq_skip (seq_block ?_)
   refine seq_reg ?_
   have hg8 := hgc _ (sub_vw (hVc ht (blkN_refl _ _)))
   simp only [go_sem,binC,e12,e14]
   refine ⟨⟨by omega,by omega⟩,?_⟩
   simp only [go_sem,binC,Int.toNat_natCast,hg8,otv,oev]
   refine ⟨by omega,?_⟩
   refine wpc_gen fun H1 hH1 => ?_
   have hx1 : AgX (blkOf w) Hc H1 := hH1 ▸ agx_app_w _ _
   have ht1 : AgX (blkOf w0) H H1 := hH1 ▸ ht.trans (AgX.app [] _ _) (fun _ h _ => h) (fun _ h _ => by cases h)
   have hs1 : H1[Hc.length]? = some ⟨[.int .i64 sk,.int .i64 sx,.int .i64 sa,.int .i64 sbb,.int .i64 sc,.int .i64 sg,tv,ev],0,0,false,true⟩ := hH1 ▸ get_new0 _ _
   have hxn1 : AgX [] Hc H1 := hH1 ▸ AgX.app [] _ _
   have hl1 : H1.length = Hc.length + 1 := by rw [hH1,List.length_append]; rfl
   clear hH1
   have ho1 := ho.keep (Nat.le_refl _) hxn1 (fun _ _ => by simp)
   have hp1 := hxn1.get hp (by simp)
   have hh1 := hxn1.get hh (by simp)
   refine seq_reg ?_
   simp only [go_sem,binC,e3,e6,gc_of hh1,inBlk_some]
   refine op_app_ls1 (a := here) ho1 (by simp only [go_sem,binC,e3]) (by (simp only [go_sem,binC]) <;> rfl) rfl ⟨[.int .i64 here.1],[.int .i64 here.2],rfl,⟨rfl,(labB_rg hhere).1⟩,⟨rfl,(labB_rg hhere).2⟩⟩ hlo (by omega) (by rw [List.length_append,hatl]; omega) (by omega) fun H2 w2 hx2 _ hn2 ho2 => ?_
   simp only [go_sem,binC]
   have hbnX : ∀ {Hx : Heap} {wa wb : Value},BlkN H w0 wa -> H.length <= Hx.length -> BlkN Hx wa wb -> BlkN H w0 wb := fun h1 h2 h3 b hb => by
    rcases h3 b hb with h | h
    ·exact h1 b h
    ·exact .inr (by omega)
   have htX : ∀ {Hx Hy : Heap} {wa : Value},AgX (blkOf w0) H Hx -> BlkN H w0 wa -> AgX (blkOf wa) Hx Hy -> AgX (blkOf w0) H Hy := fun h1 h2 h3 => h1.trans h3 (fun _ h _ => h) (fun b hb hl => by
    rcases h2 b hb with h | h
    ·exact h
    ·omega)
   have hbn2 : BlkN H w0 w2 := hbnX hbn (by omega) hn2
   have ht2 : AgX (blkOf w0) H H2 := htX ht1 hbn hx2
   have hp2 := hx2.get hp1 (ho1.nbox hp1)
   have hh2 := hx2.get hh1 (ho1.nbox hh1)
   have hs2 := hx2.get hs1 (ho1.nbox hs1)
   have hx2l := hx2.1
   refine seq_regD ?_
   obtain ⟨lb,lo',hla,hgl2⟩ := hgl ht2
   subst hla
   simp only [go_sem,binC,e4,e6,gc_of hp2,gc_of hh2,gc_of hs2,inBlk_some]
   refine ⟨⟨by omega,by omega⟩,?_⟩
   simp only [go_sem,binC,hgl2]
   refine op_callQ (by simp only [go_sem,binC]; exact gb H2 here _ hhere hlx) ?_
   simp only [go_sem,binC]
   refine ⟨by omega,?_⟩
   have hin := lboth_bd here (ls.getD sx.toNat (0,0))
   refine wpc_gen fun H3 hH3 => ?_
   have hxn3 : AgX [] H2 H3 := hH3 ▸ AgX.app [] _ _
   have hin3 : H3[H2.length]? = some ⟨[.int .i64 (lboth here (ls.getD sx.toNat (0,0))).1,.int .i64 (lboth here (ls.getD sx.toNat (0,0))).2],0,0,false,true⟩ := hH3 ▸ get_new0 _ _
   have hl3 : H3.length = H2.length + 1 := by rw [hH3,List.length_append]; rfl
   clear hH3
   have ht3 : AgX (blkOf w0) H H3 := ht2.trans hxn3 (fun _ h _ => h) (fun _ h _ => by cases h)
   have ho3 := ho2.keep (Nat.le_refl _) hxn3 (fun _ _ => by simp)
   have hp3 := hxn3.get hp2 (by simp)
   have hh3 := hxn3.get hh2 (by simp)
   have hs3 := hxn3.get hs2 (by simp)
   have hlen2 : (out0 ++ atL (n + 1) ls here (l.take i) ++ [here]).length = out0.length + (allL (n + 1) (l.take i)).length + 1 := by rw [List.length_append,List.length_append,hatl]; rfl
   refine seq_reg ?_
   simp only [go_sem,binC,e4,gc_of hp3,gc_of hs3,gc_of hin3,inBlk_some,hsv,otv]
   obtain ⟨w4,H4,k4,hx4,hn4,ho4⟩ := ih n rfl V H3 lo lo1 _ sv tv w2 ls tl (lboth here (ls.getD sx.toNat (0,0))) _ (hVc ht3 hbn2) hlo (by omega) hsv hlv htl ho3 (fun s hs' => hmem s (List.mem_cons_of_mem _ (List.mem_append_left _ hs'))) hlab hin (by omega)
   refine op_callN (by simp only [go_sem,binC]; exact k4) ?_
   simp only [go_sem,binC]
   have hbn4 : BlkN H w0 w4 := hbnX hbn2 (by omega) hn4
   have ht4 : AgX (blkOf w0) H H4 := htX ht3 hbn2 hx4
   have hp4 := hx4.get hp3 (ho3.nbox hp3)
   have hh4 := hx4.get hh3 (ho3.nbox hh3)
   have hs4 := hx4.get hs3 (ho3.nbox hs3)
   have hin4 := hx4.get hin3 (ho3.nbox hin3)
   have hx4l := hx4.1
   have hlen4 : (out0 ++ atL (n + 1) ls here (l.take i) ++ [here] ++ atL n ls (lboth here (ls.getD sx.toNat (0,0))) tl).length = out0.length + (allL (n + 1) (l.take i)).length + 1 + (allL n tl).length := by rw [List.length_append,hlen2,atL_len]
   refine wpc_reg ?_
   simp only [go_sem,binC,e4,gc_of hp4,gc_of hs4,gc_of hin4,inBlk_some,hsv,oev]
   obtain ⟨w5,H5,k5,hx5,hn5,ho5⟩ := ih n rfl V H4 lo lo1 _ sv ev w4 ls el (lboth here (ls.getD sx.toNat (0,0))) _ (hVc ht4 hbn4) hlo (by omega) hsv hlv hel ho4 (fun s hs' => hmem s (List.mem_cons_of_mem _ (List.mem_append_right _ hs'))) hlab hin (by omega)
   refine op_callN (by simp only [go_sem,binC]; exact k5) ?_
   simp only [go_sem,binC,out_n,thenX_n]
   have hbn5 : BlkN H w0 w5 := hbnX hbn4 (by omega) hn5
   have ht5 : AgX (blkOf w0) H H5 := htX ht4 hbn4 hx5
   have hp5 := hx5.get hp4 (ho4.nbox hp4)
   have hh5 := hx5.get hh4 (ho4.nbox hh4)
   refine wpc_reg ?_
   simp only [go_sem,binC,e14,hw1]
   simp only [go_sem,binC,thenX_n]
   refine ihk (i + 1) _ H5 w5 (by omega) ht5 hbn5 ?_ hp5 hh5 (by simp only [go_sem,binC]) (by simp only [go_sem,binC,e4]) (by simp only [go_sem,binC,e6]) (by simp only [go_sem,binC,e12]) (by simp only [go_sem,binC,e13]) (by simp only [go_sem,binC])
   rw [atL_take ls here l i hil,hs,atT_succ]
   simpa only [List.append_assoc,List.cons_append,List.nil_append] using ho5
theorem iLabels_all {F : Nat -> Option IFn} (hf : F 51 = some c_iLabels) (gb : ILBoth F 79) : ∀ n,AtI F 51 n
 | 0 => iLabels_ok hf gb fun m h => by omega
 | n + 1 => iLabels_ok hf gb fun m h => by cases h; exact iLabels_all hf gb n
def AtP (F : Nat -> Option IFn) (f : Nat) : Prop := ∀ (H : Heap) (n : Nat) (lv sv : Value) (ls : List (Int × Int)) (l : List (TStep n)),SlR Co.p2 (vw 0 H) lv ls -> SlR (Co.step n) (vw 0 H) sv l -> (Co.prog n).sm (ls,l) -> progB n (ls,l) = true ->
 ∃ w H',KC F f [.agg #[lv,sv]] H w H' /\ (AgX [] H H' /\ LsV (vw 0 H) Co.p2 2 57 H.length H' w (atL n ls (7,7) l))
theorem iAt_ok {F : Nat -> Option IFn} {f : Nat} (hf : F f = some c_iAt) (gl : ∀ n,AtI F 51 n) (ge : ∀ H,QC F 52 [] H (.agg #[.int .i64 7,.int .i64 7])) : AtP F f := by
 intro H n lv sv ls l r1 r2 hsm hP
 have osv : one sv = true := by obtain ⟨_,a,rfl,_⟩ := r2; rfl
 obtain ⟨_,la,rfl,_⟩ := id r1
 have hcnt := progB_cnt hP hsm
 simp only at hcnt
 refine KC.mk hf rfl ?_
 refine seq_reg ?_
 simp only [go_sem,binC,osv]
 refine wpc_gen fun H1 hH1 => ?_
 have hx1 : AgX [] H H1 := hH1 ▸ AgX.app [] _ _
 have hb : H1[H.length]? = some ⟨[.slice la ls.length ls.length,sv],0,0,false,true⟩ := hH1 ▸ get_new0 _ _
 clear hH1
 refine seq_regD ?_
 simp only [go_sem,binC,gc_of hb,inBlk_some,osv]
 refine op_callQ (by simp only [go_sem,binC]; exact ge H1) ?_
 simp only [go_sem,binC]
 obtain ⟨w,H2,k2,hx2,hn2,ho2⟩ := gl n (vw 0 H) H1 H.length H.length _ sv sv nilS ls l (7,7) [] (fun b cs hb => by
  have := agx_sub hx1 b cs hb
  unfold vw at this
  unfold vwl
  simpa [blkOf,nilS] using this) (Nat.le_refl _) hx1.1 osv r1 r2 LsV.nil (fun s hs => by
   have := progB_sh hP s hs
   simp only [shB,Bool.and_eq_true] at this
   exact this.1) (progB_lab hP) rfl (by simp; omega)
 refine op_callN (by simp only [go_sem,binC]; exact k2) ?_
 simp only [go_sem,binC]
 exact wpc_ret ⟨Or.inr rfl,_,(by (simp only [go_sem,binC]) <;> rfl),hx1.trans hx2 (fun _ h _ => h) (fun b h _ => by simp [blkOf,nilS] at h),by simpa using ho2⟩
end Go.Proofs.YtbjeldblaclpnaaGreatI
end
section
set_option linter.unusedVariables false
set_option linter.unusedSimpArgs false
namespace Go.Proofs.YtbjeldblaclpnaaGreatI
open Go Go.RowKit
def c_iWhy0 : IFn := ⟨1,61,[.t 2,.t 3],
 .seq (.reg none [⟨some 1,none,.box (.t 0)⟩,⟨some 2,none,.mov (.c (.int .i64 0))⟩,⟨some 3,none,.mov (.c (.bool false))⟩])
 (.seq (.reg none [⟨some 8,none,.load true 2 (.t 1)⟩,⟨some 9,none,.call .k (.f 21) [.t 8]⟩,⟨some 4,none,.mov (.t 9)⟩])
 (.seq (.seq (.reg none [⟨some 10,none,.fad 1 (.t 1)⟩,⟨some 11,none,.load false 1 (.t 10)⟩,⟨some 12,none,.call .k (.f 22) [.t 11]⟩,⟨some 13,none,.len (.t 12)⟩,
   ⟨some 14,none,.mov (.c (.int .i64 0))⟩])
  (.block 0 (.loop (.seq (.reg none [⟨some 15,none,.bin .lss (.t 14) (.t 13)⟩])
   (.seq (.cond (.t 15) (.skip) (.exit 0))
   (.seq (.block 1 (.seq (.reg none [⟨some 16,none,.mov (.t 14)⟩,⟨some 17,none,.iad 8 (.t 12) (.t 14)⟩,⟨some 18,none,.load true 8 (.t 17)⟩,
      ⟨some 6,none,.new [(.int .i64 0),(.int .i64 0),(.int .i64 0),(.int .i64 0),(.int .i64 0),(.int .i64 0),(.slice none 0 0),(.slice none 0 0)]⟩,
      ⟨some 5,none,.mov (.t 16)⟩,⟨none,none,.store 8 (.t 6) (.t 18)⟩])
    (.seq (.reg none [⟨some 19,none,.fad 0 (.t 1)⟩,⟨some 20,none,.load false 1 (.t 19)⟩,⟨some 21,none,.fad 1 (.t 6)⟩,⟨some 22,none,.load false 1 (.t 21)⟩,
      ⟨some 23,none,.iad 2 (.t 20) (.t 22)⟩,⟨some 24,none,.load true 2 (.t 23)⟩,⟨some 7,none,.new [(.int .i64 0),(.int .i64 0)]⟩,
      ⟨none,none,.store 2 (.t 7) (.t 24)⟩])
    (.seq (.reg none [⟨some 25,none,.fad 0 (.t 6)⟩,⟨some 26,none,.load false 1 (.t 25)⟩])
    (.block 2 (.seq (.reg none [⟨some 28,none,.bin .eql (.t 26) (.c (.int .i64 1))⟩,⟨some 27,none,.mov (.t 28)⟩])
     (.cond (.t 27) (.seq (.reg (some 8) [⟨some 29,none,.load true 2 (.t 1)⟩,⟨some 30,none,.load true 8 (.t 6)⟩,⟨some 31,none,.mov (.t 4)⟩,
       ⟨some 32,none,.mov (.t 5)⟩,⟨some 33,none,.iad 2 (.t 31) (.t 32)⟩,⟨some 34,none,.load true 2 (.t 33)⟩,
       ⟨some 35,none,.call .q (.f 76) [.t 29,.t 30,.t 34]⟩,⟨some 36,none,.load true 2 (.t 7)⟩,⟨some 37,none,.call .q (.f 77) [.t 35,.t 36]⟩,
       ⟨some 38,none,.un .not (.t 37)⟩])
      (.cond (.t 38) (.seq (.reg none [⟨some 39,none,.mov (.t 5)⟩,⟨some 2,none,.mov (.t 39)⟩,⟨some 3,none,.mov (.c (.bool true))⟩])
       (.ret)) (.skip))) (.seq (.reg none [⟨some 41,none,.bin .eql (.t 26) (.c (.int .i64 3))⟩,⟨some 40,none,.mov (.t 41)⟩])
      (.cond (.t 40) (.seq (.reg (some 14) [⟨some 42,none,.mov (.t 4)⟩,⟨some 43,none,.mov (.t 5)⟩,⟨some 44,none,.iad 2 (.t 42) (.t 43)⟩,
        ⟨some 45,none,.fad 0 (.t 44)⟩,⟨some 46,none,.load false 1 (.t 45)⟩,⟨some 47,none,.fad 5 (.t 6)⟩,⟨some 48,none,.load false 1 (.t 47)⟩,
        ⟨some 49,none,.call .q (.f 45) [.t 46,.t 48]⟩,⟨some 50,none,.un .not (.t 49)⟩,⟨some 51,none,.mov (.t 50)⟩,⟨some 52,some (51,false),.fad 0 (.t 7)⟩,
        ⟨some 53,some (51,false),.load false 1 (.t 52)⟩,⟨some 54,some (51,false),.fad 5 (.t 6)⟩,⟨some 55,some (51,false),.load false 1 (.t 54)⟩,
        ⟨some 56,some (51,false),.call .q (.f 45) [.t 53,.t 55]⟩,⟨some 57,some (51,false),.un .not (.t 56)⟩,
        ⟨some 58,none,.pick (.t 51) (.c (.bool true)) (.t 57)⟩])
       (.cond (.t 58) (.seq (.reg none [⟨some 59,none,.mov (.t 5)⟩,⟨some 2,none,.mov (.t 59)⟩,⟨some 3,none,.mov (.c (.bool true))⟩])
        (.ret)) (.skip))) (.skip))))))))))
   (.reg none [⟨some 60,none,.bin .add (.t 14) (.c (.int .i64 1))⟩,⟨some 14,none,.mov (.t 60)⟩])))))))
 (.seq (.reg none [⟨some 2,none,.mov (.c (.int .i64 0))⟩,⟨some 3,none,.mov (.c (.bool false))⟩])
 (.ret))))⟩
def c_iTypeOk : IFn := ⟨1,15,[.t 2],
 .seq (.reg none [⟨some 1,none,.box (.t 0)⟩,⟨some 2,none,.mov (.c (.bool false))⟩])
 (.seq (.seq (.reg none [⟨some 5,none,.load true 2 (.t 1)⟩,⟨some 6,none,.call .q (.f 38) [.t 5]⟩,⟨some 7,none,.un .not (.t 6)⟩])
  (.cond (.t 7) (.seq (.reg none [⟨some 2,none,.mov (.c (.bool false))⟩])
   (.ret)) (.skip)))
 (.seq (.reg none [⟨some 9,none,.load true 2 (.t 1)⟩,⟨some 10,none,.call .q (.f 44) [.t 9]⟩,⟨some 8,none,.mov (.t 10)⟩,⟨some 11,none,.ext (.t 8) 0⟩,
   ⟨some 12,none,.ext (.t 8) 1⟩,⟨some 3,none,.mov (.t 11)⟩,⟨some 4,none,.mov (.t 12)⟩])
 (.seq (.reg none [⟨some 13,none,.mov (.t 4)⟩,⟨some 14,none,.un .not (.t 13)⟩,⟨some 2,none,.mov (.t 14)⟩])
 (.ret))))⟩
def AnyS : Type := Σ n : Nat,TStep (n + 1)
def Co.anyS : Co AnyS := ⟨8,fun V cs s => (Co.step (s.1 + 1)).rd V cs s.2,fun s => (Co.step (s.1 + 1)).sm s.2,fun h h' => (Co.step _).mono h h',fun h => by rw [(Co.step _).len h,step_w],fun h => (Co.step _).ones h⟩
def mkA (n : Nat) (k x : Int) (v : Int × Int × Int) (h : Int) (th el : List (TStep n)) : AnyS := ⟨n,(k,x,v,h,th,el)⟩
def shA (s : AnyS) : Shal := (s.2.1,s.2.2.1,s.2.2.2.1,s.2.2.2.2.1)
def allS : (n : Nat) -> TStep n -> List AnyS
 | 0,_ => []
 | n + 1,(k,x,v,h,th,el) => mkA n k x v h th el :: ((th.map (allS n)).flatten ++ (el.map (allS n)).flatten)
def allSL (n : Nat) (l : List (TStep n)) : List AnyS := (l.map (allS n)).flatten
theorem allS_succ (n : Nat) (k x : Int) (v : Int × Int × Int) (h : Int) (th el : List (TStep n)) : allS (n + 1) (k,x,v,h,th,el) = mkA n k x v h th el :: (allSL n th ++ allSL n el) := rfl
theorem allS_sh : ∀ (n : Nat) (s : TStep n),(allS n s).map shA = allT n s
 | 0,s => s.elim
 | n + 1,(k,x,v,g,th,el) => by
   have go : ∀ l : List (TStep n),(allSL n l).map shA = allL n l := fun l => by
    unfold allSL allL
    rw [List.map_flatten,List.map_map]
    congr 1
    exact List.map_congr_left fun a _ => allS_sh n a
   rw [allS_succ,allT_succ,List.map_cons,List.map_append,go,go]
   rfl
theorem allSL_sh {n : Nat} (l : List (TStep n)) : (allSL n l).map shA = allL n l := by
 unfold allSL allL
 rw [List.map_flatten,List.map_map]
 congr 1
 exact List.map_congr_left fun a _ => allS_sh n a
theorem allSL_len {n : Nat} (l : List (TStep n)) : (allSL n l).length = (allL n l).length := by rw [<- allSL_sh,List.length_map]
theorem allSL_take {n : Nat} (l : List (TStep n)) (i : Nat) (h : i < l.length) : allSL n (l.take (i + 1)) = allSL n (l.take i) ++ allS n l[i] := by
 unfold allSL
 rw [List.take_add_one,List.getElem?_eq_getElem h,List.map_append,List.flatten_append]
 congr 1
 simp
theorem allSL_at {n : Nat} (l : List (TStep n)) {i : Nat} (h : i < (allSL n l).length) (h' : i < (allL n l).length) : shA (allSL n l)[i] = (allL n l)[i] := by
 have e := allSL_sh l
 have : ((allSL n l).map shA)[i]? = (allL n l)[i]? := by rw [e]
 rw [List.getElem?_map,List.getElem?_eq_getElem h,List.getElem?_eq_getElem h',Option.map_some,Option.some.injEq] at this
 exact this
theorem anyS_rd {V : Vw} {cs : List Value} {s : AnyS} (h : Co.anyS.rd V cs s) : ∃ (k x a b c g : Int) (tv ev : Value) (tl el : List (TStep s.1)),s.2 = (k,x,(a,b,c),g,tl,el) /\ cs = [.int .i64 k,.int .i64 x,.int .i64 a,.int .i64 b,.int .i64 c,.int .i64 g,tv,ev] /\ (RgI k /\ RgI x /\ RgI a /\ RgI b /\ RgI c /\ RgI g) /\ Go.Proofs.YtbjeldblaclpnaaGreatI.one tv = true /\ Go.Proofs.YtbjeldblaclpnaaGreatI.one ev = true /\ SlR (Co.step s.1) V tv tl /\ SlR (Co.step s.1) V ev el := by
 obtain ⟨m,s⟩ := s
 obtain ⟨k,x,⟨a,bb,c⟩,g,tl,el⟩ := s
 obtain ⟨_,_,rfl,⟨rfl,r1⟩,_,_,rfl,⟨rfl,r2⟩,_,_,rfl,⟨_,_,rfl,⟨rfl,r3⟩,_,_,rfl,⟨rfl,r4⟩,⟨rfl,r5⟩⟩,_,_,rfl,⟨rfl,r6⟩,_,_,rfl,⟨tv,rfl,h6⟩,⟨ev,rfl,h7⟩⟩ := h
 have o6 : Go.Proofs.YtbjeldblaclpnaaGreatI.one tv = true := by obtain ⟨_,_,rfl,_⟩ := h6; rfl
 have o7 : Go.Proofs.YtbjeldblaclpnaaGreatI.one ev = true := by obtain ⟨_,_,rfl,_⟩ := h7; rfl
 exact ⟨k,x,a,bb,c,g,tv,ev,tl,el,rfl,rfl,⟨r1,r2,r3,r4,r5,r6⟩,o6,o7,h6,h7⟩
def AllP (F : Nat -> Option IFn) (f n : Nat) : Prop := ∀ (V : Vw) (H : Heap) (v : Value) (l : List (TStep n)),Sub V (vw 0 H) -> SlR (Co.step n) V v l -> (allL n l).length <= 1000 -> ∃ w H',KC F f [v] H w H' /\ (AgX [] H H' /\ LsV V Co.anyS 8 54 H.length H' w (allSL n l))
theorem iAll_ok {F : Nat -> Option IFn} {f n : Nat} (hf : F f = some c_iAll) (ih : ∀ m,n = m + 1 -> AllP F 22 m) : AllP F f n := by
 intro V H v l hV hv hcnt
 have hv0 := hv
 obtain ⟨h0,av,rfl,hv1⟩ := hv
 refine KC.mk hf rfl ?_
 refine seq_reg ?_
 simp only [go_sem,binC]
 refine seq_reg ?_
 simp only [go_sem,binC]
 refine seq_assoc (seq_reg ?_)
 simp only [go_sem,binC]
 refine seq_block (wpc_loop ?_)
 suffices h : ∀ (k i : Nat) (e : Env) (Hc : Heap) (w : Value),i + k = l.length -> AgX [] H Hc -> LsV V Co.anyS 8 54 H.length Hc w (allSL n (l.take i)) -> e 3 = w -> e 6 = .slice av l.length l.length -> e 7 = .int .i64 l.length -> e 8 = .int .i64 i -> W F H.length _ e Hc _ from
  h l.length 0 _ H nilS (by omega) (AgX.refl _ _) (by simpa [allSL] using LsV.nil) (by simp only [go_sem,binC]) (by simp only [go_sem,binC]) (by simp only [go_sem,binC]) (by (simp only [go_sem,binC]) <;> rfl)
 intro k
 induction k with
 | zero =>
   intro i e Hc w hi ht ho e3 e6 e7 e8
   refine lp_step ?_
   refine seq_reg ?_
   simp only [go_sem,binC,e7,e8]
   refine seq_cond (t := false) (by simp only [go_sem,binC]; rw [decide_eq_false (by omega)]) ?_
   simp only [go_sem,binC]
   refine seq_exit ?_
   simp only [go_sem,binC,thenX_e,out_e,thenX_n]
   refine seq_reg ?_
   simp only [go_sem,binC,e3]
   rw [List.take_of_length_le (by omega)] at ho
   exact wpc_ret ⟨Or.inr rfl,_,(by (simp only [go_sem,binC]) <;> rfl),ht,ho⟩
 | succ k ihk =>
   intro i e Hc w hi ht ho e3 e6 e7 e8
   have hil : i < l.length := by omega
   cases n with
   | zero => exact (l[i]).elim
   | succ n =>
   have hw1 : IntKind.i64.wrap ((i : Int) + 1) = ((i + 1 : Nat) : Int) := by rw [wrap_id (by omega) (by omega)]; omega
   obtain ⟨vb,vo,sk,sx,sa,sbb,sc,sg,tv,ev,tl,el,hav,hs,rg,otv,oev,hgc,htl,hel⟩ := step_atW hv0 hil
   simp only [Value.slice.injEq,and_true] at hav
   subst hav
   have htake := allL_take l i hil
   rw [hs,allT_succ] at htake
   have hle := allL_take_le l (i + 1)
   rw [htake,List.length_append,List.length_cons,List.length_append] at hle
   have htk := allSL_len (l.take i)
   have htl0 := ht.1
   refine lp_step ?_
   refine seq_reg ?_
   simp only [go_sem,binC,e7,e8]
   refine seq_cond (t := true) (by simp only [go_sem,binC]; rw [decide_eq_true (by omega)]) ?_
   simp only [go_sem,binC]
   refine seq_skip (seq_block ?_)
   refine seq_reg ?_
   have hg8 := hgc _ (hV.trans (agx_sub ht))
   simp only [go_sem,binC,e6,e8]
   refine ⟨⟨by omega,by omega⟩,?_⟩
   simp only [go_sem,binC,Int.toNat_natCast,hg8,otv,oev]
   refine ⟨by omega,?_⟩
   refine wpc_gen fun H1 hH1 => ?_
   have hx1 : AgX [] Hc H1 := hH1 ▸ AgX.app [] _ _
   have hs1 : H1[Hc.length]? = some ⟨[.int .i64 sk,.int .i64 sx,.int .i64 sa,.int .i64 sbb,.int .i64 sc,.int .i64 sg,tv,ev],0,0,false,true⟩ := hH1 ▸ get_new0 _ _
   have hl1 : H1.length = Hc.length + 1 := by rw [hH1,List.length_append]; rfl
   clear hH1
   have ho1 := ho.keep (Nat.le_refl _) hx1 (fun _ _ => by simp)
   have ht1 := ht.tr hx1
   refine seq_reg ?_
   simp only [go_sem,binC,e3,gc_of hs1,inBlk_some,otv,oev]
   have htX : ∀ {Hx Hy : Heap} {wa : Value} {la : List AnyS},AgX [] H Hx -> LsV V Co.anyS 8 54 H.length Hx wa la -> AgX (blkOf wa) Hx Hy -> AgX [] H Hy := fun h1 h2 h3 => h1.trans h3 (fun _ h _ => h) (fun b hb hl => by have := (h2.blk hb).1; omega)
   refine op_app_ls1 (a := mkA n sk sx (sa,sbb,sc) sg tl el) ho1 (by simp only [go_sem,binC,e3]) (by (simp only [go_sem,binC]) <;> rfl) rfl (step_rd rg.1 rg.2.1 rg.2.2.1 rg.2.2.2.1 rg.2.2.2.2.1 rg.2.2.2.2.2 htl hel) (Nat.le_refl _) (by omega) (by omega) (by omega) fun H2 w2 hx2 _ hn2 ho2 => ?_
   simp only [go_sem,binC]
   have ht2 : AgX [] H H2 := htX ht1 ho1 hx2
   have hs2 := hx2.get hs1 (ho1.nbox hs1)
   have hx2l := hx2.1
   refine seq_reg ?_
   simp only [go_sem,binC,gc_of hs2,inBlk_some,otv]
   obtain ⟨w3,H3,k3,hx3,ho3'⟩ := ih n rfl V H2 tv tl (hV.trans (agx_sub ht2)) htl (by omega)
   refine op_callK (by simp only [go_sem,binC]; exact k3) ?_
   simp only [go_sem,binC]
   have ho3 := ho2.keep (Nat.le_refl _) hx3 (fun _ _ => by simp)
   have ht3 := ht2.tr hx3
   have hs3 := hx3.get hs2 (by simp)
   have hx3l := hx3.1
   have htl2 := allSL_len tl
   have hel2 := allSL_len el
   have hc2 : (allSL (n + 1) (l.take i) ++ [mkA n sk sx (sa,sbb,sc) sg tl el]).length = (allL (n + 1) (l.take i)).length + 1 := by rw [List.length_append,htk]; rfl
   refine op_app_lsN ho3 (by simp only [go_sem,binC]) (by simp only [go_sem,binC]) ho3' (Nat.le_refl _) (by omega) (by omega) (by omega) fun H4 w4 hx4 _ hn4 ho4 => ?_
   simp only [go_sem,binC]
   have ht4 : AgX [] H H4 := htX ht3 ho3 hx4
   have hs4 := hx4.get hs3 (ho3.nbox hs3)
   have hx4l := hx4.1
   refine wpc_reg ?_
   simp only [go_sem,binC,gc_of hs4,inBlk_some,oev]
   obtain ⟨w5,H5,k5,hx5,ho5'⟩ := ih n rfl V H4 ev el (hV.trans (agx_sub ht4)) hel (by omega)
   refine op_callK (by simp only [go_sem,binC]; exact k5) ?_
   simp only [go_sem,binC]
   have ho5 := ho4.keep (Nat.le_refl _) hx5 (fun _ _ => by simp)
   have ht5 := ht4.tr hx5
   have hx5l := hx5.1
   have hc4 : (allSL (n + 1) (l.take i) ++ [mkA n sk sx (sa,sbb,sc) sg tl el] ++ allSL n tl).length = (allL (n + 1) (l.take i)).length + 1 + (allL n tl).length := by rw [List.length_append,hc2,htl2]
   refine op_app_lsN ho5 (by simp only [go_sem,binC]) (by simp only [go_sem,binC]) ho5' (Nat.le_refl _) (by omega) (by omega) (by omega) fun H6 w6 hx6 _ hn6 ho6 => ?_
   simp only [go_sem,binC,out_n,thenX_n]
   refine wpc_reg ?_
   simp only [go_sem,binC,e8,hw1]
   simp only [go_sem,binC,thenX_n]
   refine ihk (i + 1) _ H6 w6 (by omega) (htX ht5 ho5 hx6) ?_ (by simp only [go_sem,binC]) (by simp only [go_sem,binC,e6]) (by simp only [go_sem,binC,e7]) (by simp only [go_sem,binC])
   rw [allSL_take l i hil,hs,allS_succ]
   simpa only [List.append_assoc,List.cons_append,List.nil_append] using ho6
theorem iAll_all {F : Nat -> Option IFn} (hf : F 22 = some c_iAll) : ∀ n,AllP F 22 n
 | 0 => iAll_ok hf fun m h => by omega
 | n + 1 => iAll_ok hf fun m h => by cases h; exact iAll_all hf n
theorem has_both : ∀ a b : Fin 8,∀ h : Fin 3,hasB (bothS (a.val : Int) b.val 3) h.val = (hasB a.val h.val && hasB b.val h.val) := by decide +kernel
theorem hasB_both {a b h : Int} (ha : 0 <= a /\ a <= 7) (hb : 0 <= b /\ b <= 7) : hasB (bothS a b 3) h = (hasB a h && hasB b h) := by
 by_cases hh : 0 <= h /\ h <= 2
 ·obtain ⟨x,rfl⟩ := fin8 ha
  obtain ⟨y,rfl⟩ := fin8 hb
  have := has_both x y ⟨h.toNat,by omega⟩
  rwa [show ((⟨h.toNat,by omega⟩ : Fin 3).val : Int) = h by show ((h.toNat : Nat) : Int) = h; omega] at this
 ·have q : ∀ s : Int,hasB s h = false := fun s => by
   cases hs : hasB s h with
   | false => rfl
   | true => exact absurd (hasB_in hs) hh
  rw [q,q,q]
  rfl
theorem gcK {H H' : Heap} {b o m : Nat} {cs : List Value} (h : getCells H b o m = some cs) (hx : AgX [] H H') : getCells H' b o m = some cs := by
 unfold getCells at h ⊢
 split at h
 ·rename_i k hk
  rw [hx.get hk (by simp)]
  exact h
 ·cases h
theorem atT_lab {ls : List (Int × Int)} (hl : ls.all labB = true) : ∀ (n : Nat) (h : Int × Int) (s : TStep n),labB h = true -> (atT n ls h s).all labB = true
 | 0,_,s,_ => s.elim
 | n + 1,h,(k,x,v,g,th,el),hh => by
   have go : ∀ (h : Int × Int) (l : List (TStep n)),labB h = true -> (atL n ls h l).all labB = true := fun h l hh => by
    unfold atL
    rw [List.all_eq_true]
    intro a ha
    obtain ⟨aq,h1,h2⟩ := List.mem_flatten.1 ha
    obtain ⟨t,_,rfl⟩ := List.mem_map.1 h1
    exact List.all_eq_true.1 (atT_lab hl n h t hh) a h2
   rw [atT_succ,List.all_cons,List.all_append,hh,go _ _ (lboth_bd _ _),go _ _ (lboth_bd _ _)]
   rfl
theorem atL_lab {n : Nat} {ls : List (Int × Int)} {h : Int × Int} (hl : ls.all labB = true) (hh : labB h = true) (l : List (TStep n)) : (atL n ls h l).all labB = true := by
 unfold atL
 rw [List.all_eq_true]
 intro a ha
 obtain ⟨aq,h1,h2⟩ := List.mem_flatten.1 ha
 obtain ⟨t,_,rfl⟩ := List.mem_map.1 h1
 exact List.all_eq_true.1 (atT_lab hl n h t hh) a h2
def WhyI (F : Nat -> Option IFn) (f : Nat) : Prop := ∀ (H : Heap) (n : Nat) (lv sv : Value) (ls : List (Int × Int)) (l : List (TStep n)),SlR Co.p2 (vw 0 H) lv ls -> SlR (Co.step n) (vw 0 H) sv l -> (Co.prog n).sm (ls,l) -> progB n (ls,l) = true -> QC F f [.agg #[lv,sv]] H (.tuple #[.int .i64 (whyV n (ls,l)).1,.bool (whyV n (ls,l)).2])
theorem iWhy0_ok {F : Nat -> Option IFn} {f : Nat} (hf : F f = some c_iWhy0) (ga : AtP F 21) (gl : ∀ n,AllP F 22 n) (gs : ISource F 76) (gf : IFlows F 77) (gh : HasOk F 45) : WhyI F f := by
 intro H n lv sv ls l r1 r2 hsm hP
 have osv : one sv = true := by obtain ⟨_,a,rfl,_⟩ := r2; rfl
 obtain ⟨_,la,rfl,_⟩ := id r1
 have hcnt : (allL n l).length <= 8 := progB_cnt hP hsm
 have hlab : ls.all labB = true := progB_lab hP
 have hok : ∀ t ∈ allL n l,shB ls.length t = true := progB_sh hP
 refine QC.mk hf rfl ?_
 refine seq_reg ?_
 simp only [go_sem,binC,osv]
 refine wpc_gen fun H1 hH1 => ?_
 have hx1 : AgX [] H H1 := hH1 ▸ AgX.app [] _ _
 have hb1 : H1[H.length]? = some ⟨[.slice la ls.length ls.length,sv],0,0,false,true⟩ := hH1 ▸ get_new0 _ _
 clear hH1
 refine seq_reg ?_
 simp only [go_sem,binC,gc_of hb1,inBlk_some,osv]
 obtain ⟨wa,H2,k2,hx2,oa⟩ := ga H1 n _ sv ls l (r1.mono (agx_sub hx1)) (r2.mono (agx_sub hx1)) hsm hP
 refine op_callK (by simp only [go_sem,binC]; exact k2) ?_
 simp only [go_sem,binC]
 have hb2 := hx2.get hb1 (by simp)
 have hx02 := hx1.tr hx2
 refine seq_assoc (seq_reg ?_)
 simp only [go_sem,binC,gc_of hb2,inBlk_some,osv]
 obtain ⟨wl,H3,k3,hx3,ol⟩ := gl n (vw 0 H) H2 sv l (agx_sub hx02) r2 (by omega)
 refine op_callK (by simp only [go_sem,binC]; exact k3) ?_
 obtain ⟨al,hal⟩ := ol.shape
 have hsl := allSL_len l
 rw [hsl] at hal
 rw [hal]
 simp only [go_sem,binC]
 have hb3 := hx3.get hb2 (by simp)
 have hx03 := hx02.tr hx3
 have oa3 := oa.keep (Nat.le_refl _) hx3 (fun _ _ => by simp)
 have hatl := atL_len ls (7,7) l
 have hall : (atL n ls (7,7) l).all labB = true := atL_lab hlab rfl l
 refine seq_block (wpc_loop ?_)
 suffices h : ∀ (k i : Nat) (e : Env) (Hc : Heap),i + k = (allL n l).length -> AgX [] H3 Hc -> e 1 = ptr H.length 0 -> e 4 = wa -> e 12 = .slice al (allL n l).length (allL n l).length -> e 13 = .int .i64 (allL n l).length -> e 14 = .int .i64 i -> whyV n (ls,l) = why0 ls ((allL n l).drop i) ((atL n ls (7,7) l).drop i) i -> W F H.length _ e Hc _ from
  h (allL n l).length 0 _ H3 (by omega) (AgX.refl _ _) (by simp only [go_sem,binC]) (by simp only [go_sem,binC]) (by simp only [go_sem,binC]) (by simp only [go_sem,binC]) (by (simp only [go_sem,binC]) <;> rfl) (by rw [whyV_yes hP,List.drop_zero,List.drop_zero])
 intro k
 induction k with
 | zero =>
   intro i e Hc hi hxc e1 e4 e12 e13 e14 hw
   refine lp_step ?_
   refine seq_reg ?_
   simp only [go_sem,binC,e13,e14]
   refine seq_cond (t := false) (by simp only [go_sem,binC]; rw [decide_eq_false (by omega)]) ?_
   simp only [go_sem,binC]
   refine seq_exit ?_
   simp only [go_sem,binC,thenX_e,out_e,thenX_n]
   refine seq_reg ?_
   simp only [go_sem,binC]
   refine wpc_ret ⟨Or.inr rfl,.tuple #[.int .i64 0,.bool false],by simp [resV,resL,res1,putE_get,notT],?_,rfl⟩
   rw [hw,List.drop_of_length_le (by omega)]
   rfl
 | succ k ih =>
   intro i e Hc hi hxc e1 e4 e12 e13 e14 hw
   have hil : i < (allL n l).length := by omega
   have hia : i < (atL n ls (7,7) l).length := by omega
   have hw1 : IntKind.i64.wrap ((i : Int) + 1) = ((i + 1 : Nat) : Int) := by rw [wrap_id (by omega) (by omega)]; omega
   have hx0c := hx03.tr hxc
   have hbc := hxc.get hb3 (by simp)
   obtain ⟨ba,ca,hwa,gca,rda⟩ := (oa3.keep (Nat.le_refl _) hxc (fun _ _ => by simp)).at hia
   obtain ⟨bs,cs,hws,gcs,rds⟩ := (ol.keep (Nat.le_refl _) hxc (fun _ _ => by simp)).at (show i < (allSL n l).length by omega)
   rw [hal,hsl] at hws
   simp only [Value.slice.injEq,and_true] at hws
   subst hws
   have hsame := allSL_at l (show i < (allSL n l).length by omega) hil
   obtain ⟨sk,sx,sa,sbb,sc,sg,tv,ev,tl,el,hs2,hcs,rg,otv,oev,_,_⟩ := anyS_rd rds
   have hsh' : shA (allSL n l)[i] = (sk,sx,(sa,sbb,sc),sg) := by unfold shA; rw [hs2]
   rw [hsh'] at hsame
   subst hcs
   have hoki := hok _ (List.getElem_mem hil)
   rw [List.drop_eq_getElem_cons hil,List.drop_eq_getElem_cons hia,why0,<- hsame] at hw
   rw [<- hsame] at hoki
   have hoi : labB (atL n ls (7,7) l)[i] = true := List.all_eq_true.1 hall _ (List.getElem_mem _)
   generalize (atL n ls (7,7) l)[i] = hr at rda hoi hw
   obtain ⟨ra,rb⟩ := hr
   obtain ⟨_,_,rfl,⟨hq1,_⟩,⟨hq2,_⟩⟩ := rda
   simp only at hq1 hq2
   subst hq1 hq2
   simp only [shB,Bool.and_eq_true] at hoki
   have hvx : 0 <= sx /\ sx < ls.length := varB_i.1 hoki.1
   obtain ⟨lb,lo',hla,hgl0,_⟩ := lab_at (r1.mono (agx_sub hx0c)) (H := Hc) (fun _ _ h => h) hvx.1 hvx.2
   simp only [Value.slice.injEq,and_true] at hla
   subst hla
   have hlx := lab_getD hlab sx.toNat
   rw [hatl] at hwa
   have hxcl := hxc.1
   have hx03l := hx03.1
   refine lp_step ?_
   refine seq_reg ?_
   simp only [go_sem,binC,e13,e14]
   refine seq_cond (t := true) (by simp only [go_sem,binC]; rw [decide_eq_true (by omega)]) ?_
   simp only [go_sem,binC]
   refine seq_skip (seq_block ?_)
   refine seq_reg ?_
   simp only [go_sem,binC,e12,e14]
   refine ⟨⟨by omega,by omega⟩,?_⟩
   simp only [go_sem,binC,Int.toNat_natCast,Nat.zero_add,gcs,otv,oev]
   refine ⟨by omega,?_⟩
   refine wpc_gen fun H4 hH4 => ?_
   have hx4 : AgX [] Hc H4 := hH4 ▸ AgX.app [] _ _
   have hs4 : H4[Hc.length]? = some ⟨[.int .i64 sk,.int .i64 sx,.int .i64 sa,.int .i64 sbb,.int .i64 sc,.int .i64 sg,tv,ev],0,0,false,true⟩ := hH4 ▸ get_new0 _ _
   have hl4 : H4.length = Hc.length + 1 := by rw [hH4,List.length_append]; rfl
   have hgl4 : getCells H4 lb (lo' + sx.toNat * 2) 2 = some [.int .i64 (ls.getD sx.toNat (0,0)).1,.int .i64 (ls.getD sx.toNat (0,0)).2] := hH4 ▸ hgl0 _
   clear hH4
   have hb4 := hx4.get hbc (by simp)
   refine seq_reg ?_
   simp only [go_sem,binC,e1,gc_of hb4,gc_of hs4,inBlk_some]
   refine ⟨⟨by omega,by omega⟩,?_⟩
   simp only [go_sem,binC,hgl4]
   refine ⟨by omega,?_⟩
   refine wpc_gen fun H5 hH5 => ?_
   have hx5 : AgX [] H4 H5 := hH5 ▸ AgX.app [] _ _
   have ht5 : H5[H4.length]? = some ⟨[.int .i64 (ls.getD sx.toNat (0,0)).1,.int .i64 (ls.getD sx.toNat (0,0)).2],0,0,false,true⟩ := hH5 ▸ get_new0 _ _
   clear hH5
   have hb5 := hx5.get hb4 (by simp)
   have hs5 := hx5.get hs4 (by simp)
   have hxc5 := hx4.tr hx5
   have hx35 := hxc.tr hxc5
   have gca5 := gcK gca hxc5
   have r15 := r1.mono (agx_sub (hx0c.tr hxc5))
   refine seq_reg ?_
   simp only [go_sem,binC,gc_of hs5,inBlk_some]
   refine wpc_block ?_
   refine seq_reg ?_
   by_cases k1 : sk = 1
   ·simp only [go_sem,binC,beq_t k1]
    refine wpc_cond (t := true) rfl ?_
    simp only [go_sem,binC]
    have hval : valB ls.length (sa,sbb,sc) = true := by have := hoki.2; rwa [if_pos k1] at this
    have hsrc := srcL_val hlab hoi hval
    have hfin : fineB ls (sk,sx,(sa,sbb,sc),sg) (ra,rb) = flowsB (srcL ls (sa,sbb,sc) (ra,rb)) (ls.getD sx.toNat (0,0)) := by
     unfold fineB
     rw [if_pos k1,hsrc]
    refine seq_regD ?_
    simp only [go_sem,binC,e1,e4,hwa,gc_of hb5,gc_of hs5,gc_of ht5,inBlk_some,osv,otv,oev]
    refine ⟨⟨by omega,by omega⟩,?_⟩
    simp only [go_sem,binC,Int.toNat_natCast,Nat.zero_add,gca5]
    refine op_callQ (by simp only [go_sem,binC]; exact gs H5 _ sv tv ev ls sk sx sa sbb sc sg (ra,rb) osv otv oev rg.2.2.2.1 rg.2.2.2.2.1 r15 hlab hval hoi) ?_
    simp only [go_sem,binC,gc_of ht5,inBlk_some]
    refine op_callQ (by simp only [go_sem,binC]; exact gf H5 _ _ (srcL_lab hoi) hlx) ?_
    rw [<- hfin]
    cases hfi : fineB ls (sk,sx,(sa,sbb,sc),sg) (ra,rb) with
    | true =>
      simp only [go_sem,binC]
      refine wpc_cond (t := false) rfl ?_
      simp only [go_sem,binC]
      refine wpc_skip ?_
      simp only [go_sem,binC,out_n,thenX_n]
      refine wpc_reg ?_
      simp only [go_sem,binC,e14,hw1]
      simp only [go_sem,binC,thenX_n]
      rw [hfi,if_pos rfl] at hw
      exact ih (i + 1) _ H5 (by omega) hx35 (by simp only [go_sem,binC,e1]) (by simp only [go_sem,binC,e4]) (by simp only [go_sem,binC,e12]) (by simp only [go_sem,binC,e13]) (by simp only [go_sem,binC]) hw
    | false =>
      simp only [go_sem,binC]
      refine wpc_cond (t := true) rfl ?_
      simp only [go_sem,binC]
      refine seq_reg ?_
      simp only [go_sem,binC]
      refine wpc_ret ?_
      simp only [go_sem,binC,out_r,thenX_r]
      rw [hfi,if_neg (by simp)] at hw
      exact ⟨Or.inr rfl,.tuple #[.int .i64 i,.bool true],by simp [resV,resL,res1,putE_get,notT],by rw [hw],rfl⟩
   simp only [go_sem,binC,beq_f k1]
   refine wpc_cond (t := false) rfl ?_
   simp only [go_sem,binC]
   refine seq_reg ?_
   by_cases k3 : sk = 3
   ·simp only [go_sem,binC,beq_t k3]
    refine wpc_cond (t := true) rfl ?_
    simp only [go_sem,binC]
    have hoiB := labB_i.1 hoi
    have hlxB := labB_i.1 hlx
    simp only at hoiB
    have hfin : fineB ls (sk,sx,(sa,sbb,sc),sg) (ra,rb) = (hasB ra sg && hasB (ls.getD sx.toNat (0,0)).1 sg) := by
     unfold fineB
     rw [if_neg k1,if_pos k3,hasB_both hoiB.1 hlxB.1]
    refine seq_regD ?_
    simp only [go_sem,binC,e4,hwa,gc_of hs5,inBlk_some]
    refine ⟨⟨by omega,by omega⟩,?_⟩
    have gca50 : getCells H5 ba (i * 2) 1 = some [.int .i64 ra] := by have := gc_part (off := 0) (k := 1) gca5 (by omega); simpa using this
    simp only [go_sem,binC,Int.toNat_natCast,Nat.zero_add,gca50]
    refine op_callQ (by simp only [go_sem,binC]; exact gh H5 ra sg hoiB.1.1 hoiB.1.2) ?_
    cases ha1 : hasB ra sg with
    | false =>
      rw [ha1,Bool.false_and] at hfin
      have hfi := hfin
      simp only [go_sem,binC]
      refine wpc_cond (t := true) rfl ?_
      simp only [go_sem,binC]
      refine seq_reg ?_
      simp only [go_sem,binC]
      refine wpc_ret ?_
      simp only [go_sem,binC,out_r,thenX_r]
      rw [hfi,if_neg (by simp)] at hw
      exact ⟨Or.inr rfl,.tuple #[.int .i64 i,.bool true],by simp [resV,resL,res1,putE_get,notT],by rw [hw],rfl⟩
    | true =>
      rw [ha1,Bool.true_and] at hfin
      simp only [go_sem,binC,gc_of ht5,gc_of hs5,inBlk_some]
      refine op_callQ (by simp only [go_sem,binC]; exact gh H5 _ sg hlxB.1.1 hlxB.1.2) ?_
      rw [<- hfin]
      cases hfi : fineB ls (sk,sx,(sa,sbb,sc),sg) (ra,rb) with
      | true =>
        simp only [go_sem,binC]
        refine wpc_cond (t := false) rfl ?_
        simp only [go_sem,binC]
        refine wpc_skip ?_
        simp only [go_sem,binC,out_n,thenX_n]
        refine wpc_reg ?_
        simp only [go_sem,binC,e14,hw1]
        simp only [go_sem,binC,thenX_n]
        rw [hfi,if_pos rfl] at hw
        exact ih (i + 1) _ H5 (by omega) hx35 (by simp only [go_sem,binC,e1]) (by simp only [go_sem,binC,e4]) (by simp only [go_sem,binC,e12]) (by simp only [go_sem,binC,e13]) (by simp only [go_sem,binC]) hw
      | false =>
        simp only [go_sem,binC]
        refine wpc_cond (t := true) rfl ?_
        simp only [go_sem,binC]
        refine seq_reg ?_
        simp only [go_sem,binC]
        refine wpc_ret ?_
        simp only [go_sem,binC,out_r,thenX_r]
        rw [hfi,if_neg (by simp)] at hw
        exact ⟨Or.inr rfl,.tuple #[.int .i64 i,.bool true],by simp [resV,resL,res1,putE_get,notT],by rw [hw],rfl⟩
   ·simp only [go_sem,binC,beq_f k3]
    refine wpc_cond (t := false) rfl ?_
    simp only [go_sem,binC]
    refine wpc_skip ?_
    simp only [go_sem,binC,out_n,thenX_n]
    have hfi : fineB ls (sk,sx,(sa,sbb,sc),sg) (ra,rb) = true := by
     unfold fineB
     rw [if_neg k1,if_neg k3]
    refine wpc_reg ?_
    simp only [go_sem,binC,e14,hw1]
    simp only [go_sem,binC,thenX_n]
    rw [hfi,if_pos rfl] at hw
    exact ih (i + 1) _ H5 (by omega) hx35 (by simp only [go_sem,binC,e1]) (by simp only [go_sem,binC,e4]) (by simp only [go_sem,binC,e12]) (by simp only [go_sem,binC,e13]) (by simp only [go_sem,binC]) hw
def typeP (n : Nat) (p : TProg n) : Bool := progB n p && !(whyV n p).2
def TypeP (F : Nat -> Option IFn) (f : Nat) : Prop := ∀ (H : Heap) (n : Nat) (lv sv : Value) (ls : List (Int × Int)) (l : List (TStep n)),SlR Co.p2 (vw 0 H) lv ls -> SlR (Co.step n) (vw 0 H) sv l -> (Co.prog n).sm (ls,l) -> QC F f [.agg #[lv,sv]] H (.bool (typeP n (ls,l)))
theorem iTypeOk_ok {F : Nat -> Option IFn} {f : Nat} (hf : F f = some c_iTypeOk) (gp : ProgOk F 38) (gw : WhyI F 44) : TypeP F f := by
 intro H n lv sv ls l r1 r2 hsm
 have olv : one lv = true := by obtain ⟨_,a,rfl,_⟩ := r1; rfl
 have osv : one sv = true := by obtain ⟨_,a,rfl,_⟩ := r2; rfl
 refine QC.mk hf rfl ?_
 refine seq_reg ?_
 simp only [go_sem,binC,olv,osv]
 refine wpc_gen fun H1 hH1 => ?_
 have hx1 : AgX [] H H1 := hH1 ▸ AgX.app [] _ _
 have hb : H1[H.length]? = some ⟨[lv,sv],0,0,false,true⟩ := hH1 ▸ get_new0 _ _
 clear hH1
 have hS := agx_sub hx1
 unfold typeP
 refine seq_assoc (seq_reg ?_)
 simp only [go_sem,binC,gc_of hb,inBlk_some,olv,osv]
 refine op_callQ (by simp only [go_sem,binC]; exact gp H1 n _ (ls,l) (prog_rd (r1.mono hS) (r2.mono hS)) hsm) ?_
 cases hP : progB n (ls,l) with
 | false =>
   simp only [go_sem,binC]
   refine seq_cond (t := true) rfl ?_
   simp only [go_sem,binC]
   refine seq_assoc (seq_reg ?_)
   simp only [go_sem,binC]
   exact seq_ret ⟨Or.inr rfl,_,(by (simp only [go_sem,binC]) <;> rfl),rfl,rfl⟩
 | true =>
   simp only [go_sem,binC]
   refine seq_cond (t := false) rfl ?_
   simp only [go_sem,binC]
   refine seq_skip (seq_reg ?_)
   simp only [go_sem,binC,gc_of hb,inBlk_some,olv,osv]
   refine op_callQ (by simp only [go_sem,binC]; exact gw H1 n _ _ ls l (r1.mono hS) (r2.mono hS) hsm hP) ?_
   simp only [go_sem,binC]
   refine seq_reg ?_
   simp only [go_sem,binC]
   exact wpc_ret ⟨Or.inr rfl,_,(by (simp only [go_sem,binC]) <;> rfl),rfl,rfl⟩
end Go.Proofs.YtbjeldblaclpnaaGreatI
end
section
set_option linter.unusedVariables false
set_option linter.unusedSimpArgs false
namespace Go.Proofs.YtbjeldblaclpnaaGreatI
open Go Go.RowKit
theorem allT_map (T : Shal -> Shal) : ∀ (n : Nat) (s : TStep n),allT n (mapT T n s) = (allT n s).map T
 | 0,s => s.elim
 | n + 1,(k,x,v,g,th,el) => by
   have go : ∀ l : List (TStep n),allL n (l.map (mapT T n)) = (allL n l).map T := fun l => by
    unfold allL
    rw [List.map_map,List.map_flatten,List.map_map]
    congr 1
    exact List.map_congr_left fun a _ => allT_map T n a
   rw [mapT_succ,allT_succ,allT_succ,go,go,List.map_cons,List.map_append]
theorem allL_map (T : Shal -> Shal) {n : Nat} (l : List (TStep n)) : allL n (l.map (mapT T n)) = (allL n l).map T := by
 unfold allL
 rw [List.map_map,List.map_flatten,List.map_map]
 congr 1
 exact List.map_congr_left fun a _ => allT_map T n a
theorem ints_len (l : List Int) : (ints l).length = l.length := by simp [ints]
def drRowTail : ICode := (.seq (.seq (.reg none [⟨some 45,none,.mov (.t 0)⟩,⟨some 46,none,.call .n (.f 14) [.t 45,(.c (.int .i64 16))]⟩,
   ⟨some 47,none,.bin .eql (.t 46) (.c (.int .i64 0))⟩])
 (.cond (.t 47) (.reg none [⟨some 48,none,.mov (.t 5)⟩,⟨some 49,none,.mov (.t 0)⟩,⟨some 50,none,.call .n (.f 14) [.t 49,(.c (.int .i64 3))]⟩,
   ⟨some 51,none,.lit 1 3 1 [(.int .i64 0)] [(0,1,(.t 50))]⟩,⟨some 52,none,.app 1 3 8 false (.t 48) (.t 51)⟩,⟨some 5,none,.mov (.t 52)⟩]) (.skip)))
 (.seq (.reg none [⟨some 53,none,.mov (.t 5)⟩,⟨some 4,none,.mov (.t 53)⟩])
 (.ret)))
def c_drRow : IFn := ⟨2,54,[.t 4],
 .seq (.reg none [⟨some 4,none,.mov (.c (.slice none 0 0))⟩])
 (.seq (.reg none [⟨some 10,none,.lit 1 3 0 [] []⟩,⟨some 5,none,.mov (.t 10)⟩])
 (.seq (.seq (.reg none [⟨some 6,none,.mov (.c (.int .i64 0))⟩])
  (.block 0 (.loop (.seq (.seq (.reg none [⟨some 11,none,.mov (.t 6)⟩,⟨some 12,none,.bin .lss (.t 11) (.c (.int .i64 60))⟩,⟨some 13,none,.mov (.t 12)⟩,
     ⟨some 14,some (13,true),.mov (.t 5)⟩,⟨some 15,some (13,true),.len (.t 14)⟩,⟨some 16,some (13,true),.mov (.t 1)⟩,
     ⟨some 17,some (13,true),.bin .lss (.t 15) (.t 16)⟩,⟨some 18,none,.pick (.t 13) (.t 17) (.c (.bool false))⟩])
    (.cond (.t 18) (.skip) (.exit 0)))
   (.seq (.block 1 (.seq (.reg none [⟨some 21,none,.mov (.t 0)⟩,⟨some 22,none,.mov (.t 1)⟩,⟨some 23,none,.call .n (.f 14) [.t 21,.t 22]⟩,
      ⟨some 7,none,.mov (.t 23)⟩])
    (.seq (.reg none [⟨some 8,none,.mov (.c (.bool false))⟩])
    (.seq (.seq (.reg none [⟨some 9,none,.mov (.c (.int .i64 0))⟩])
     (.block 2 (.loop (.seq (.seq (.reg none [⟨some 24,none,.mov (.t 9)⟩,⟨some 25,none,.mov (.t 5)⟩,⟨some 26,none,.len (.t 25)⟩,
        ⟨some 27,none,.bin .lss (.t 24) (.t 26)⟩])
       (.cond (.t 27) (.skip) (.exit 2)))
      (.seq (.block 3 (.reg none [⟨some 30,none,.mov (.t 8)⟩,⟨some 31,none,.mov (.t 30)⟩,⟨some 32,some (31,false),.mov (.t 5)⟩,
        ⟨some 33,some (31,false),.mov (.t 9)⟩,⟨some 34,some (31,false),.iad 1 (.t 32) (.t 33)⟩,⟨some 35,some (31,false),.load false 1 (.t 34)⟩,
        ⟨some 36,some (31,false),.mov (.t 7)⟩,⟨some 37,some (31,false),.bin .eql (.t 35) (.t 36)⟩,⟨some 38,none,.pick (.t 31) (.c (.bool true)) (.t 37)⟩,
        ⟨some 8,none,.mov (.t 38)⟩]))
      (.reg none [⟨some 28,none,.mov (.t 9)⟩,⟨some 29,none,.bin .add (.t 28) (.c (.int .i64 1))⟩,⟨some 9,none,.mov (.t 29)⟩]))))))
    (.seq (.reg none [⟨some 39,none,.mov (.t 8)⟩,⟨some 40,none,.un .not (.t 39)⟩])
    (.cond (.t 40) (.reg none [⟨some 41,none,.mov (.t 5)⟩,⟨some 42,none,.mov (.t 7)⟩,⟨some 43,none,.lit 1 3 1 [(.int .i64 0)] [(0,1,(.t 42))]⟩,
      ⟨some 44,none,.app 1 3 8 false (.t 41) (.t 43)⟩,⟨some 5,none,.mov (.t 44)⟩]) (.skip)))))))
   (.reg none [⟨some 19,none,.mov (.t 6)⟩,⟨some 20,none,.bin .add (.t 19) (.c (.int .i64 1))⟩,⟨some 6,none,.mov (.t 20)⟩]))))))
 drRowTail))⟩
def RowQ (H H' : Heap) (v : Value) : Prop := ∃ row : List Int,SlR Co.int (vwl H.length [] H') v row /\ row.length <= 100
theorem drRowTail_ok {F : Nat -> Option IFn} {lo : Nat} (hpk : F 14 = some c_pick) {H0 : Heap} {rb : Nat} {bv : Value} {code : List Int} (hc : RdC H0 rb bv code) {H Hc : Heap} {p q : Int} {e : Env} {b : Nat} {so : Bool} {l : List Int} (hs : St H0 rb bv q Hc) (hl : rb < H.length) (hx : AgX [rb] H Hc) (hO : OwnL Co.int 1 3 H.length [] Hc b so l) (hll : l.length <= 60) (hp : 0 <= p) (hpq : p <= q) (hq : q <= p + 60) (hp2 : p + 100 <= 1000000) (hlo : lo <= rb)
  (e0 : e 0 = ptr rb 0) (e5 : e 5 = sli b 0 l.length) : wpc F lo drRowTail e Hc (fin [.t 4] fun v H' => ∃ p',AgX [rb] H H' /\ St H0 rb bv p' H' /\ (p <= p' /\ p' <= p + 100) /\ RowQ H H' v) := by
 unfold drRowTail
 have hbl := hO.1
 refine seq_assoc (seq_reg ?_)
 simp only [go_sem,binC,e0]
 refine op_draw (n := 16) hpk hc hs (by omega) (by omega) hlo (by simp only [go_sem,binC,e0]) (by simp only [go_sem,binC]) fun H2 hl2 hx2 hs2 => ?_
 have ht2 := hx.tr hx2
 have hO2 : OwnL Co.int 1 3 H.length [] H2 b so l := hO.sub hx2 (by simp; omega) fun b' _ h1 h2 _ => ⟨by simp; omega,by simp⟩
 simp only [go_sem,binC]
 by_cases h0 : pickV code q 16 = 0
 ·simp only [go_sem,binC,beq_t h0]
  refine seq_cond (t := true) rfl ?_
  simp only [go_sem,binC]
  refine seq_reg ?_
  simp only [go_sem,binC,e0,e5]
  refine op_draw (n := 3) hpk hc hs2 (by omega) (by omega) hlo (by simp only [go_sem,binC,e0]) (by simp only [go_sem,binC]) fun H3 hl3 hx3 hs3 => ?_
  have ht3 := ht2.tr hx3
  have hO3 : OwnL Co.int 1 3 H.length [] H3 b so l := hO2.sub hx3 (by simp; omega) fun b' _ h1 h2 _ => ⟨by simp; omega,by simp⟩
  have hbd := pickV_bd code (q + 1) (n := 3) (by omega)
  simp only [go_sem,binC,e5]
  refine op_app_own (A := Co.int) (lo := H.length) (a := pickV code (q + 1) 3) hO3 (by simp only [go_sem,binC,e5]) (by (simp only [go_sem,binC]) <;> rfl) (by omega) rfl ⟨rfl,by omega,by omega⟩ (by omega) (by omega) (by simp) fun H4 hx4 hO4 => ?_
  simp only [go_sem,binC]
  refine seq_reg ?_
  simp only [go_sem,binC]
  have hlen : (l ++ [pickV code (q + 1) 3]).length = l.length + 1 := by simp
  have hr := hO4.slR rfl (by simp)
  rw [hlen] at hr
  have ht4 : AgX [rb] H H4 := ht3.trans hx4 (fun _ h _ => h) (fun b' h1 h2 => by simp only [List.mem_singleton] at h1; omega)
  exact wpc_ret ⟨Or.inr rfl,_,(by (simp only [go_sem,binC]) <;> rfl),q + 1 + 1,ht4,hs3.mono hc hx4 (fun b' h1 => by simp only [List.mem_singleton] at h1; omega),by omega,_,hr,by omega⟩
 ·simp only [go_sem,binC,beq_f h0]
  refine seq_cond (t := false) rfl ?_
  simp only [go_sem,binC]
  refine seq_skip (seq_reg ?_)
  simp only [go_sem,binC,e5]
  exact wpc_ret ⟨Or.inr rfl,_,(by (simp only [go_sem,binC]) <;> rfl),q + 1,ht2,hs2,by omega,_,hO2.slR rfl (by simp),by omega⟩
theorem drRow_ok {F : Nat -> Option IFn} {f : Nat} (hf : F f = some c_drRow) (hpk : F 14 = some c_pick) {H0 : Heap} {rb : Nat} {bv : Value} {code : List Int} (hc : RdC H0 rb bv code) {n : Int} (hn : n <= 9223372036854775807) : DrawS F H0 rb bv f [.int .i64 n] 100 (fun H H' v => RowQ H H' v) := by
 refine DrawS.mk hf rfl fun H p lo hs hp hp2 hlo => ?_
 have hl := hs.lt
 refine seq_reg ?_
 simp only [go_sem,binC]
 refine seq_reg ?_
 simp only [go_sem,binC]
 refine wpc_gen fun H1 hH1 => ?_
 have hs1 : St H0 rb bv p H1 := hH1 ▸ hs.appN hc _
 have ht1 : AgX [rb] H H1 := hH1 ▸ AgX.app [rb] _ _
 have hO1 : OwnL Co.int 1 3 H.length [] H1 H.length true [] := hH1 ▸ OwnG.nil (Nat.le_refl _)
 clear hH1
 refine seq_assoc (seq_reg ?_)
 simp only [go_sem,binC]
 refine seq_block (wpc_loop ?_)
 suffices h : ∀ (k i : Nat) (e : Env) (Hc : Heap) (b : Nat) (so : Bool) (l : List Int),i + k = 60 -> l.length <= i -> St H0 rb bv (p + i) Hc -> AgX [rb] H Hc -> OwnL Co.int 1 3 H.length [] Hc b so l -> e 0 = ptr rb 0 -> e 1 = .int .i64 n -> e 5 = sli b 0 l.length -> e 6 = .int .i64 i -> W F lo _ e Hc _ from
  h 60 0 _ H1 H.length true [] rfl (Nat.le_refl _) (by simpa using hs1) ht1 hO1 (by simp only [go_sem,binC]) (by simp only [go_sem,binC]) (by (simp only [go_sem,binC]) <;> rfl) (by (simp only [go_sem,binC]) <;> rfl)
 intro k
 induction k with
 | zero =>
   intro i e Hc b so l hik hli hsc hxc hO e0 e1 e5 e6
   refine lp_step ?_
   refine seq_assoc (seq_reg ?_)
   simp only [go_sem,binC,e0,e1,e5,e6]
   have hd : decide ((i : Int) < 60) = false := decide_eq_false (by omega)
   simp only [go_sem,binC,hd]
   refine seq_cond (t := false) (by simp only [go_sem,binC]) ?_
   simp only [go_sem,binC]
   refine seq_exit ?_
   simp only [go_sem,binC,thenX_e,out_e,thenX_n]
   exact drRowTail_ok hpk hc hsc hl hxc hO (by omega) hp (by omega) (by omega) hp2 hlo (by simp only [go_sem,binC,e0]) (by simp only [go_sem,binC,e5])
 | succ k ih =>
   intro i e Hc b so l hik hli hsc hxc hO e0 e1 e5 e6
   have hw1 : IntKind.i64.wrap ((i : Int) + 1) = ((i + 1 : Nat) : Int) := by rw [wrap_id (by omega) (by omega)]; omega
   refine lp_step ?_
   refine seq_assoc (seq_reg ?_)
   have hd : decide ((i : Int) < 60) = true := decide_eq_true (by omega)
   simp only [go_sem,binC,e0,e1,e5,e6,hd]
   by_cases hlt : (l.length : Int) < n
   rotate_left
   ·simp only [go_sem,binC,decide_eq_false hlt]
    refine seq_cond (t := false) (by simp only [go_sem,binC]) ?_
    simp only [go_sem,binC]
    refine seq_exit ?_
    simp only [go_sem,binC,thenX_e,out_e,thenX_n]
    exact drRowTail_ok hpk hc hsc hl hxc hO (by omega) hp (by omega) (by omega) hp2 hlo (by simp only [go_sem,binC,e0]) (by simp only [go_sem,binC,e5])
   simp only [go_sem,binC,decide_eq_true hlt]
   refine seq_cond (t := true) (by simp only [go_sem,binC]) ?_
   simp only [go_sem,binC]
   refine seq_skip (seq_block (seq_reg ?_))
   simp only [go_sem,binC,e0,e1]
   refine op_draw (n := n) hpk hc hsc (by omega) (by omega) hlo (by simp only [go_sem,binC,e0]) (by simp only [go_sem,binC,e1]) fun H2 hl2 hx2 hs2 => ?_
   have hbl := hO.1
   have ht2 := hxc.tr hx2
   have hO2 : OwnL Co.int 1 3 H.length [] H2 b so l := hO.sub hx2 (by simp; omega) fun b' _ h1 h2 _ => ⟨by simp; omega,by simp⟩
   have hbd := pickV_i64 code (p + i) hn
   generalize pickV code (p + i) n = kv at hbd
   simp only [go_sem,binC]
   refine seq_reg ?_
   simp only [go_sem,binC]
   refine seq_assoc (seq_reg ?_)
   simp only [go_sem,binC]
   refine seq_block (wpc_loop ?_)
   suffices hin : ∀ (k2 m : Nat) (e2 : Env) (t : Bool),m + k2 = l.length -> e2 0 = ptr rb 0 -> e2 1 = .int .i64 n -> e2 5 = sli b 0 l.length -> e2 6 = .int .i64 i -> e2 7 = .int .i64 kv -> e2 8 = .bool t -> e2 9 = .int .i64 m -> W F lo _ e2 H2 _ from
    hin l.length 0 _ false (by omega) (by simp only [go_sem,binC,e0]) (by simp only [go_sem,binC,e1]) (by simp only [go_sem,binC,e5]) (by simp only [go_sem,binC,e6]) (by simp only [go_sem,binC]) (by simp only [go_sem,binC]) (by (simp only [go_sem,binC]) <;> rfl)
   intro k2
   induction k2 with
   | zero =>
     intro m e2 t hm f0 f1 f5 f6 f7 f8 f9
     refine lp_step ?_
     refine seq_assoc (seq_reg ?_)
     simp only [go_sem,binC,f5,f9]
     refine seq_cond (t := false) (by simp only [go_sem,binC]; rw [decide_eq_false (by omega)]) ?_
     simp only [go_sem,binC]
     refine seq_exit ?_
     simp only [go_sem,binC,thenX_e,out_e,thenX_n]
     refine seq_reg ?_
     simp only [go_sem,binC,f8]
     cases t with
     | true =>
       simp only [go_sem,binC]
       refine wpc_cond (t := false) (by simp only [go_sem,binC]) ?_
       simp only [go_sem,binC]
       refine wpc_skip ?_
       simp only [go_sem,binC,out_n,thenX_n]
       refine wpc_reg ?_
       simp only [go_sem,binC,f6,hw1]
       simp only [go_sem,binC,thenX_n]
       exact ih (i + 1) _ H2 b so l (by omega) (by omega) (by rw [show p + ((i + 1 : Nat) : Int) = p + i + 1 by omega]; exact hs2) ht2 hO2 (by simp only [go_sem,binC,f0]) (by simp only [go_sem,binC,f1]) (by simp only [go_sem,binC,f5]) (by simp only [go_sem,binC])
     | false =>
       simp only [go_sem,binC]
       refine wpc_cond (t := true) (by simp only [go_sem,binC]) ?_
       simp only [go_sem,binC]
       refine wpc_reg ?_
       simp only [go_sem,binC,f5,f7]
       refine op_app_own (A := Co.int) (lo := H.length) (a := kv) hO2 (by simp only [go_sem,binC,f5]) (by (simp only [go_sem,binC]) <;> rfl) (by omega) rfl ⟨rfl,by omega,by omega⟩ (by omega) (by omega) (by simp) fun H4 hx4 hO4 => ?_
       simp only [go_sem,binC,out_n,thenX_n]
       refine wpc_reg ?_
       simp only [go_sem,binC,f6,hw1]
       simp only [go_sem,binC,thenX_n]
       have hlen : (l ++ [kv]).length = l.length + 1 := by simp
       have ht4 : AgX [rb] H H4 := ht2.trans hx4 (fun _ h _ => h) (fun b' h1 h2 => by simp only [List.mem_singleton] at h1; omega)
       refine ih (i + 1) _ H4 (H2.length + 1) _ (l ++ [kv]) (by omega) (by omega) ?_ ht4 hO4 (by simp only [go_sem,binC,f0]) (by simp only [go_sem,binC,f1]) (by (simp only [go_sem,binC,hlen]) <;> rfl) (by simp only [go_sem,binC])
       rw [show p + ((i + 1 : Nat) : Int) = p + i + 1 by omega]
       exact hs2.mono hc hx4 (fun b' h1 => by simp only [List.mem_singleton] at h1; omega)
   | succ k2 ih2 =>
     intro m e2 t hm f0 f1 f5 f6 f7 f8 f9
     have hml : m < l.length := by omega
     obtain ⟨b9,o9,hv9,hg9⟩ := gcI ((hO2.slR rfl (by simp)).mono (vwl0 _ _ _)) hml
     simp only [sli,Value.slice.injEq,Option.some.injEq,Addr.mk.injEq,and_true] at hv9
     obtain ⟨rfl,rfl⟩ := hv9
     have hw2 : IntKind.i64.wrap ((m : Int) + 1) = ((m + 1 : Nat) : Int) := by rw [wrap_id (by omega) (by omega)]; omega
     refine lp_step ?_
     refine seq_assoc (seq_reg ?_)
     simp only [go_sem,binC,f5,f9]
     refine seq_cond (t := true) (by simp only [go_sem,binC]; rw [decide_eq_true (by omega)]) ?_
     simp only [go_sem,binC]
     refine seq_skip (seq_block (wpc_reg ?_))
     cases t with
     | true =>
       simp only [go_sem,binC,f8]
       simp only [go_sem,binC,out_n,thenX_n]
       refine wpc_reg ?_
       simp only [go_sem,binC,f9,hw2]
       simp only [go_sem,binC,thenX_n]
       exact ih2 (m + 1) _ true (by omega) (by simp only [go_sem,binC,f0]) (by simp only [go_sem,binC,f1]) (by simp only [go_sem,binC,f5]) (by simp only [go_sem,binC,f6]) (by simp only [go_sem,binC,f7]) (by simp only [go_sem,binC]) (by simp only [go_sem,binC])
     | false =>
       simp only [go_sem,binC,f5,f7,f8,f9,sli]
       refine ⟨⟨by omega,by omega⟩,?_⟩
       rw [Nat.zero_add] at hg9
       simp only [go_sem,binC,f7,Int.toNat_natCast,Nat.mul_one,hg9]
       simp only [go_sem,binC,out_n,thenX_n]
       refine wpc_reg ?_
       simp only [go_sem,binC,f9,hw2]
       simp only [go_sem,binC,thenX_n]
       exact ih2 (m + 1) _ _ (by omega) (by simp only [go_sem,binC,f0]) (by simp only [go_sem,binC,f1]) (by simp only [go_sem,binC,f5,sli]) (by simp only [go_sem,binC,f6]) (by simp only [go_sem,binC,f7]) (by simp only [go_sem,binC]; rfl) (by simp only [go_sem,binC])
def tlab (row : List Int) (a : Int × Int) : Int × Int := (tset row a.1,tset row a.2)
theorem tset_both0 : ∀ a b : Fin 8,∀ r : Fin 6,tset ([[0,1,2],[0,2,1],[1,0,2],[1,2,0],[2,0,1],[2,1,0]].getD r.val []) (bothS (a.val : Int) b.val 3) = bothS (tset ([[0,1,2],[0,2,1],[1,0,2],[1,2,0],[2,0,1],[2,1,0]].getD r.val []) a.val) (tset ([[0,1,2],[0,2,1],[1,0,2],[1,2,0],[2,0,1],[2,1,0]].getD r.val []) b.val) 3 /\ witB (tset ([[0,1,2],[0,2,1],[1,0,2],[1,2,0],[2,0,1],[2,1,0]].getD r.val []) (a.val : Int)) (tset ([[0,1,2],[0,2,1],[1,0,2],[1,2,0],[2,0,1],[2,1,0]].getD r.val []) b.val) = witB a.val b.val := by decide +kernel
theorem tset_both {row : List Int} (hr : rowB row 3 = true) {a b : Int} (ha : 0 <= a /\ a <= 7) (hb : 0 <= b /\ b <= 7) : tset row (bothS a b 3) = bothS (tset row a) (tset row b) 3 /\ witB (tset row a) (tset row b) = witB a b := by
 obtain ⟨x,rfl⟩ := fin8 ha
 obtain ⟨y,rfl⟩ := fin8 hb
 rcases row3 hr with rfl | rfl | rfl | rfl | rfl | rfl
 ·exact tset_both0 x y 0
 ·exact tset_both0 x y 1
 ·exact tset_both0 x y 2
 ·exact tset_both0 x y 3
 ·exact tset_both0 x y 4
 ·exact tset_both0 x y 5
theorem tlab_lab {row : List Int} (hr : rowB row 3 = true) {a : Int × Int} (ha : labB a = true) : labB (tlab row a) = true := by
 have := labB_iff.1 ha
 exact labB_iff.2 ⟨tset_bd hr this.1,tset_bd hr this.2⟩
theorem tlab_both {row : List Int} (hr : rowB row 3 = true) {a b : Int × Int} (ha : labB a = true) (hb : labB b = true) : lboth (tlab row a) (tlab row b) = tlab row (lboth a b) := by
 rw [lboth_ok (tlab_lab hr ha) (tlab_lab hr hb),lboth_ok ha hb]
 have qa := labB_iff.1 ha
 have qb := labB_iff.1 hb
 unfold tlab
 rw [(tset_both hr qa.1 qb.1).1,(tset_both hr qa.2 qb.2).1]
theorem tlab_any {row : List Int} (hr : rowB row 3 = true) : tlab row (7,7) = (7,7) := by
 rcases row3 hr with rfl | rfl | rfl | rfl | rfl | rfl <;> decide +kernel
theorem tlab_zero {row : List Int} (hr : rowB row 3 = true) : tlab row (0,0) = (0,0) := by
 rcases row3 hr with rfl | rfl | rfl | rfl | rfl | rfl <;> decide +kernel
theorem turnLH_getD {row : List Int} (hr : rowB row 3 = true) (ls : List (Int × Int)) (i : Nat) : (turnLH row ls).getD i (0,0) = tlab row (ls.getD i (0,0)) := by
 unfold turnLH
 rw [List.getD_eq_getElem?_getD,List.getD_eq_getElem?_getD,List.getElem?_map]
 cases ls[i]? with
 | none => exact (tlab_zero hr).symm
 | some a => rfl
theorem atT_turn {row : List Int} (hr : rowB row 3 = true) {ls : List (Int × Int)} (hl : ls.all labB = true) : ∀ (n : Nat) (h : Int × Int) (s : TStep n),labB h = true -> atT n (turnLH row ls) (tlab row h) (mapT (turnH row) n s) = (atT n ls h s).map (tlab row)
 | 0,_,s,_ => s.elim
 | n + 1,h,(k,x,v,g,th,el),hh => by
   have go : ∀ (h : Int × Int) (l : List (TStep n)),labB h = true -> atL n (turnLH row ls) (tlab row h) (l.map (mapT (turnH row) n)) = (atL n ls h l).map (tlab row) := fun h l hh => by
    unfold atL
    rw [List.map_map,List.map_flatten,List.map_map]
    congr 1
    exact List.map_congr_left fun a _ => atT_turn hr hl n h a hh
   rw [mapT_succ]
   show atT (n + 1) (turnLH row ls) (tlab row h) (k,x,v,_,th.map (mapT (turnH row) n),el.map (mapT (turnH row) n)) = _
   rw [atT_succ,atT_succ,turnLH_getD hr,tlab_both hr hh (lab_getD hl _),go _ _ (lboth_bd _ _),go _ _ (lboth_bd _ _),List.map_cons,List.map_append]
theorem atL_turn {row : List Int} (hr : rowB row 3 = true) {ls : List (Int × Int)} (hl : ls.all labB = true) {n : Nat} {h : Int × Int} (hh : labB h = true) (l : List (TStep n)) : atL n (turnLH row ls) (tlab row h) (l.map (mapT (turnH row) n)) = (atL n ls h l).map (tlab row) := by
 unfold atL
 rw [List.map_map,List.map_flatten,List.map_map]
 congr 1
 exact List.map_congr_left fun a _ => atT_turn hr hl n h a hh
theorem valL_turn {row : List Int} (hr : rowB row 3 = true) {ls : List (Int × Int)} (hl : ls.all labB = true) (v : Int × Int × Int) : valL (turnLH row ls) v = tlab row (valL ls v) := by
 unfold valL
 simp only [turnLH_getD hr]
 have l7 : labB ((7,7) : Int × Int) = true := rfl
 have la := lab_getD hl v.2.1.toNat
 have lb := lab_getD hl v.2.2.toNat
 have e1 : (if v.1 = 1 then ((7,7) : Int × Int) else lboth (7,7) (tlab row (ls.getD v.2.1.toNat (0,0)))) = tlab row (if v.1 = 1 then (7,7) else lboth (7,7) (ls.getD v.2.1.toNat (0,0))) := by
  split
  ·exact (tlab_any hr).symm
  ·rw [<- tlab_both hr l7 la,tlab_any hr]
 have lo : labB (if v.1 = 1 then ((7,7) : Int × Int) else lboth (7,7) (ls.getD v.2.1.toNat (0,0))) = true := by
  split
  ·rfl
  ·exact lboth_bd _ _
 rw [e1]
 split
 ·rw [tlab_both hr lo lb]
 ·rfl
theorem flowsB_turn {row : List Int} (hr : rowB row 3 = true) {a b : Int × Int} (ha : labB a = true) (hb : labB b = true) : flowsB (tlab row a) (tlab row b) = flowsB a b := by
 have qa := labB_iff.1 ha
 have qb := labB_iff.1 hb
 unfold flowsB
 rw [tlab_lab hr ha,tlab_lab hr hb,ha,hb]
 show (true && (true && (witB (tset row b.1) (tset row a.1) && witB (tset row b.2) (tset row a.2)))) = _
 rw [(tset_both hr qb.1 qa.1).2,(tset_both hr qb.2 qa.2).2]
theorem bothS_r7 (a b : Int) : 0 <= bothS a b 3 /\ bothS a b 3 <= 7 := by
 have := bothS_lt a b 3
 have h8 : (2 : Int) ^ 3 = 8 := by decide
 rw [h8] at this
 omega
theorem fineB_turn {row : List Int} (hr : rowB row 3 = true) {ls : List (Int × Int)} (hl : ls.all labB = true) {s : Shal} {h : Int × Int} {k : Nat} (hh : labB h = true) (hs : okS k s) : fineB (turnLH row ls) (turnH row s) (tlab row h) = fineB ls s h := by
 obtain ⟨kd,x,v,g⟩ := s
 obtain ⟨-,-,-,-,h5⟩ := hs
 simp only at h5
 have lx := lab_getD hl x.toNat
 have qx := labB_iff.1 lx
 have qh := labB_iff.1 hh
 unfold fineB
 show (if kd = 1 then flowsB (lboth (tlab row h) (valL (turnLH row ls) v)) ((turnLH row ls).getD x.toNat (0,0)) else if kd = 3 then hasB (bothS (tset row h.1) ((turnLH row ls).getD x.toNat (0,0)).1 3) (if kd = 3 then nameO row g else g) else true) = _
 rw [turnLH_getD hr,valL_turn hr hl,tlab_both hr hh (valL_bd _ _),flowsB_turn hr (lboth_bd _ _) lx]
 by_cases k1 : kd = 1
 ·rw [if_pos k1,if_pos k1]
 rw [if_neg k1,if_neg k1]
 by_cases k3 : kd = 3
 ·rw [if_pos k3,if_pos k3,if_pos k3]
  show hasB (bothS (tset row h.1) (tset row (ls.getD x.toNat (0,0)).1) 3) (nameO row g) = _
  rw [<- (tset_both hr qh.1 qx.1).1,tset_has hr (bothS_r7 _ _) (h5 k3)]
 ·rw [if_neg k3,if_neg k3]
theorem why0_turn {row : List Int} (hr : rowB row 3 = true) {ls : List (Int × Int)} (hl : ls.all labB = true) {k : Nat} : ∀ (ss : List Shal) (hs : List (Int × Int)) (i : Nat),(∀ t ∈ ss,okS k t) -> hs.all labB = true -> why0 (turnLH row ls) (ss.map (turnH row)) (hs.map (tlab row)) i = why0 ls ss hs i
 | [],_,_,_,_ => by simp [why0]
 | s :: ss,[],_,_,_ => by simp [why0]
 | s :: ss,h :: hs,i,ht,hh => by
   rw [List.all_cons,Bool.and_eq_true] at hh
   rw [List.map_cons,List.map_cons,why0,why0,fineB_turn hr hl hh.1 (ht s List.mem_cons_self),why0_turn hr hl ss hs (i + 1) (fun t h => ht t (List.mem_cons_of_mem _ h)) hh.2]
theorem whyV_turn {n : Nat} {ls : List (Int × Int)} {l : List (TStep n)} {row : List Int} (h : progB n (ls,l) = true) (hr : rowB row 3 = true) : whyV n (turnLH row ls,l.map (mapT (turnH row) n)) = whyV n (ls,l) := by
 have hl : ls.all labB = true := progB_lab h
 rw [whyV_yes h,whyV_yes (turnP_ok h hr),allL_map]
 have := atL_turn hr hl (n := n) (h := (7,7)) rfl l
 rw [tlab_any hr] at this
 rw [this]
 exact why0_turn hr hl _ _ 0 (progB_okS h) (atL_lab hl rfl l)
theorem typeP_turn {n : Nat} {ls : List (Int × Int)} {l : List (TStep n)} {row : List Int} (h : progB n (ls,l) = true) (hr : rowB row 3 = true) : typeP n (turnLH row ls,l.map (mapT (turnH row) n)) = typeP n (ls,l) := by
 unfold typeP
 rw [whyV_turn h hr,h,turnP_ok h hr]
def c_iTSet : IFn := ⟨2,16,[.t 4],
 .seq (.reg none [⟨some 4,none,.mov (.c (.int .i64 0))⟩])
 (.seq (.seq (.reg none [⟨some 5,none,.mov (.t 0)⟩,⟨some 6,none,.call .q (.f 32) [.t 5]⟩,⟨some 7,none,.un .not (.t 6)⟩,⟨some 8,none,.mov (.t 7)⟩,
   ⟨some 9,some (8,false),.mov (.t 1)⟩,⟨some 10,some (8,false),.call .q (.f 33) [.t 9,(.c (.int .i64 3))]⟩,⟨some 11,some (8,false),.un .not (.t 10)⟩,
   ⟨some 12,none,.pick (.t 8) (.c (.bool true)) (.t 11)⟩])
  (.cond (.t 12) (.seq (.reg none [⟨some 4,none,.mov (.c (.int .i64 0))⟩])
   (.ret)) (.skip)))
 (.seq (.reg none [⟨some 13,none,.mov (.t 0)⟩,⟨some 14,none,.mov (.t 1)⟩,⟨some 15,none,.call .q (.f 34) [.t 13,.t 14]⟩,⟨some 4,none,.mov (.t 15)⟩])
 (.ret)))⟩
def c_lcRow : IFn := ⟨2,47,[.t 4],
 .seq (.reg none [⟨some 4,none,.mov (.c (.bool false))⟩])
 (.seq (.reg none [⟨some 7,none,.mov (.t 1)⟩,⟨some 8,none,.mks 1 4 1 [(.bool false)] (.t 7) (.t 7)⟩,⟨some 5,none,.mov (.t 8)⟩])
 (.seq (.seq (.reg none [⟨some 6,none,.mov (.c (.int .i64 0))⟩])
  (.block 0 (.loop (.seq (.seq (.reg none [⟨some 9,none,.mov (.t 6)⟩,⟨some 10,none,.mov (.t 0)⟩,⟨some 11,none,.len (.t 10)⟩,
     ⟨some 12,none,.bin .lss (.t 9) (.t 11)⟩])
    (.cond (.t 12) (.skip) (.exit 0)))
   (.seq (.block 1 (.seq (.seq (.reg none [⟨some 15,none,.mov (.t 0)⟩,⟨some 16,none,.mov (.t 6)⟩,⟨some 17,none,.iad 1 (.t 15) (.t 16)⟩,
      ⟨some 18,none,.load false 1 (.t 17)⟩,⟨some 19,none,.bin .lss (.t 18) (.c (.int .i64 0))⟩,⟨some 20,none,.mov (.t 19)⟩,
      ⟨some 21,some (20,false),.mov (.t 0)⟩,⟨some 22,some (20,false),.mov (.t 6)⟩,⟨some 23,some (20,false),.iad 1 (.t 21) (.t 22)⟩,
      ⟨some 24,some (20,false),.load false 1 (.t 23)⟩,⟨some 25,some (20,false),.mov (.t 1)⟩,⟨some 26,some (20,false),.bin .geq (.t 24) (.t 25)⟩,
      ⟨some 27,none,.pick (.t 20) (.c (.bool true)) (.t 26)⟩,⟨some 28,none,.mov (.t 27)⟩,⟨some 29,some (28,false),.mov (.t 5)⟩,
      ⟨some 30,some (28,false),.mov (.t 0)⟩,⟨some 31,some (28,false),.mov (.t 6)⟩,⟨some 32,some (28,false),.iad 1 (.t 30) (.t 31)⟩,
      ⟨some 33,some (28,false),.load false 1 (.t 32)⟩,⟨some 34,some (28,false),.iad 1 (.t 29) (.t 33)⟩,⟨some 35,some (28,false),.load false 1 (.t 34)⟩,
      ⟨some 36,none,.pick (.t 28) (.c (.bool true)) (.t 35)⟩])
     (.cond (.t 36) (.seq (.reg none [⟨some 4,none,.mov (.c (.bool false))⟩])
      (.ret)) (.skip)))
    (.reg none [⟨some 37,none,.mov (.t 5)⟩,⟨some 38,none,.mov (.t 0)⟩,⟨some 39,none,.mov (.t 6)⟩,⟨some 40,none,.iad 1 (.t 38) (.t 39)⟩,
     ⟨some 41,none,.load false 1 (.t 40)⟩,⟨some 42,none,.iad 1 (.t 37) (.t 41)⟩,⟨none,none,.store 1 (.t 42) (.c (.bool true))⟩])))
   (.reg none [⟨some 13,none,.mov (.t 6)⟩,⟨some 14,none,.bin .add (.t 13) (.c (.int .i64 1))⟩,⟨some 6,none,.mov (.t 14)⟩]))))))
 (.seq (.reg none [⟨some 43,none,.mov (.t 0)⟩,⟨some 44,none,.len (.t 43)⟩,⟨some 45,none,.mov (.t 1)⟩,⟨some 46,none,.bin .eql (.t 44) (.t 45)⟩,
   ⟨some 4,none,.mov (.t 46)⟩])
 (.ret))))⟩
def c_drTS : IFn := ⟨1,15,[.t 2,.t 3],
 .seq (.reg none [⟨some 2,none,.mov (.c (.int .i64 0))⟩,⟨some 3,none,.mov (.c (.slice none 0 0))⟩])
 (.seq (.reg none [⟨some 5,none,.mov (.t 0)⟩,⟨some 6,none,.call .n (.f 13) [.t 5]⟩,⟨some 4,none,.mov (.t 6)⟩])
 (.seq (.reg none [⟨some 7,none,.mov (.t 4)⟩,⟨some 8,none,.call .n (.f 14) [.t 7,(.c (.int .i64 9))]⟩,⟨some 9,none,.mov (.t 4)⟩,
   ⟨some 10,none,.call .n (.f 14) [.t 9,(.c (.int .i64 9))]⟩,⟨some 11,none,.bin .quo (.t 10) (.c (.int .i64 8))⟩,⟨some 12,none,.bin .sub (.t 8) (.t 11)⟩,
   ⟨some 13,none,.mov (.t 4)⟩,⟨some 14,none,.call .n (.f 15) [.t 13,(.c (.int .i64 3))]⟩,⟨some 2,none,.mov (.t 12)⟩,⟨some 3,none,.mov (.t 14)⟩])
 (.ret)))⟩
theorem iTSet_ok {F : Nat -> Option IFn} {f : Nat} (hf : F f = some c_iTSet) (gs : ∀ (H : Heap) (a : Int),QC F 32 [.int .i64 a] H (.bool (inB a 0 7))) (gr : RowOk F 33) (gt : ∀ (H : Heap) (s : Int) (v : Value) (row : List Int),0 <= s /\ s <= 7 -> rowB row 3 = true -> SlR Co.int (vw 0 H) v row -> QC F 34 [.int .i64 s,v] H (.int .i64 (tset row s))) : TSetOk F f := by
 intro H s v row r
 obtain ⟨_,a,rfl,_⟩ := id r
 refine QC.mk hf rfl ?_
 refine seq_reg ?_
 simp only [go_sem,binC]
 refine seq_assoc (seq_reg ?_)
 simp only [go_sem,binC]
 refine op_callQ (by simp only [go_sem,binC]; exact gs H s) ?_
 unfold tsetO
 cases h1 : inB s 0 7 with
 | false =>
   simp only [go_sem,binC]
   refine seq_cond (t := true) rfl ?_
   simp only [go_sem,binC]
   refine seq_assoc (seq_reg ?_)
   simp only [go_sem,binC]
   exact seq_ret ⟨Or.inr rfl,.int .i64 0,by simp only [go_sem,binC],by simp,rfl⟩
 | true =>
   simp only [go_sem,binC]
   refine op_callQ (by simp only [go_sem,binC]; exact gr H _ row 3 (by omega) r) ?_
   cases h2 : rowB row 3 with
   | false =>
     simp only [go_sem,binC]
     refine seq_cond (t := true) rfl ?_
     simp only [go_sem,binC]
     refine seq_assoc (seq_reg ?_)
     simp only [go_sem,binC]
     exact seq_ret ⟨Or.inr rfl,.int .i64 0,by simp only [go_sem,binC],by simp,rfl⟩
   | true =>
     simp only [go_sem,binC]
     refine seq_cond (t := false) rfl ?_
     simp only [go_sem,binC]
     refine seq_skip (seq_reg ?_)
     simp only [go_sem,binC]
     refine op_callQ (by simp only [go_sem,binC]; exact gt H s _ row (inB_iff.1 h1) h2 r) ?_
     simp only [go_sem,binC]
     exact wpc_ret ⟨Or.inr rfl,.int .i64 (tset row s),by simp only [go_sem,binC],by simp,rfl⟩
def DrawTS (F : Nat -> Option IFn) (f : Nat) : Prop := ∀ (H : Heap) (v : Value) (code : List Int),SlR Co.byte (vw 0 H) v code -> ∃ (s : Int) (w : Value) (row : List Int) (H' : Heap),KC F f [v] H (.tuple #[.int .i64 s,w]) H' /\ AgX [] H H' /\ SlR Co.int (vw 0 H') w row /\ row.length <= 100
theorem drTS_ok {F : Nat -> Option IFn} {f : Nat} (hf : F f = some c_drTS) (hop : F 13 = some c_l6Open) (hpk : F 14 = some c_pick) (hrw : F 15 = some c_drRow) : DrawTS F f := by
 intro H v code hv
 suffices h : ∃ x H',KC F f [v] H x H' /\ (∃ (s : Int) (w : Value) (row : List Int),x = .tuple #[.int .i64 s,w] /\ AgX [] H H' /\ SlR Co.int (vw 0 H') w row /\ row.length <= 100) by
  obtain ⟨x,H',h1,s,w,row,rfl,h2⟩ := h
  exact ⟨s,w,row,H',h1,h2⟩
 refine KC.mk hf rfl ?_
 refine seq_reg ?_
 simp only [go_sem,binC]
 refine seq_reg ?_
 simp only [go_sem,binC]
 obtain ⟨bv,code',k2,hc,hs2⟩ := l6Open_ok hop hv H.length (Nat.le_refl _)
 refine op_callN (by simp only [go_sem,binC]; exact k2) ?_
 simp only [go_sem,binC]
 refine wpc_gen fun H2 hH2 => ?_
 rw [<- hH2] at hs2
 have ht2 : AgX [] H H2 := hH2 ▸ AgX.app [] _ _
 have hn2 : H2.length = H.length + 1 := by rw [hH2,List.length_append]; rfl
 clear hH2
 refine seq_reg ?_
 simp only [go_sem,binC]
 refine op_draw (n := 9) hpk hc hs2 (by omega) (by omega) (Nat.le_refl _) (by simp only [go_sem,binC]) (by simp only [go_sem,binC]) fun H3 hl3 hx3 hs3 => ?_
 simp only [go_sem,binC]
 refine op_draw (n := 9) hpk hc hs3 (by omega) (by omega) (Nat.le_refl _) (by simp only [go_sem,binC]) (by simp only [go_sem,binC]) fun H4 hl4 hx4 hs4 => ?_
 obtain ⟨q,hq⟩ : ∃ q,binI .quo .i64 (pickV code' (0 + 1) 9) 8 = some (.int .i64 q) := ⟨_,rfl⟩
 simp only [go_sem,binC,hq]
 obtain ⟨v5,H5,p5,k5,x5,s5,c5,row,hns,hnl⟩ := drRow_ok hrw hpk hc (n := 3) (by omega) H4 _ H.length hs4 (by omega) (by omega) (by omega)
 refine op_callN (by simp only [go_sem,binC]; exact k5) ?_
 have ho5 : one v5 = true := by obtain ⟨_,a,rfl,_⟩ := hns; rfl
 simp only [go_sem,binC]
 obtain ⟨_,va,rfl,_⟩ := id hns
 refine wpc_ret ⟨Or.inr rfl,.tuple #[.int .i64 (IntKind.i64.wrap (pickV code' 0 9 - q)),.slice va row.length row.length],by simp [resV,resL,res1,putE_get,notT],_,_,row,rfl,?_,hns.mono (vwl0 _ _ _),hnl⟩
 exact ht2.trans (hx3.tr (hx4.tr x5)) (fun _ h _ => h) (fun b h1 h2 => by simp at h1; omega)
def LcRowOk (F : Nat -> Option IFn) (f : Nat) : Prop := ∀ (H : Heap) (v : Value) (row : List Int),SlR Co.int (vw 0 H) v row -> QC F f [v,.int .i64 3] H (.bool (rowB row 3))
def seenL (l : List Int) : List Value := [.bool (decide (0 ∈ l)),.bool (decide (1 ∈ l)),.bool (decide (2 ∈ l))]
theorem seenL_app {l : List Int} {x : Int} (h : x = 0 \/ x = 1 \/ x = 2) : (seenL l).set x.toNat (.bool true) = seenL (l ++ [x]) := by
 rcases h with rfl | rfl | rfl <;> simp [seenL]
theorem lcRow_ok {F : Nat -> Option IFn} {f : Nat} (hf : F f = some c_lcRow) : LcRowOk F f := by
 intro H v row r
 have r0 := r
 obtain ⟨hl0,va,rfl,_⟩ := r
 refine QC.mk hf rfl ?_
 refine seq_reg ?_
 simp only [go_sem,binC]
 refine seq_reg ?_
 simp only [go_sem,binC]
 refine ⟨by omega,?_⟩
 refine wpc_gen fun H1 hH1 => ?_
 have hx1 : AgX [] H H1 := hH1 ▸ AgX.app [] _ _
 have hb : H1[H.length]? = some ⟨seenL [],1,4,true,true⟩ := hH1 ▸ get_new0 _ _
 clear hH1
 refine seq_assoc (seq_reg ?_)
 simp only [go_sem,binC]
 refine seq_block (wpc_loop ?_)
 suffices h : ∀ (k i : Nat) (e : Env) (Hc : Heap),i + k = row.length -> AgX [] H Hc -> Hc[H.length]? = some ⟨seenL (row.take i),1,4,true,true⟩ -> (∀ x ∈ row.take i,0 <= x /\ x <= 2) -> (row.take i).Nodup -> e 0 = .slice va row.length row.length -> e 1 = .int .i64 3 -> e 5 = sli H.length 0 3 -> e 6 = .int .i64 i -> W F H.length _ e Hc _ from
  h row.length 0 _ H1 (by omega) hx1 hb (by simp) (by simp) (by simp only [go_sem,binC]) (by simp only [go_sem,binC]) (by (simp only [go_sem,binC]) <;> rfl) (by (simp only [go_sem,binC]) <;> rfl)
 intro k
 induction k with
 | zero =>
   intro i e Hc hi hx hbc hrg hnd e0 e1 e5 e6
   obtain rfl : i = row.length := by omega
   rw [List.take_length] at hrg hnd
   refine lp_step ?_
   refine seq_assoc (seq_reg ?_)
   simp only [go_sem,binC,e0,e6]
   refine seq_cond (t := false) (by simp only [go_sem,binC]; rw [decide_eq_false (by omega)]) ?_
   simp only [go_sem,binC]
   refine seq_exit ?_
   simp only [go_sem,binC,thenX_e,out_e,thenX_n]
   refine seq_reg ?_
   simp only [go_sem,binC,e0,e1]
   refine wpc_ret ⟨Or.inr rfl,_,(by (simp only [go_sem,binC]) <;> rfl),?_,rfl⟩
   exact congrArg Value.bool (Bool.eq_iff_iff.2 ⟨fun h => rowB_iff.2 ⟨by have := beq_iff_eq.1 h; omega,fun x hx => by have := hrg x hx; omega,hnd⟩,fun h => beq_iff_eq.2 (by have := (rowB_iff.1 h).1; omega)⟩)
 | succ k ih =>
   intro i e Hc hi hx hbc hrg hnd e0 e1 e5 e6
   have hil : i < row.length := by omega
   obtain ⟨b,o,hv1,hg⟩ := gcI (r0.mono (agx_sub hx)) hil
   simp only [Value.slice.injEq,and_true] at hv1
   subst hv1
   have hw1 : IntKind.i64.wrap ((i : Int) + 1) = ((i + 1 : Nat) : Int) := by rw [wrap_id (by omega) (by omega)]; omega
   have hbcl := (List.getElem?_eq_some_iff.1 hbc).1
   refine lp_step ?_
   refine seq_assoc (seq_reg ?_)
   simp only [go_sem,binC,e0,e6]
   refine seq_cond (t := true) (by simp only [go_sem,binC]; rw [decide_eq_true (by omega)]) ?_
   simp only [go_sem,binC]
   generalize hxv : row[i] = x at hg
   have hmem : x ∈ row := hxv ▸ List.getElem_mem hil
   refine seq_skip (seq_block (seq_assoc (seq_reg ?_)))
   simp only [go_sem,binC,e0,e6]
   refine ⟨⟨by omega,by omega⟩,?_⟩
   simp only [go_sem,binC,Int.toNat_natCast,Nat.mul_one,hg]
   have hbad : ¬(0 <= x /\ x <= 2) -> rowB row 3 = false := fun h => Bool.eq_false_iff.2 fun hr => h (by have := (rowB_iff.1 hr).2.1 x hmem; omega)
   have htk : row.take (i + 1) = row.take i ++ [x] := by rw [List.take_add_one,List.getElem?_eq_getElem hil,hxv]; rfl
   by_cases h0 : x < 0
   ·simp only [go_sem,binC,decide_eq_true h0]
    refine seq_cond (t := true) rfl ?_
    simp only [go_sem,binC]
    refine seq_assoc (seq_reg ?_)
    simp only [go_sem,binC]
    refine seq_ret ?_
    simp only [go_sem,binC,out_r,thenX_r]
    refine ⟨Or.inr rfl,.bool false,by simp [resV,resL,res1,putE_get,notT],?_,rfl⟩
    rw [hbad (by omega)]
   simp only [go_sem,binC,decide_eq_false h0,e0,e1,e6]
   refine ⟨⟨by omega,by omega⟩,?_⟩
   simp only [go_sem,binC,Int.toNat_natCast,Nat.mul_one,hg]
   by_cases h1 : 3 <= x
   ·simp only [go_sem,binC,decide_eq_true h1]
    refine seq_cond (t := true) rfl ?_
    simp only [go_sem,binC]
    refine seq_assoc (seq_reg ?_)
    simp only [go_sem,binC]
    refine seq_ret ?_
    simp only [go_sem,binC,out_r,thenX_r]
    refine ⟨Or.inr rfl,.bool false,by simp [resV,resL,res1,putE_get,notT],?_,rfl⟩
    rw [hbad (by omega)]
   simp only [go_sem,binC,decide_eq_false h1,e0,e5,e6]
   refine ⟨⟨by omega,by omega⟩,?_⟩
   simp only [go_sem,binC,Nat.mul_one,Int.toNat_natCast,hg,sli]
   have hx3 : x = 0 \/ x = 1 \/ x = 2 := by omega
   have hsg : getCells Hc H.length x.toNat 1 = some [.bool (decide (x ∈ row.take i))] := by
    unfold getCells
    rw [hbc]
    rcases hx3 with rfl | rfl | rfl <;> simp [seenL]
   refine ⟨⟨by omega,by omega⟩,?_⟩
   simp only [go_sem,binC,Nat.mul_one,hsg,ptr]
   by_cases hm : x ∈ row.take i
   ·simp only [go_sem,binC,decide_eq_true hm]
    refine seq_cond (t := true) rfl ?_
    simp only [go_sem,binC]
    refine seq_assoc (seq_reg ?_)
    simp only [go_sem,binC]
    refine seq_ret ?_
    simp only [go_sem,binC,out_r,thenX_r]
    refine ⟨Or.inr rfl,.bool false,by simp [resV,resL,res1,putE_get,notT],?_,rfl⟩
    have hr : rowB row 3 = false := Bool.eq_false_iff.2 fun hr => by
     have := (rowB_iff.1 hr).2.2.sublist (List.take_sublist (i + 1) row)
     rw [htk,List.nodup_append] at this
     exact this.2.2 x hm x (by simp) rfl
    rw [hr]
   simp only [go_sem,binC,decide_eq_false hm]
   refine seq_cond (t := false) rfl ?_
   simp only [go_sem,binC]
   refine seq_skip (wpc_reg ?_)
   simp only [go_sem,binC,e0,e5,e6]
   refine ⟨⟨by omega,by omega⟩,?_⟩
   simp only [go_sem,binC,Nat.mul_one,Int.toNat_natCast,hg,sli]
   refine ⟨⟨by omega,by omega⟩,?_⟩
   simp only [go_sem,binC,Nat.mul_one,ptr,hbc]
   refine ⟨by simp [seenL]; omega,?_⟩
   simp only [go_sem,binC,out_n,thenX_n,seenL_app hx3]
   have hgs : (Hc.set H.length ⟨seenL (row.take i ++ [x]),1,4,true,true⟩)[H.length]? = some ⟨seenL (row.take i ++ [x]),1,4,true,true⟩ := List.getElem?_set_self hbcl
   refine wpc_reg ?_
   simp only [go_sem,binC,e6,hw1]
   simp only [go_sem,binC,thenX_n]
   refine ih (i + 1) _ _ (by omega) (hx.setN (Nat.le_refl _) _) (by rw [htk]; exact hgs) (fun y hy => ?_) ?_ (by simp only [go_sem,binC,e0]) (by simp only [go_sem,binC,e1]) (by simp only [go_sem,binC,e5,sli]) (by simp only [go_sem,binC])
   ·rw [htk,List.mem_append,List.mem_singleton] at hy
    rcases hy with hy | rfl
    ·exact hrg y hy
    ·omega
   ·rw [htk,List.nodup_append]
    refine ⟨hnd,by simp,fun a ha b hb h => ?_⟩
    rw [List.mem_singleton] at hb
    subst hb
    subst h
    exact hm ha
end Go.Proofs.YtbjeldblaclpnaaGreatI
end
section
set_option linter.unusedVariables false
set_option linter.unusedSimpArgs false
namespace Go.Proofs.YtbjeldblaclpnaaGreatI
open Go Go.RowKit
def iSetsTail : ICode := (.reg (some 10) [⟨some 26,none,.mov (.t 5)⟩,⟨some 27,none,.load true 2 (.t 2)⟩,⟨some 28,none,.fad 6 (.t 7)⟩,
    ⟨some 29,none,.load false 1 (.t 28)⟩,⟨some 30,none,.call .q (.f 53) [.t 27,.t 29]⟩,⟨some 31,none,.load true 2 (.t 2)⟩,⟨some 32,none,.fad 7 (.t 7)⟩,
    ⟨some 33,none,.load false 1 (.t 32)⟩,⟨some 34,none,.call .q (.f 53) [.t 31,.t 33]⟩,⟨some 35,none,.bin .or (.t 30) (.t 34)⟩,
    ⟨some 36,none,.bin .or (.t 26) (.t 35)⟩,⟨some 5,none,.mov (.t 36)⟩])
def c_iSets : IFn := ⟨2,39,[.t 4],
 .seq (.reg none [⟨some 2,none,.box (.t 0)⟩,⟨some 4,none,.mov (.c (.int .i64 0))⟩])
 (.seq (.reg none [⟨some 5,none,.mov (.c (.int .i64 0))⟩])
 (.seq (.seq (.reg none [⟨some 8,none,.mov (.t 1)⟩,⟨some 9,none,.len (.t 8)⟩,⟨some 10,none,.mov (.c (.int .i64 0))⟩])
  (.block 0 (.loop (.seq (.reg none [⟨some 11,none,.bin .lss (.t 10) (.t 9)⟩])
   (.seq (.cond (.t 11) (.skip) (.exit 0))
   (.seq (.block 1 (.seq (.reg none [⟨some 12,none,.iad 8 (.t 8) (.t 10)⟩,⟨some 13,none,.load true 8 (.t 12)⟩,
      ⟨some 7,none,.new [(.int .i64 0),(.int .i64 0),(.int .i64 0),(.int .i64 0),(.int .i64 0),(.int .i64 0),(.slice none 0 0),(.slice none 0 0)]⟩,
      ⟨none,none,.store 8 (.t 7) (.t 13)⟩])
    (.seq (.seq (.reg none [⟨some 14,none,.fad 0 (.t 7)⟩,⟨some 15,none,.load false 1 (.t 14)⟩,⟨some 16,none,.bin .eql (.t 15) (.c (.int .i64 1))⟩])
     (.cond (.t 16) (.reg none [⟨some 17,none,.mov (.t 5)⟩,⟨some 18,none,.fad 0 (.t 2)⟩,⟨some 19,none,.load false 1 (.t 18)⟩,⟨some 20,none,.fad 1 (.t 7)⟩,
       ⟨some 21,none,.load false 1 (.t 20)⟩,⟨some 22,none,.iad 2 (.t 19) (.t 21)⟩,⟨some 23,none,.fad 1 (.t 22)⟩,⟨some 24,none,.load false 1 (.t 23)⟩,
       ⟨some 25,none,.bin .or (.t 17) (.t 24)⟩,⟨some 5,none,.mov (.t 25)⟩]) (.skip)))
    iSetsTail)))
   (.reg none [⟨some 37,none,.bin .add (.t 10) (.c (.int .i64 1))⟩,⟨some 10,none,.mov (.t 37)⟩])))))))
 (.seq (.reg none [⟨some 38,none,.mov (.t 5)⟩,⟨some 4,none,.mov (.t 38)⟩])
 (.ret))))⟩
def sSetsTail : ICode := (.reg (some 10) [⟨some 30,none,.mov (.t 5)⟩,⟨some 31,none,.load true 2 (.t 2)⟩,⟨some 32,none,.fad 6 (.t 7)⟩,
    ⟨some 33,none,.load false 1 (.t 32)⟩,⟨some 34,none,.call .q (.f 86) [.t 31,.t 33]⟩,⟨some 35,none,.load true 2 (.t 2)⟩,⟨some 36,none,.fad 7 (.t 7)⟩,
    ⟨some 37,none,.load false 1 (.t 36)⟩,⟨some 38,none,.call .q (.f 86) [.t 35,.t 37]⟩,⟨some 39,none,.call .q (.f 75) [.t 34,.t 38]⟩,
    ⟨some 40,none,.call .q (.f 75) [.t 30,.t 39]⟩,⟨some 5,none,.mov (.t 40)⟩])
def c_sSets : IFn := ⟨2,42,[.t 4],
 .seq (.reg none [⟨some 2,none,.box (.t 0)⟩,⟨some 4,none,.mov (.c (.int .i64 0))⟩])
 (.seq (.reg none [⟨some 5,none,.mov (.c (.int .i64 0))⟩])
 (.seq (.seq (.reg none [⟨some 6,none,.mov (.c (.int .i64 0))⟩])
  (.block 0 (.loop (.seq (.seq (.reg none [⟨some 8,none,.mov (.t 6)⟩,⟨some 9,none,.mov (.t 1)⟩,⟨some 10,none,.len (.t 9)⟩,
     ⟨some 11,none,.bin .lss (.t 8) (.t 10)⟩])
    (.cond (.t 11) (.skip) (.exit 0)))
   (.seq (.block 1 (.seq (.reg none [⟨some 14,none,.mov (.t 1)⟩,⟨some 15,none,.mov (.t 6)⟩,⟨some 16,none,.iad 8 (.t 14) (.t 15)⟩,
      ⟨some 17,none,.load true 8 (.t 16)⟩,
      ⟨some 7,none,.new [(.int .i64 0),(.int .i64 0),(.int .i64 0),(.int .i64 0),(.int .i64 0),(.int .i64 0),(.slice none 0 0),(.slice none 0 0)]⟩,
      ⟨none,none,.store 8 (.t 7) (.t 17)⟩])
    (.seq (.seq (.reg none [⟨some 18,none,.fad 0 (.t 7)⟩,⟨some 19,none,.load false 1 (.t 18)⟩,⟨some 20,none,.bin .eql (.t 19) (.c (.int .i64 1))⟩])
     (.cond (.t 20) (.reg none [⟨some 21,none,.mov (.t 5)⟩,⟨some 22,none,.fad 0 (.t 2)⟩,⟨some 23,none,.load false 1 (.t 22)⟩,⟨some 24,none,.fad 1 (.t 7)⟩,
       ⟨some 25,none,.load false 1 (.t 24)⟩,⟨some 26,none,.iad 2 (.t 23) (.t 25)⟩,⟨some 27,none,.fad 1 (.t 26)⟩,⟨some 28,none,.load false 1 (.t 27)⟩,
       ⟨some 29,none,.call .q (.f 75) [.t 21,.t 28]⟩,⟨some 5,none,.mov (.t 29)⟩]) (.skip)))
    sSetsTail)))
   (.reg none [⟨some 12,none,.mov (.t 6)⟩,⟨some 13,none,.bin .add (.t 12) (.c (.int .i64 1))⟩,⟨some 6,none,.mov (.t 13)⟩]))))))
 (.seq (.reg none [⟨some 41,none,.mov (.t 5)⟩,⟨some 4,none,.mov (.t 41)⟩])
 (.ret))))⟩
def orS (a b : Int) : Int := a + b - bothS a b 3
theorem orS_all : ∀ a b : Fin 8,(0 <= orS (a.val : Int) b.val /\ orS (a.val : Int) b.val <= 7) /\ IntKind.i64.wrap ((BitVec.ofInt 64 (a.val : Int) ||| BitVec.ofInt 64 (b.val : Int)).toNat : Nat) = orS a.val b.val /\ orS 0 (a.val : Int) = a.val /\ orS (a.val : Int) 0 = a.val /\ orS (a.val : Int) b.val = orS b.val a.val /\ orS (a.val : Int) a.val = a.val := by decide +kernel
theorem orS_asc : ∀ a b c : Fin 8,orS (orS (a.val : Int) b.val) c.val = orS a.val (orS b.val c.val) := by decide +kernel
abbrev R7 (a : Int) : Prop := 0 <= a /\ a <= 7
theorem orS_bd {a b : Int} (ha : R7 a) (hb : R7 b) : R7 (orS a b) := by
 obtain ⟨x,rfl⟩ := fin8 ha
 obtain ⟨y,rfl⟩ := fin8 hb
 exact (orS_all x y).1
theorem or_orS {a b : Int} (ha : R7 a) (hb : R7 b) : IntKind.i64.wrap ((BitVec.ofInt 64 a ||| BitVec.ofInt 64 b).toNat : Nat) = orS a b := by
 obtain ⟨x,rfl⟩ := fin8 ha
 obtain ⟨y,rfl⟩ := fin8 hb
 exact (orS_all x y).2.1
theorem orS_0 {a : Int} (ha : R7 a) : orS 0 a = a := by
 obtain ⟨x,rfl⟩ := fin8 ha
 exact (orS_all x 0).2.2.1
theorem orS_assoc {a b c : Int} (ha : R7 a) (hb : R7 b) (hc : R7 c) : orS (orS a b) c = orS a (orS b c) := by
 obtain ⟨x,rfl⟩ := fin8 ha
 obtain ⟨y,rfl⟩ := fin8 hb
 obtain ⟨z,rfl⟩ := fin8 hc
 exact orS_asc x y z
theorem binI_orJ {a b : Int} (ha : R7 a) (hb : R7 b) : binI .or .i64 a b = some (.int .i64 (orS a b)) := by
 show some (Value.int .i64 (IntKind.i64.wrap ((BitVec.ofInt 64 a ||| BitVec.ofInt 64 b).toNat : Nat))) = _
 rw [or_orS ha hb]
def stT : (n : Nat) -> List (Int × Int) -> TStep n -> Int
 | 0,_,s => s.elim
 | n + 1,ls,(k,x,_,_,th,el) => orS (if k = 1 then (ls.getD x.toNat (0,0)).2 else 0) (orS ((th.map (stT n ls)).foldl orS 0) ((el.map (stT n ls)).foldl orS 0))
def stL (n : Nat) (ls : List (Int × Int)) (l : List (TStep n)) : Int := (l.map (stT n ls)).foldl orS 0
theorem stT_succ (n : Nat) (ls : List (Int × Int)) (k x : Int) (v : Int × Int × Int) (g : Int) (th el : List (TStep n)) : stT (n + 1) ls (k,x,v,g,th,el) = orS (if k = 1 then (ls.getD x.toNat (0,0)).2 else 0) (orS (stL n ls th) (stL n ls el)) := rfl
theorem stL_take {n : Nat} {ls : List (Int × Int)} {l : List (TStep n)} {i : Nat} (h : i < l.length) : stL n ls (l.take (i + 1)) = orS (stL n ls (l.take i)) (stT n ls l[i]) := by
 unfold stL
 rw [List.take_add_one,List.getElem?_eq_getElem h,List.map_append,List.foldl_append]
 rfl
theorem foldl_bd : ∀ (xs : List Int) (a : Int),R7 a -> (∀ x ∈ xs,R7 x) -> R7 (xs.foldl orS a)
 | [],_,h,_ => h
 | x :: xs,a,h,hx => foldl_bd xs _ (orS_bd h (hx x List.mem_cons_self)) fun y hy => hx y (List.mem_cons_of_mem _ hy)
theorem stT_bd {ls : List (Int × Int)} (hl : ls.all labB = true) : ∀ (n : Nat) (s : TStep n),R7 (stT n ls s)
 | 0,s => s.elim
 | n + 1,(k,x,v,g,th,el) => by
   have go : ∀ l : List (TStep n),R7 (stL n ls l) := fun l => foldl_bd _ _ ⟨by omega,by omega⟩ fun y hy => by
    obtain ⟨a,_,rfl⟩ := List.mem_map.1 hy
    exact stT_bd hl n a
   rw [stT_succ]
   refine orS_bd ?_ (orS_bd (go th) (go el))
   split
   ·exact (labB_i.1 (lab_getD hl _)).2
   ·exact ⟨by omega,by omega⟩
theorem stL_bd {ls : List (Int × Int)} (hl : ls.all labB = true) {n : Nat} (l : List (TStep n)) : R7 (stL n ls l) := foldl_bd _ _ ⟨by omega,by omega⟩ fun y hy => by
 obtain ⟨a,_,rfl⟩ := List.mem_map.1 hy
 exact stT_bd hl n a
def EitherOk (F : Nat -> Option IFn) (f : Nat) : Prop := ∀ (H : Heap) (a b : Int),0 <= a -> a <= 7 -> 0 <= b -> b <= 7 -> QC F f [.int .i64 a,.int .i64 b] H (.int .i64 (orS a b))
def STOk (F : Nat -> Option IFn) (f n : Nat) : Prop := ∀ (H : Heap) (lv sv v : Value) (ls : List (Int × Int)) (l : List (TStep n)),one sv = true -> SlR Co.p2 (vw 0 H) lv ls -> SlR (Co.step n) (vw 0 H) v l -> ls.all labB = true -> (∀ s ∈ allL n l,varB ls.length s.2.1 = true) -> QC F f [.agg #[lv,sv],v] H (.int .i64 (stL n ls l))
theorem iSets_ok {F : Nat -> Option IFn} {f n : Nat} (hf : F f = some c_iSets) (ih : ∀ m,n = m + 1 -> STOk F 53 m) : STOk F f n := by
 intro H lv sv v ls l osv r1 hv hlab hvar
 obtain ⟨_,la,rfl,_⟩ := id r1
 have hv0 := hv
 obtain ⟨h0,av,rfl,hv1⟩ := hv
 refine QC.mk hf rfl ?_
 refine seq_reg ?_
 simp only [go_sem,binC,osv]
 refine wpc_gen fun H1 hH1 => ?_
 have hx1 : AgX [] H H1 := hH1 ▸ AgX.app [] _ _
 have hb1 : H1[H.length]? = some ⟨[.slice la ls.length ls.length,sv],0,0,false,true⟩ := hH1 ▸ get_new0 _ _
 clear hH1
 refine seq_reg ?_
 simp only [go_sem,binC]
 refine seq_assoc (seq_reg ?_)
 simp only [go_sem,binC]
 refine seq_block (wpc_loop ?_)
 suffices h : ∀ (k i : Nat) (e : Env) (Hc : Heap),i + k = l.length -> AgX [] H1 Hc -> e 2 = ptr H.length 0 -> e 5 = .int .i64 (stL n ls (l.take i)) -> e 8 = .slice av l.length l.length -> e 9 = .int .i64 l.length -> e 10 = .int .i64 i -> W F H.length _ e Hc _ from
  h l.length 0 _ H1 (by omega) (AgX.refl _ _) (by simp only [go_sem,binC]) (by (simp only [go_sem,binC]) <;> rfl) (by simp only [go_sem,binC]) (by simp only [go_sem,binC]) (by (simp only [go_sem,binC]) <;> rfl)
 intro k
 induction k with
 | zero =>
   intro i e Hc hi hxc e2 e5 e8 e9 e10
   refine lp_step ?_
   refine seq_reg ?_
   simp only [go_sem,binC,e9,e10]
   refine seq_cond (t := false) (by simp only [go_sem,binC]; rw [decide_eq_false (by omega)]) ?_
   simp only [go_sem,binC]
   refine seq_exit ?_
   simp only [go_sem,binC,thenX_e,out_e,thenX_n]
   refine seq_reg ?_
   simp only [go_sem,binC,e5]
   rw [List.take_of_length_le (by omega)]
   exact wpc_ret ⟨Or.inr rfl,_,(by (simp only [go_sem,binC]) <;> rfl),rfl,rfl⟩
 | succ k ihk =>
   intro i e Hc hi hxc e2 e5 e8 e9 e10
   have hil : i < l.length := by omega
   cases n with
   | zero => exact (l[i]).elim
   | succ n =>
   have hw1 : IntKind.i64.wrap ((i : Int) + 1) = ((i + 1 : Nat) : Int) := by rw [wrap_id (by omega) (by omega)]; omega
   obtain ⟨vb,vo,sk,sx,sa,sbb,sc,sg,tv,ev,tl,el,hav,hs,rg,otv,oev,hgc,htl,hel⟩ := step_at hv0 hil
   simp only [Value.slice.injEq,and_true] at hav
   subst hav
   have hmem : ∀ s,s ∈ allT (n + 1) l[i] -> varB ls.length s.2.1 = true := fun s hs' => hvar s (mem_allL hil hs')
   rw [hs,allT_succ] at hmem
   have hvx := varB_i.1 (hmem _ (List.mem_cons_self))
   simp only at hvx
   have hx0c := hx1.tr hxc
   obtain ⟨lb,lo',hla,hgl0,_⟩ := lab_at (r1.mono (agx_sub hx0c)) (H := Hc) (fun _ _ h => h) hvx.1 hvx.2
   simp only [Value.slice.injEq,and_true] at hla
   subst hla
   have hlx := labB_i.1 (lab_getD hlab sx.toNat)
   have hbc := hxc.get hb1 (by simp)
   have hlc := hxc.1
   have hl1 := (List.getElem?_eq_some_iff.1 hb1).1
   have hq0 := stL_bd hlab (l.take i)
   have hqt := stL_bd hlab tl
   have hqe := stL_bd hlab el
   have htake := stL_take (ls := ls) hil
   rw [hs,stT_succ] at htake
   have hg8 := hgc _ (agx_sub hx0c)
   refine lp_step ?_
   refine seq_reg ?_
   simp only [go_sem,binC,e9,e10]
   refine seq_cond (t := true) (by simp only [go_sem,binC]; rw [decide_eq_true (by omega)]) ?_
   simp only [go_sem,binC]
   refine seq_skip (seq_block (seq_reg ?_))
   simp only [go_sem,binC,e8,e10]
   refine ⟨⟨by omega,by omega⟩,?_⟩
   simp only [go_sem,binC,Int.toNat_natCast,hg8,otv,oev]
   refine ⟨by omega,?_⟩
   refine wpc_gen fun H2 hH2 => ?_
   have hx2 : AgX [] Hc H2 := hH2 ▸ AgX.app [] _ _
   have hs2 : H2[Hc.length]? = some ⟨[.int .i64 sk,.int .i64 sx,.int .i64 sa,.int .i64 sbb,.int .i64 sc,.int .i64 sg,tv,ev],0,0,false,true⟩ := hH2 ▸ get_new0 _ _
   have hgl1 := hgl0 []
   rw [List.append_nil] at hgl1
   have hgl2 : getCells H2 lb (lo' + sx.toNat * 2 + 1) 1 = some [.int .i64 (ls.getD sx.toNat (0,0)).2] := gcK (gc_part (off := 1) (k := 1) hgl1 (by omega)) hx2
   clear hH2
   have hb2 := hx2.get hbc (by simp)
   have hx02 := hx0c.tr hx2
   have r12 := r1.mono (agx_sub hx02)
   refine wpc_genK fun KK hKK => ?_
   have hrest : ∀ (e' : Env) (o : Int),e' 2 = ptr H.length 0 -> e' 5 = .int .i64 o -> e' 7 = ptr Hc.length 0 -> R7 o -> orS o (orS (stL n ls tl) (stL n ls el)) = stL (n + 1) ls (l.take (i + 1)) -> e' 8 = e 8 -> e' 9 = e 9 -> e' 10 = e 10 -> wpc F H.length iSetsTail e' H2 KK := by
    intro e' o f2 f5 f7 ho hfin f8 f9 f10
    rw [hKK]
    unfold iSetsTail
    refine wpc_regD ?_
    simp only [go_sem,binC,f2,f5,f7,gc_of hb2,gc_of hs2,inBlk_some,osv,otv]
    refine op_callQ (by simp only [go_sem,binC]; exact ih n rfl H2 _ sv tv ls tl osv r12 (htl.mono (agx_sub hx02)) hlab (fun s hs' => hmem s (List.mem_cons_of_mem _ (List.mem_append_left _ hs')))) ?_
    simp only [go_sem,binC,f2,f7,gc_of hb2,gc_of hs2,inBlk_some,osv,oev]
    refine op_callQ (by simp only [go_sem,binC]; exact ih n rfl H2 _ sv ev ls el osv r12 (hel.mono (agx_sub hx02)) hlab (fun s hs' => hmem s (List.mem_cons_of_mem _ (List.mem_append_right _ hs')))) ?_
    simp only [go_sem,binC,f5,binI_orJ hqt hqe,binI_orJ ho (orS_bd hqt hqe)]
    simp only [go_sem,binC,out_n,thenX_n]
    refine wpc_reg ?_
    simp only [go_sem,binC,f10,e10,hw1]
    simp only [go_sem,binC,thenX_n]
    exact ihk (i + 1) _ H2 (by omega) (hxc.tr hx2) (by simp only [go_sem,binC,f2]) (by simp only [go_sem,binC,hfin]) (by simp only [go_sem,binC,f8,e8]) (by simp only [go_sem,binC,f9,e9]) (by simp only [go_sem,binC])
   refine seq_assoc (seq_reg ?_)
   simp only [go_sem,binC,gc_of hs2,inBlk_some]
   by_cases k1 : sk = 1
   ·simp only [go_sem,binC,beq_t k1]
    refine seq_cond (t := true) rfl ?_
    simp only [go_sem,binC]
    refine seq_reg ?_
    simp only [go_sem,binC,e2,e5,gc_of hb2,gc_of hs2,inBlk_some]
    refine ⟨⟨by omega,by omega⟩,?_⟩
    simp only [go_sem,binC,hgl2,e5,binI_orJ hq0 hlx.2]
    refine hrest _ (orS (stL (n + 1) ls (l.take i)) (ls.getD sx.toNat (0,0)).2) (by simp only [go_sem,binC,e2]) (by simp only [go_sem,binC]) (by simp only [go_sem,binC]) (orS_bd hq0 hlx.2) ?_ (by simp only [go_sem,binC]) (by simp only [go_sem,binC]) (by simp only [go_sem,binC])
    rw [htake,if_pos k1,orS_assoc hq0 hlx.2 (orS_bd hqt hqe)]
   ·simp only [go_sem,binC,beq_f k1]
    refine seq_cond (t := false) rfl ?_
    simp only [go_sem,binC]
    refine seq_skip ?_
    refine hrest _ (stL (n + 1) ls (l.take i)) (by simp only [go_sem,binC,e2]) (by simp only [go_sem,binC,e5]) (by simp only [go_sem,binC]) hq0 ?_ (by simp only [go_sem,binC]) (by simp only [go_sem,binC]) (by simp only [go_sem,binC])
    rw [htake,if_neg k1,orS_0 (orS_bd hqt hqe)]
theorem iSets_all {F : Nat -> Option IFn} (hf : F 53 = some c_iSets) : ∀ n,STOk F 53 n
 | 0 => iSets_ok hf fun m h => by omega
 | n + 1 => iSets_ok hf fun m h => by cases h; exact iSets_all hf n
theorem sSets_ok {F : Nat -> Option IFn} {f n : Nat} (hf : F f = some c_sSets) (ge : EitherOk F 75) (ih : ∀ m,n = m + 1 -> STOk F 86 m) : STOk F f n := by
 intro H lv sv v ls l osv r1 hv hlab hvar
 obtain ⟨_,la,rfl,_⟩ := id r1
 have hv0 := hv
 obtain ⟨h0,av,rfl,hv1⟩ := hv
 refine QC.mk hf rfl ?_
 refine seq_reg ?_
 simp only [go_sem,binC,osv]
 refine wpc_gen fun H1 hH1 => ?_
 have hx1 : AgX [] H H1 := hH1 ▸ AgX.app [] _ _
 have hb1 : H1[H.length]? = some ⟨[.slice la ls.length ls.length,sv],0,0,false,true⟩ := hH1 ▸ get_new0 _ _
 clear hH1
 refine seq_reg ?_
 simp only [go_sem,binC]
 refine seq_assoc (seq_reg ?_)
 simp only [go_sem,binC]
 refine seq_block (wpc_loop ?_)
 suffices h : ∀ (k i : Nat) (e : Env) (Hc : Heap),i + k = l.length -> AgX [] H1 Hc -> e 2 = ptr H.length 0 -> e 5 = .int .i64 (stL n ls (l.take i)) -> e 1 = .slice av l.length l.length -> e 6 = .int .i64 i -> W F H.length _ e Hc _ from
  h l.length 0 _ H1 (by omega) (AgX.refl _ _) (by simp only [go_sem,binC]) (by (simp only [go_sem,binC]) <;> rfl) (by simp only [go_sem,binC]) (by (simp only [go_sem,binC]) <;> rfl)
 intro k
 induction k with
 | zero =>
   intro i e Hc hi hxc e2 e5 e1 e6
   refine lp_step ?_
   refine seq_assoc (seq_reg ?_)
   simp only [go_sem,binC,e1,e6]
   refine seq_cond (t := false) (by simp only [go_sem,binC]; rw [decide_eq_false (by omega)]) ?_
   simp only [go_sem,binC]
   refine seq_exit ?_
   simp only [go_sem,binC,thenX_e,out_e,thenX_n]
   refine seq_reg ?_
   simp only [go_sem,binC,e5]
   rw [List.take_of_length_le (by omega)]
   exact wpc_ret ⟨Or.inr rfl,_,(by (simp only [go_sem,binC]) <;> rfl),rfl,rfl⟩
 | succ k ihk =>
   intro i e Hc hi hxc e2 e5 e1 e6
   have hil : i < l.length := by omega
   cases n with
   | zero => exact (l[i]).elim
   | succ n =>
   have hw1 : IntKind.i64.wrap ((i : Int) + 1) = ((i + 1 : Nat) : Int) := by rw [wrap_id (by omega) (by omega)]; omega
   obtain ⟨vb,vo,sk,sx,sa,sbb,sc,sg,tv,ev,tl,el,hav,hs,rg,otv,oev,hgc,htl,hel⟩ := step_at hv0 hil
   simp only [Value.slice.injEq,and_true] at hav
   subst hav
   have hmem : ∀ s,s ∈ allT (n + 1) l[i] -> varB ls.length s.2.1 = true := fun s hs' => hvar s (mem_allL hil hs')
   rw [hs,allT_succ] at hmem
   have hvx := varB_i.1 (hmem _ (List.mem_cons_self))
   simp only at hvx
   have hx0c := hx1.tr hxc
   obtain ⟨lb,lo',hla,hgl0,_⟩ := lab_at (r1.mono (agx_sub hx0c)) (H := Hc) (fun _ _ h => h) hvx.1 hvx.2
   simp only [Value.slice.injEq,and_true] at hla
   subst hla
   have hlx := labB_i.1 (lab_getD hlab sx.toNat)
   have hbc := hxc.get hb1 (by simp)
   have hlc := hxc.1
   have hl1 := (List.getElem?_eq_some_iff.1 hb1).1
   have hq0 := stL_bd hlab (l.take i)
   have hqt := stL_bd hlab tl
   have hqe := stL_bd hlab el
   have htake := stL_take (ls := ls) hil
   rw [hs,stT_succ] at htake
   have hg8 := hgc _ (agx_sub hx0c)
   refine lp_step ?_
   refine seq_assoc (seq_reg ?_)
   simp only [go_sem,binC,e1,e6]
   refine seq_cond (t := true) (by simp only [go_sem,binC]; rw [decide_eq_true (by omega)]) ?_
   simp only [go_sem,binC]
   refine seq_skip (seq_block (seq_reg ?_))
   simp only [go_sem,binC,e1,e6]
   refine ⟨⟨by omega,by omega⟩,?_⟩
   simp only [go_sem,binC,Int.toNat_natCast,hg8,otv,oev]
   refine ⟨by omega,?_⟩
   refine wpc_gen fun H2 hH2 => ?_
   have hx2 : AgX [] Hc H2 := hH2 ▸ AgX.app [] _ _
   have hs2 : H2[Hc.length]? = some ⟨[.int .i64 sk,.int .i64 sx,.int .i64 sa,.int .i64 sbb,.int .i64 sc,.int .i64 sg,tv,ev],0,0,false,true⟩ := hH2 ▸ get_new0 _ _
   have hgl1 := hgl0 []
   rw [List.append_nil] at hgl1
   have hgl2 : getCells H2 lb (lo' + sx.toNat * 2 + 1) 1 = some [.int .i64 (ls.getD sx.toNat (0,0)).2] := gcK (gc_part (off := 1) (k := 1) hgl1 (by omega)) hx2
   clear hH2
   have hb2 := hx2.get hbc (by simp)
   have hx02 := hx0c.tr hx2
   have r12 := r1.mono (agx_sub hx02)
   refine wpc_genK fun KK hKK => ?_
   have hrest : ∀ (e' : Env) (o : Int),e' 2 = ptr H.length 0 -> e' 5 = .int .i64 o -> e' 7 = ptr Hc.length 0 -> R7 o -> orS o (orS (stL n ls tl) (stL n ls el)) = stL (n + 1) ls (l.take (i + 1)) -> e' 1 = e 1 -> e' 6 = e 6 -> wpc F H.length sSetsTail e' H2 KK := by
    intro e' o f2 f5 f7 ho hfin f1 f6
    rw [hKK]
    unfold sSetsTail
    refine wpc_regD ?_
    simp only [go_sem,binC,f2,f5,f7,gc_of hb2,gc_of hs2,inBlk_some,osv,otv]
    refine op_callQ (by simp only [go_sem,binC]; exact ih n rfl H2 _ sv tv ls tl osv r12 (htl.mono (agx_sub hx02)) hlab (fun s hs' => hmem s (List.mem_cons_of_mem _ (List.mem_append_left _ hs')))) ?_
    simp only [go_sem,binC,f2,f7,gc_of hb2,gc_of hs2,inBlk_some,osv,oev]
    refine op_callQ (by simp only [go_sem,binC]; exact ih n rfl H2 _ sv ev ls el osv r12 (hel.mono (agx_sub hx02)) hlab (fun s hs' => hmem s (List.mem_cons_of_mem _ (List.mem_append_right _ hs')))) ?_
    simp only [go_sem,binC]
    refine op_callQ (by simp only [go_sem,binC]; exact ge H2 _ _ hqt.1 hqt.2 hqe.1 hqe.2) ?_
    have hqq := orS_bd hqt hqe
    simp only [go_sem,binC,f5]
    refine op_callQ (by simp only [go_sem,binC,f5]; exact ge H2 _ _ ho.1 ho.2 hqq.1 hqq.2) ?_
    simp only [go_sem,binC]
    simp only [go_sem,binC,out_n,thenX_n]
    refine wpc_reg ?_
    simp only [go_sem,binC,f6,e6,hw1]
    simp only [go_sem,binC,thenX_n]
    exact ihk (i + 1) _ H2 (by omega) (hxc.tr hx2) (by simp only [go_sem,binC,f2]) (by simp only [go_sem,binC,hfin]) (by simp only [go_sem,binC,f1,e1]) (by simp only [go_sem,binC])
   refine seq_assoc (seq_reg ?_)
   simp only [go_sem,binC,gc_of hs2,inBlk_some]
   by_cases k1 : sk = 1
   ·simp only [go_sem,binC,beq_t k1]
    refine seq_cond (t := true) rfl ?_
    simp only [go_sem,binC]
    refine seq_reg ?_
    simp only [go_sem,binC,e2,e5,gc_of hb2,gc_of hs2,inBlk_some]
    refine ⟨⟨by omega,by omega⟩,?_⟩
    simp only [go_sem,binC,hgl2,e5]
    refine op_callQ (by simp only [go_sem,binC,e5]; exact ge H2 _ _ hq0.1 hq0.2 hlx.2.1 hlx.2.2) ?_
    simp only [go_sem,binC]
    refine hrest _ (orS (stL (n + 1) ls (l.take i)) (ls.getD sx.toNat (0,0)).2) (by simp only [go_sem,binC,e2]) (by simp only [go_sem,binC]) (by simp only [go_sem,binC]) (orS_bd hq0 hlx.2) ?_ (by simp only [go_sem,binC]) (by simp only [go_sem,binC])
    rw [htake,if_pos k1,orS_assoc hq0 hlx.2 (orS_bd hqt hqe)]
   ·simp only [go_sem,binC,beq_f k1]
    refine seq_cond (t := false) rfl ?_
    simp only [go_sem,binC]
    refine seq_skip ?_
    refine hrest _ (stL (n + 1) ls (l.take i)) (by simp only [go_sem,binC,e2]) (by simp only [go_sem,binC,e5]) (by simp only [go_sem,binC]) hq0 ?_ (by simp only [go_sem,binC]) (by simp only [go_sem,binC])
    rw [htake,if_neg k1,orS_0 (orS_bd hqt hqe)]
theorem sSets_all {F : Nat -> Option IFn} (hf : F 86 = some c_sSets) (ge : EitherOk F 75) : ∀ n,STOk F 86 n
 | 0 => sSets_ok hf ge fun m h => by omega
 | n + 1 => sSets_ok hf ge fun m h => by cases h; exact sSets_all hf ge n
end Go.Proofs.YtbjeldblaclpnaaGreatI
end
