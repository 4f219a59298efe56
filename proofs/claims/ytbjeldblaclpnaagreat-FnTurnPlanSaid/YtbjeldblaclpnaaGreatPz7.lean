/- Texts of this proof, merged: M7. -/
import Derived.Test.YtbjeldblaclpnaaGreatPz5
import Derived.Test.YtbjeldblaclpnaaGreatPz6
section
section
set_option linter.unusedVariables false
set_option linter.unusedSimpArgs false
namespace Go.Proofs.YtbjeldblaclpnaaGreatI
open Go Go.RowKit
def ProgV (d : Nat) (V : Vw) (lv sv : Value) (ls : List (Int × Int)) (l : List (TStep d)) : Prop := SlR Co.p2 V lv ls /\ SlR (Co.step d) V sv l /\ (Co.prog d).sm (ls,l) /\ ls ≠ [] /\ ls.length <= 100 /\ l.length <= 100
theorem ProgV.mono {d : Nat} {V V' : Vw} {lv sv : Value} {ls : List (Int × Int)} {l : List (TStep d)} (h : ProgV d V lv sv ls l) (hs : Sub V V') : ProgV d V' lv sv ls l := ⟨h.1.mono hs,h.2.1.mono hs,h.2.2⟩
theorem ProgV.rd {d : Nat} {V : Vw} {lv sv : Value} {ls : List (Int × Int)} {l : List (TStep d)} (h : ProgV d V lv sv ls l) : Rd (Co.prog d) true V (.agg #[lv,sv]) (ls,l) := ⟨_,rfl,[lv],[sv],rfl,⟨lv,rfl,h.1⟩,⟨sv,rfl,h.2.1⟩⟩
def ProgQ (d : Nat) (H H' : Heap) (v : Value) : Prop := ∃ lv sv ls,∃ l : List (TStep d),v = .agg #[lv,sv] /\ ProgV d (vwl H.length [] H') lv sv ls l
theorem p2_sm {ls : List (Int × Int)} (h : ls.length <= 1048576) : (Co.sl Co.p2).sm ls := ⟨h,fun _ _ => ⟨trivial,trivial⟩⟩
theorem drProg_ok {F : Nat -> Option IFn} {f : Nat} (hf : F f = some c_drProg) (hss : F 101 = some c_drSteps) (hvl : F 105 = some c_drVal) (hlb : F 100 = some c_drLabel) (hpk : F 14 = some c_pick) (gp : ProgOk F 56) {H0 : Heap} {rb : Nat} {bv : Value} {code : List Int} (hc : RdC H0 rb bv code) :
  DrawS F H0 rb bv f [] 40000 (ProgQ 3) := by
 refine DrawS.mk hf rfl fun H p lo hs hp hp2 hlo => ?_
 have hl := hs.lt
 have hc0 := hc.low
 have hcD : cD 3 = 1825 := by simp [cD]
 refine seq_reg ?_
 simp only [go_sem,binC]
 refine wpc_gen fun Hb hHb => ?_
 have hs0 : St H0 rb bv p Hb := hHb ▸ hs.appN hc _
 have ht0 : AgX [rb] H Hb := hHb ▸ AgX.app [rb] _ _
 have hb0 : Hb[H.length]? = some ⟨[nilS,nilS],0,0,false,true⟩ := hHb ▸ get_new0 _ _
 clear hHb
 refine seq_assoc (seq_reg ?_)
 simp only [go_sem,binC]
 refine seq_block (wpc_loop ?_)
 suffices h : ∀ (k i : Nat) (e : Env) (Hc : Heap) (q : Int),i + k = 20 -> p <= q -> q + (k : Int) * 2000 <= p + 40000 -> St H0 rb bv q Hc -> AgX [rb] H Hc -> Hc[H.length]? = some ⟨[nilS,nilS],0,0,false,true⟩ -> e 0 = ptr rb 0 -> e 2 = ptr H.length 0 -> e 3 = .int .i64 i -> W F lo _ e Hc _ from
  h 20 0 _ Hb p rfl (by omega) (by omega) hs0 ht0 hb0 (by simp only [go_sem,binC]) (by simp only [go_sem,binC]) (by (simp only [go_sem,binC]) <;> rfl)
 intro k
 induction k with
 | zero =>
   intro i e Hc q hik hpq hq hs1 ht1 hb1 e0 e2 e3
   have hb1l := (List.getElem?_eq_some_iff.1 hb1).1
   refine lp_step ?_
   refine seq_assoc (seq_reg ?_)
   simp only [go_sem,binC,e3]
   refine seq_cond (t := false) (by simp only [go_sem,binC]; rw [decide_eq_false (by omega)]) ?_
   simp only [go_sem,binC]
   refine seq_exit ?_
   simp only [go_sem,binC,thenX_e,out_e,thenX_n]
   refine seq_reg ?_
   have hb1n : ∀ L,(Hc ++ L)[H.length]? = some ⟨[nilS,nilS],0,0,false,true⟩ := fun L => by rw [List.getElem?_append_left hb1l]; exact hb1
   simp only [go_sem,binC,e2,hb1n]
   refine ⟨by omega,?_⟩
   have hgl : ∀ L : Heap,H.length < (Hc ++ L).length := fun L => by rw [List.length_append]; omega
   refine wpc_ret ⟨Or.inr rfl,_,(by simp only [go_sem,binC,e2,gc_set (hgl _)] <;> rfl),q,(ht1.appN _).setN (Nat.le_refl _) _,(hs1.appN hc _).setN hc hl _,by omega,_,_,[(7,0)],[],rfl,?_,slr_nil _ _,⟨p2_sm (by simp),sm_nil _⟩,by simp,by simp,by simp⟩
   refine ⟨by simp,_,rfl,.inr ⟨_,_,rfl,fun j hj => ⟨[.int .i64 7,.int .i64 0],?_,?_⟩⟩⟩
   ·obtain rfl : j = 0 := by simpa using hj
    have hz : ¬ Hc.length = H.length := by omega
    unfold rng vwl
    rw [if_pos ⟨by omega,by simp⟩,List.getElem?_set_ne (by omega),get_new0]
    rfl
   ·obtain rfl : j = 0 := by simpa using hj
    exact ⟨[.int .i64 7],[.int .i64 0],rfl,⟨rfl,by simp,by simp⟩,⟨rfl,by simp,by simp⟩⟩
 | succ k ih =>
   intro i e Hc q hik hpq hq hs1 ht1 hb1 e0 e2 e3
   have hb1l := (List.getElem?_eq_some_iff.1 hb1).1
   have hmul : ((k + 1 : Nat) : Int) * 2000 = (k : Int) * 2000 + 2000 := by omega
   refine lp_step ?_
   refine seq_assoc (seq_reg ?_)
   simp only [go_sem,binC,e3]
   refine seq_cond (t := true) (by simp only [go_sem,binC]; rw [decide_eq_true (by omega)]) ?_
   simp only [go_sem,binC]
   refine seq_skip (seq_block ?_)
   refine seq_reg ?_
   simp only [go_sem,binC]
   refine ⟨by have := hs1.lt; omega,?_⟩
   refine wpc_gen fun H2 hH2 => ?_
   have hP : Pd H0 rb bv H Hc.length true [] (Hc.length + 1) [sli Hc.length 0 0,nilS] q H2 := by
    subst hH2
    exact ⟨hs1.appN hc _,ht1.appN _,⟨by omega,by simp,[],get_new0 _ _,by simp,fun i hi => by simp at hi⟩,get_new _ _ 1,by rw [List.getElem?_append_left hb1l]; exact hb1,by omega,by omega,by omega,hl⟩
   clear hH2
   refine seq_assoc (seq_reg ?_)
   simp only [go_sem,binC,e0]
   refine op_draw (n := 4) hpk hc hP.st (by omega) (by omega) hlo (by simp only [go_sem,binC,e0]) (by simp only [go_sem,binC]) fun H3 hl3 hx3 hs3 => ?_
   have hP3 := hP.draw hx3 hs3
   simp only [go_sem,binC]
   have hbd := pickV_bd code q (n := 4) (by omega)
   obtain ⟨m,hm⟩ : ∃ m : Nat,1 + pickV code q 4 = m := ⟨(1 + pickV code q 4).toNat,by omega⟩
   rw [hm,wrap_id (x := (m : Int)) (by omega) (by omega)]
   refine seq_block (wpc_loop ?_)
   refine dpLoop_ok (i := (i : Int)) hlb hpk hc hlo m _ H3 Hc.length true [] (q + 1) hP3 (by simp only [go_sem,binC,e0]) (by simp only [go_sem,binC,e2]) (by simp only [go_sem,binC,e3]) (by simp only [go_sem,binC]) (by simp only [go_sem,binC]) (by simp; omega) (by omega) (by omega) fun e4 H4 b4 so4 ls p4 hP4 f0 f2 f3 f4 hlen hp4 => ?_
   simp only [List.length_nil,Nat.zero_add] at hlen
   simp only [go_sem,binC,out_e,thenX_n]
   refine seq_reg ?_
   simp only [go_sem,binC,f0,f4,gc_of hP4.box,inBlk_some]
   obtain ⟨v5,H5,p5,k5,x5,s5,c5,b5,so5,l5,rfl,o5,m5,n5⟩ := drSteps_all hss hvl hpk hc 3 (by omega) (by omega) (ls.length : Int) 4 (by omega) (by omega) (by omega) H4 p4 lo hP4.st (by omega) (by omega) hlo
   refine op_callN (by simp only [go_sem,binC,f0,f4,gc_of hP4.box,inBlk_some]; exact k5) ?_
   have hP5 := hP4.draw x5 s5
   have hbp4 := hP4.bpl
   simp only [go_sem,binC,f4,hP5.box]
   refine ⟨by omega,?_⟩
   have hP6 := hP5.store hc (cells' := [sli b4 0 ls.length,sli b5 0 l5.length])
   have hsv : SlR (Co.step 3) (vwl H.length [Hc.length + 1,H.length] (H5.set (Hc.length + 1) ⟨[sli b4 0 ls.length,sli b5 0 l5.length],0,0,false,true⟩)) (sli b5 0 l5.length) l5 :=
    (o5.slR (step_w 3) (by simp)).mono (vwl_sub (AgX.set _ _ _) (by omega) fun b' _ h5 _ => ⟨by simp; omega,by simp; omega⟩)
   have hlv : SlR Co.p2 (vwl H.length [Hc.length + 1,H.length] (H5.set (Hc.length + 1) ⟨[sli b4 0 ls.length,sli b5 0 l5.length],0,0,false,true⟩)) (sli b4 0 ls.length) ls :=
    hP6.own.slR rfl (by simp only [List.mem_cons,not_or,List.not_mem_nil,not_false_eq_true,and_true]; exact ⟨hP6.ne,by have := hP6.lob; omega⟩)
   have hV : ProgV 3 (vwl H.length [Hc.length + 1,H.length] (H5.set (Hc.length + 1) ⟨[sli b4 0 ls.length,sli b5 0 l5.length],0,0,false,true⟩)) (sli b4 0 ls.length) (sli b5 0 l5.length) ls l5 :=
    ⟨hlv,hsv,⟨p2_sm (show ls.length <= 1048576 by omega),m5⟩,fun h => by rw [h] at hlen; simp at hlen; omega,by omega,by omega⟩
   obtain ⟨H6,hH6⟩ : ∃ H6,H6 = H5.set (Hc.length + 1) ⟨[sli b4 0 ls.length,sli b5 0 l5.length],0,0,false,true⟩ := ⟨_,rfl⟩
   have hset : H5.set (Hc.length + 1) ⟨[sli b4 0 ls.length,sli b5 0 l5.length],0,0,false,true⟩ = H6 := hH6.symm
   rw [<- hH6] at hP6 hV
   refine seq_reg ?_
   have hgo : wpOp F lo (IOp.load true 2 (Opd.t 4)) (ini []) H6 (fun _ _ => True) -> True := fun _ => trivial
   simp only [go_sem,binC,hset,f4,gc_of hP6.box,inBlk_some]
   refine op_callQ (by simp only [go_sem,binC]; exact gp H6 3 _ (ls,l5) (hV.mono ((vwl_vw _ _ _).trans (vw_grow (Nat.zero_le _) fun _ _ _ => rfl))).rd hV.2.2.1) ?_
   simp only [go_sem,binC]
   cases hpo : progB 3 (ls,l5) with
   | true =>
     refine wpc_cond (t := true) (by simp only [go_sem,binC]) ?_
     simp only [go_sem,binC]
     refine seq_reg ?_
     simp only [go_sem,binC,f4,f2,gc_of hP6.box,inBlk_some,hP6.two]
     refine ⟨by omega,?_⟩
     refine wpc_ret ?_
     simp only [go_sem,binC,out_r,thenX_r]
     have h2l := (List.getElem?_eq_some_iff.1 hP6.two).1
     refine ⟨Or.inr rfl,_,(by simp only [go_sem,binC,f2,gc_set h2l] <;> rfl),p5,hP6.ag.setN (Nat.le_refl _) _,hP6.st.setN hc hl _,by omega,_,_,ls,l5,rfl,hV.mono (vwl_sub (AgX.set _ _ _) (Nat.le_refl _) fun b' _ h5 h6 => ⟨by simp only [List.mem_cons,not_or,List.not_mem_nil,not_false_eq_true,and_true] at h6 ⊢; exact h6.2,by simp⟩)⟩
   | false =>
     refine wpc_cond (t := false) (by simp only [go_sem,binC]) ?_
     simp only [go_sem,binC]
     refine wpc_skip ?_
     simp only [go_sem,binC,out_n,thenX_n]
     refine wpc_reg ?_
     simp only [go_sem,binC,f3]
     have hw1 : IntKind.i64.wrap ((i : Int) + 1) = ((i + 1 : Nat) : Int) := by rw [wrap_id (by omega) (by omega)]; omega
     rw [hw1]
     simp only [go_sem,binC,thenX_n]
     exact ih (i + 1) _ H6 p5 (by omega) (by omega) (by omega) hP6.st hP6.ag hP6.two (by simp only [go_sem,binC,f0]) (by simp only [go_sem,binC,f2]) (by simp only [go_sem,binC])
end Go.Proofs.YtbjeldblaclpnaaGreatI
end
section
set_option linter.unusedVariables false
set_option linter.unusedSimpArgs false
namespace Go.Proofs.YtbjeldblaclpnaaGreatI
open Go Go.RowKit
theorem shr_rule {k : IntKind} {x y : Int} {K : Value -> Prop} (h0 : 0 <= y) (h : K (.int k (x.fdiv (2 ^ (min y.toNat k.bits))))) : optP (binI .shr k x y) K := by
 unfold optP binI
 simp only
 rw [if_neg (by omega)]
 exact h
theorem shl_rule {k : IntKind} {x y : Int} {K : Value -> Prop} (h0 : 0 <= y) (h : K (.int k (k.wrap (x * 2 ^ (min y.toNat k.bits))))) : optP (binI .shl k x y) K := by
 unfold optP binI
 simp only
 rw [if_neg (by omega)]
 exact h
theorem rem_rule {k : IntKind} {x : Int} {K : Value -> Prop} (h : K (.int k (x.tmod 2))) : optP (binI .rem k x 2) K := by
 unfold optP binI
 simpa using h
theorem and_rule {k : IntKind} {x y : Int} {K : Value -> Prop} (h : K (.int k (k.wrap ((BitVec.ofInt k.bits x &&& BitVec.ofInt k.bits y).toNat : Nat)))) : optP (binI .and k x y) K := h
theorem or_rule {k : IntKind} {x y : Int} {K : Value -> Prop} (h : K (.int k (k.wrap ((BitVec.ofInt k.bits x ||| BitVec.ofInt k.bits y).toNat : Nat)))) : optP (binI .or k x y) K := h
theorem andNot_rule {k : IntKind} {x y : Int} {K : Value -> Prop} (h : K (.int k (k.wrap ((BitVec.ofInt k.bits x &&& ~~~ BitVec.ofInt k.bits y).toNat : Nat)))) : optP (binI .andNot k x y) K := h
attribute [local irreducible] optP wpo wpp wpc binI Kc Kp wpOp thenX
def hasB (s h : Int) : Bool := inB h 0 2 && decide ((s / 2 ^ h.toNat) % 2 = 1)
theorem has_and {s h : Int} (h1 : 0 <= s) (h2 : s <= 7) (h3 : 0 <= h) (h4 : h <= 2) : (IntKind.i64.wrap ((BitVec.ofInt 64 (s.fdiv (2 ^ (min h.toNat 64))) &&& BitVec.ofInt 64 1).toNat : Nat) = 1) ↔ hasB s h = true := by
 have hs : s = 0 \/ s = 1 \/ s = 2 \/ s = 3 \/ s = 4 \/ s = 5 \/ s = 6 \/ s = 7 := by omega
 have hh : h = 0 \/ h = 1 \/ h = 2 := by omega
 rcases hs with rfl | rfl | rfl | rfl | rfl | rfl | rfl | rfl <;> rcases hh with rfl | rfl | rfl <;> decide
theorem has_rem {s h : Int} (h1 : 0 <= s) (h2 : s <= 7) (h3 : 0 <= h) (h4 : h <= 2) : ((s.fdiv (2 ^ (min h.toNat 64))).tmod 2 = 1) ↔ hasB s h = true := by
 have hs : s = 0 \/ s = 1 \/ s = 2 \/ s = 3 \/ s = 4 \/ s = 5 \/ s = 6 \/ s = 7 := by omega
 have hh : h = 0 \/ h = 1 \/ h = 2 := by omega
 rcases hs with rfl | rfl | rfl | rfl | rfl | rfl | rfl | rfl <;> rcases hh with rfl | rfl | rfl <;> decide
def HasOk (F : Nat -> Option IFn) (f : Nat) : Prop := ∀ (H : Heap) (s h : Int),0 <= s -> s <= 7 -> QC F f [.int .i64 s,.int .i64 h] H (.bool (hasB s h))
theorem inB_iff {a l h : Int} : inB a l h = true ↔ l <= a /\ a <= h := by simp [inB]
theorem hasB_in {s h : Int} (hh : hasB s h = true) : 0 <= h /\ h <= 2 := by
 simp only [hasB,Bool.and_eq_true,inB_iff] at hh; exact hh.1
def c_iWithin : IFn := ⟨2,9,[.t 4],
 .seq (.reg none [⟨some 4,none,.mov (.c (.bool false))⟩])
 (.seq (.reg none [⟨some 5,none,.mov (.t 0)⟩,⟨some 6,none,.mov (.t 1)⟩,⟨some 7,none,.bin .andNot (.t 5) (.t 6)⟩,
   ⟨some 8,none,.bin .eql (.t 7) (.c (.int .i64 0))⟩,⟨some 4,none,.mov (.t 8)⟩])
 (.ret))⟩
def c_sWithin : IFn := ⟨2,19,[.t 4],
 .seq (.reg none [⟨some 4,none,.mov (.c (.bool false))⟩])
 (.seq (.seq (.reg none [⟨some 5,none,.mov (.c (.int .i64 0))⟩])
  (.block 0 (.loop (.seq (.seq (.reg none [⟨some 6,none,.mov (.t 5)⟩,⟨some 7,none,.bin .lss (.t 6) (.c (.int .i64 3))⟩])
    (.cond (.t 7) (.skip) (.exit 0)))
   (.seq (.block 1 (.seq (.reg none [⟨some 10,none,.mov (.t 0)⟩,⟨some 11,none,.mov (.t 5)⟩,⟨some 12,none,.call .q (.f 37) [.t 10,.t 11]⟩,
      ⟨some 13,none,.mov (.t 12)⟩,⟨some 14,some (13,true),.mov (.t 1)⟩,⟨some 15,some (13,true),.mov (.t 5)⟩,
      ⟨some 16,some (13,true),.call .q (.f 37) [.t 14,.t 15]⟩,⟨some 17,some (13,true),.un .not (.t 16)⟩,
      ⟨some 18,none,.pick (.t 13) (.t 17) (.c (.bool false))⟩])
    (.cond (.t 18) (.seq (.reg none [⟨some 4,none,.mov (.c (.bool false))⟩])
     (.ret)) (.skip))))
   (.reg none [⟨some 8,none,.mov (.t 5)⟩,⟨some 9,none,.bin .add (.t 8) (.c (.int .i64 1))⟩,⟨some 5,none,.mov (.t 9)⟩]))))))
 (.seq (.reg none [⟨some 4,none,.mov (.c (.bool true))⟩])
 (.ret)))⟩
theorem iHas_ok {F : Nat -> Option IFn} {f : Nat} (hf : F f = some c_iHas) (g0 : ∀ (H : Heap) (a : Int),QC F 48 [.int .i64 a] H (.bool (inB a 0 2))) : HasOk F f := by
 intro H s h h1 h2
 refine QC.mk hf rfl ?_
 by_cases hh : 0 <= h /\ h <= 2
 ·obtain ⟨hh0,hh2⟩ := hh
  have hk := has_and h1 h2 hh0 hh2
  repeat' (first
   | refine seq_assoc ?_
   | refine seq_reg ?_
   | refine seq_skip ?_
   | refine seq_regD ?_
   | refine seq_cond (t := true) rfl ?_
   | refine seq_cond (t := false) rfl ?_
   | refine wpc_cond (t := true) rfl ?_
   | refine wpc_cond (t := false) rfl ?_
   | refine seq_block ?_
   | refine wpc_block ?_
   | refine seq_ret ?_
   | refine wpc_ret ?_
   | refine wpc_reg ?_
   | refine wpc_regD ?_
   | refine wpc_skip ?_
   | refine fin_t rfl ?_
   | refine seq_exit ?_
   | refine wpc_exit ?_
   | refine shr_rule (by omega) ?_
   | refine rem_rule ?_
   | refine and_rule ?_
   | refine or_rule ?_
   | refine andNot_rule ?_
   | refine shl_rule (by omega) ?_
   | refine cmp_lss (fun _ => ?_) (fun _ => ?_)
   | refine cmp_leq (fun _ => ?_) (fun _ => ?_)
   | refine cmp_gtr (fun _ => ?_) (fun _ => ?_)
   | refine cmp_geq (fun _ => ?_) (fun _ => ?_)
   | refine cmp_eql (fun _ => ?_) (fun _ => ?_)
   | refine cmp_neq (fun _ => ?_) (fun _ => ?_)
   | (refine op_callB (by simp only [go_sem,out_n,out_r,out_e,thenX_n,thenX_r,thenX_e,IntKind.bits]; exact g0 _ _) (fun _ => ?_) (fun _ => ?_))
   | simp only [go_sem,out_n,out_r,out_e,thenX_n,thenX_r,thenX_e,IntKind.bits]
   )
  all_goals refine ⟨congrArg _ ?_,rfl⟩
  all_goals first | (rename_i _ he; exact (hk.1 he).symm) | (rename_i _ he; symm; rw [Bool.eq_false_iff]; exact fun h' => he (hk.2 h')) | (rename_i he; exact absurd (inB_iff.2 ⟨hh0,hh2⟩) (by rw [he]; simp))
 ·have hB : hasB s h = false := by rw [Bool.eq_false_iff]; exact fun h' => hh (hasB_in h')
  repeat' (first
   | refine seq_assoc ?_
   | refine seq_reg ?_
   | refine seq_skip ?_
   | refine seq_regD ?_
   | refine seq_cond (t := true) rfl ?_
   | refine seq_cond (t := false) rfl ?_
   | refine wpc_cond (t := true) rfl ?_
   | refine wpc_cond (t := false) rfl ?_
   | refine seq_block ?_
   | refine wpc_block ?_
   | refine seq_ret ?_
   | refine wpc_ret ?_
   | refine wpc_reg ?_
   | refine wpc_regD ?_
   | refine wpc_skip ?_
   | refine fin_t rfl ?_
   | refine seq_exit ?_
   | refine wpc_exit ?_
   | refine shr_rule (by first | omega | (have := inB_iff.1 ‹inB h 0 2 = true›; omega)) ?_
   | refine rem_rule ?_
   | refine and_rule ?_
   | refine or_rule ?_
   | refine andNot_rule ?_
   | refine shl_rule (by omega) ?_
   | refine cmp_lss (fun _ => ?_) (fun _ => ?_)
   | refine cmp_leq (fun _ => ?_) (fun _ => ?_)
   | refine cmp_gtr (fun _ => ?_) (fun _ => ?_)
   | refine cmp_geq (fun _ => ?_) (fun _ => ?_)
   | refine cmp_eql (fun _ => ?_) (fun _ => ?_)
   | refine cmp_neq (fun _ => ?_) (fun _ => ?_)
   | (refine op_callB (by simp only [go_sem,out_n,out_r,out_e,thenX_n,thenX_r,thenX_e,IntKind.bits]; exact g0 _ _) (fun _ => ?_) (fun _ => ?_))
   | simp only [go_sem,out_n,out_r,out_e,thenX_n,thenX_r,thenX_e,IntKind.bits]
   )
  all_goals refine ⟨congrArg _ ?_,rfl⟩
  all_goals first | (exact hB.symm) | (exact absurd (inB_iff.1 ‹inB h 0 2 = true›) hh)
theorem sHas_ok {F : Nat -> Option IFn} {f : Nat} (hf : F f = some c_sHas) : HasOk F f := by
 intro H s h h1 h2
 refine QC.mk hf rfl ?_
 by_cases hh : 0 <= h /\ h <= 2
 ·obtain ⟨hh0,hh2⟩ := hh
  have hk := has_rem h1 h2 hh0 hh2
  repeat' (first
   | refine seq_assoc ?_
   | refine seq_reg ?_
   | refine seq_skip ?_
   | refine seq_regD ?_
   | refine seq_cond (t := true) rfl ?_
   | refine seq_cond (t := false) rfl ?_
   | refine wpc_cond (t := true) rfl ?_
   | refine wpc_cond (t := false) rfl ?_
   | refine seq_block ?_
   | refine wpc_block ?_
   | refine seq_ret ?_
   | refine wpc_ret ?_
   | refine wpc_reg ?_
   | refine wpc_regD ?_
   | refine wpc_skip ?_
   | refine fin_t rfl ?_
   | refine seq_exit ?_
   | refine wpc_exit ?_
   | refine shr_rule (by omega) ?_
   | refine rem_rule ?_
   | refine and_rule ?_
   | refine or_rule ?_
   | refine andNot_rule ?_
   | refine shl_rule (by omega) ?_
   | refine cmp_lss (fun _ => ?_) (fun _ => ?_)
   | refine cmp_leq (fun _ => ?_) (fun _ => ?_)
   | refine cmp_gtr (fun _ => ?_) (fun _ => ?_)
   | refine cmp_geq (fun _ => ?_) (fun _ => ?_)
   | refine cmp_eql (fun _ => ?_) (fun _ => ?_)
   | refine cmp_neq (fun _ => ?_) (fun _ => ?_)
   | simp only [go_sem,out_n,out_r,out_e,thenX_n,thenX_r,thenX_e,IntKind.bits]
   )
  all_goals refine ⟨congrArg _ ?_,rfl⟩
  all_goals first | (rename_i _ he; exact (hk.1 he).symm) | (rename_i _ he; symm; rw [Bool.eq_false_iff]; exact fun h' => he (hk.2 h')) | omega
 ·have hB : hasB s h = false := by rw [Bool.eq_false_iff]; exact fun h' => hh (hasB_in h')
  repeat' (first
   | refine seq_assoc ?_
   | refine seq_reg ?_
   | refine seq_skip ?_
   | refine seq_regD ?_
   | refine seq_cond (t := true) rfl ?_
   | refine seq_cond (t := false) rfl ?_
   | refine wpc_cond (t := true) rfl ?_
   | refine wpc_cond (t := false) rfl ?_
   | refine seq_block ?_
   | refine wpc_block ?_
   | refine seq_ret ?_
   | refine wpc_ret ?_
   | refine wpc_reg ?_
   | refine wpc_regD ?_
   | refine wpc_skip ?_
   | refine fin_t rfl ?_
   | refine seq_exit ?_
   | refine wpc_exit ?_
   | refine shr_rule (by omega) ?_
   | refine rem_rule ?_
   | refine and_rule ?_
   | refine or_rule ?_
   | refine andNot_rule ?_
   | refine shl_rule (by omega) ?_
   | refine cmp_lss (fun _ => ?_) (fun _ => ?_)
   | refine cmp_leq (fun _ => ?_) (fun _ => ?_)
   | refine cmp_gtr (fun _ => ?_) (fun _ => ?_)
   | refine cmp_geq (fun _ => ?_) (fun _ => ?_)
   | refine cmp_eql (fun _ => ?_) (fun _ => ?_)
   | refine cmp_neq (fun _ => ?_) (fun _ => ?_)
   | simp only [go_sem,out_n,out_r,out_e,thenX_n,thenX_r,thenX_e,IntKind.bits]
   )
  all_goals refine ⟨congrArg _ ?_,rfl⟩
  all_goals first | (exact hB.symm) | omega
def witB (a b : Int) : Bool := !(hasB a 0 && !hasB b 0) && (!(hasB a 1 && !hasB b 1) && !(hasB a 2 && !hasB b 2))
theorem wit_andNot {a b : Int} (h1 : 0 <= a) (h2 : a <= 7) (h3 : 0 <= b) (h4 : b <= 7) : (IntKind.i64.wrap ((BitVec.ofInt 64 a &&& ~~~ BitVec.ofInt 64 b).toNat : Nat) = 0) ↔ witB a b = true := by
 have ha : a = 0 \/ a = 1 \/ a = 2 \/ a = 3 \/ a = 4 \/ a = 5 \/ a = 6 \/ a = 7 := by omega
 have hb : b = 0 \/ b = 1 \/ b = 2 \/ b = 3 \/ b = 4 \/ b = 5 \/ b = 6 \/ b = 7 := by omega
 rcases ha with rfl | rfl | rfl | rfl | rfl | rfl | rfl | rfl <;> rcases hb with rfl | rfl | rfl | rfl | rfl | rfl | rfl | rfl <;> decide
def WitOk (F : Nat -> Option IFn) (f : Nat) : Prop := ∀ (H : Heap) (a b : Int),0 <= a -> a <= 7 -> 0 <= b -> b <= 7 -> QC F f [.int .i64 a,.int .i64 b] H (.bool (witB a b))
theorem iWithin_ok {F : Nat -> Option IFn} {f : Nat} (hf : F f = some c_iWithin) : WitOk F f := by
 intro H a b h1 h2 h3 h4
 refine QC.mk hf rfl ?_
 have hk := wit_andNot h1 h2 h3 h4
 repeat' (first
  | refine seq_assoc ?_
  | refine seq_reg ?_
  | refine seq_skip ?_
  | refine seq_regD ?_
  | refine seq_cond (t := true) rfl ?_
  | refine seq_cond (t := false) rfl ?_
  | refine wpc_cond (t := true) rfl ?_
  | refine wpc_cond (t := false) rfl ?_
  | refine seq_block ?_
  | refine wpc_block ?_
  | refine seq_ret ?_
  | refine wpc_ret ?_
  | refine wpc_reg ?_
  | refine wpc_regD ?_
  | refine wpc_skip ?_
  | refine fin_t rfl ?_
  | refine seq_exit ?_
  | refine wpc_exit ?_
  | refine shr_rule (by omega) ?_
  | refine rem_rule ?_
  | refine and_rule ?_
  | refine or_rule ?_
  | refine andNot_rule ?_
  | refine shl_rule (by omega) ?_
  | refine cmp_lss (fun _ => ?_) (fun _ => ?_)
  | refine cmp_leq (fun _ => ?_) (fun _ => ?_)
  | refine cmp_gtr (fun _ => ?_) (fun _ => ?_)
  | refine cmp_geq (fun _ => ?_) (fun _ => ?_)
  | refine cmp_eql (fun _ => ?_) (fun _ => ?_)
  | refine cmp_neq (fun _ => ?_) (fun _ => ?_)
  | simp only [go_sem,out_n,out_r,out_e,thenX_n,thenX_r,thenX_e,IntKind.bits]
  )
 all_goals refine ⟨congrArg _ ?_,rfl⟩
 all_goals first | (rename_i he; exact (hk.1 he).symm) | (rename_i he; symm; rw [Bool.eq_false_iff]; exact fun h' => he (hk.2 h'))
theorem sWithin_ok {F : Nat -> Option IFn} {f : Nat} (hf : F f = some c_sWithin) (g0 : HasOk F 37) : WitOk F f := by
 intro H a b h1 h2 h3 h4
 refine QC.mk hf rfl ?_
 refine seq_reg ?_
 simp only [go_sem,binC]
 refine seq_assoc (seq_reg ?_)
 simp only [go_sem,binC]
 refine seq_block (wpc_loop ?_)
 suffices hl : ∀ (k i : Nat) (e : Env),i + k = 3 -> e 0 = .int .i64 a -> e 1 = .int .i64 b -> e 5 = .int .i64 i -> (∀ j : Nat,j < i -> (hasB a j && !hasB b j) = false) -> W F H.length _ e _ _ from
  hl 3 0 _ (by omega) (by simp only [go_sem,binC]) (by simp only [go_sem,binC]) (by simp only [go_sem,binC]; rfl) (fun j hj => by omega)
 intro k
 induction k with
 | zero =>
   intro i e hi e0 e1 e5 hj
   refine lp_step ?_
   refine seq_assoc (seq_reg ?_)
   simp only [go_sem,binC,e5]
   refine seq_cond (t := false) (by simp only [go_sem,binC]; rw [decide_eq_false (by omega)]) ?_
   simp only [go_sem,binC]
   refine seq_exit ?_
   simp only [go_sem,binC,thenX_e,out_e,thenX_n]
   refine seq_reg ?_
   simp only [go_sem,binC]
   refine wpc_ret ⟨Or.inr rfl,.bool true,by simp only [go_sem,binC],?_,rfl⟩
   have j0 := hj 0 (by omega)
   have j1 := hj 1 (by omega)
   have j2 := hj 2 (by omega)
   simp only [witB]
   rw [show hasB a 0 = hasB a ((0 : Nat) : Int) from rfl,show hasB b 0 = hasB b ((0 : Nat) : Int) from rfl,show hasB a 1 = hasB a ((1 : Nat) : Int) from rfl,show hasB b 1 = hasB b ((1 : Nat) : Int) from rfl,show hasB a 2 = hasB a ((2 : Nat) : Int) from rfl,show hasB b 2 = hasB b ((2 : Nat) : Int) from rfl,j0,j1,j2]
   rfl
 | succ k ih =>
   intro i e hi e0 e1 e5 hj
   have hw1 : IntKind.i64.wrap ((i : Int) + 1) = ((i + 1 : Nat) : Int) := by rw [wrap_id (by omega) (by omega)]; omega
   have go : (hasB a i && !hasB b i) = false -> ∀ j : Nat,j < i + 1 -> (hasB a j && !hasB b j) = false := fun h j hji => by
    by_cases hjj : j = i
    ·subst hjj; exact h
    ·exact hj j (by omega)
   refine lp_step ?_
   refine seq_assoc (seq_reg ?_)
   simp only [go_sem,binC,e5]
   refine seq_cond (t := true) (by simp only [go_sem,binC]; rw [decide_eq_true (by omega)]) ?_
   simp only [go_sem,binC]
   refine seq_skip (seq_block (seq_reg ?_))
   simp only [go_sem,binC,e0,e1,e5]
   refine op_callB (by simp only [go_sem,binC,e0,e5]; exact g0 _ _ _ h1 h2) (fun hb => ?_) (fun hb => ?_)
   ·simp only [go_sem,binC,e0,e1,e5]
    refine op_callB (by simp only [go_sem,binC,e1,e5]; exact g0 _ _ _ h3 h4) (fun hc => ?_) (fun hc => ?_)
    ·simp only [go_sem,binC]
     refine wpc_cond (t := false) (by simp only [go_sem,binC]) ?_
     simp only [go_sem,binC]
     refine wpc_skip ?_
     simp only [go_sem,binC,out_n,thenX_n]
     refine wpc_reg ?_
     simp only [go_sem,binC,e5,hw1,thenX_n]
     have hgo := go (by rw [hb,hc]; rfl)
     refine ih (i + 1) _ (by omega) ?_ ?_ ?_ hgo
     ·simp only [go_sem,binC,e0]
     ·simp only [go_sem,binC,e1]
     ·simp only [go_sem,binC]
    ·simp only [go_sem,binC]
     refine wpc_cond (t := true) (by simp only [go_sem,binC]) ?_
     simp only [go_sem,binC]
     refine seq_reg ?_
     simp only [go_sem,binC]
     refine wpc_ret ?_
     simp only [go_sem,binC,out_r,thenX_r]
     refine ⟨Or.inr rfl,.bool false,by simp only [go_sem,binC],?_,rfl⟩
     have hi3 : i = 0 \/ i = 1 \/ i = 2 := by omega
     rcases hi3 with rfl | rfl | rfl
     ·have hb' : hasB a 0 = true := hb
      have hc' : hasB b 0 = false := hc
      simp [witB,hb',hc']
     ·have hb' : hasB a 1 = true := hb
      have hc' : hasB b 1 = false := hc
      simp [witB,hb',hc']
     ·have hb' : hasB a 2 = true := hb
      have hc' : hasB b 2 = false := hc
      simp [witB,hb',hc']
   ·simp only [go_sem,binC]
    refine wpc_cond (t := false) (by simp only [go_sem,binC]) ?_
    simp only [go_sem,binC]
    refine wpc_skip ?_
    simp only [go_sem,binC,out_n,thenX_n]
    refine wpc_reg ?_
    simp only [go_sem,binC,e5,hw1,thenX_n]
    have hgo := go (by rw [hb]; rfl)
    refine ih (i + 1) _ (by omega) ?_ ?_ ?_ hgo
    ·simp only [go_sem,binC,e0]
    ·simp only [go_sem,binC,e1]
    ·simp only [go_sem,binC]
end Go.Proofs.YtbjeldblaclpnaaGreatI
end
section
set_option linter.unusedVariables false
set_option linter.unusedSimpArgs false
namespace Go.Proofs.YtbjeldblaclpnaaGreatI
open Go Go.RowKit
def trP (ts : List Int) : Prop := ts.length = 3 /\ ∀ (i : Nat) (h : i < ts.length),inB ts[i] 0 7 = true /\ hasB ts[i] i = true
def TrOk (F : Nat -> Option IFn) (f : Nat) : Prop := ∀ (H : Heap) (u : Value) (ts : List Int),SlR Co.int (vw 0 H) u ts -> ∃ b : Bool,QC F f [u] H (.bool b) /\ (b = true ↔ trP ts)
def c_sTrusts : IFn := ⟨1,26,[.t 2],
 .seq (.reg none [⟨some 2,none,.mov (.c (.bool false))⟩])
 (.seq (.seq (.reg none [⟨some 4,none,.mov (.t 0)⟩,⟨some 5,none,.len (.t 4)⟩,⟨some 6,none,.bin .neq (.t 5) (.c (.int .i64 3))⟩])
  (.cond (.t 6) (.seq (.reg none [⟨some 2,none,.mov (.c (.bool false))⟩])
   (.ret)) (.skip)))
 (.seq (.seq (.reg none [⟨some 3,none,.mov (.c (.int .i64 0))⟩])
  (.block 0 (.loop (.seq (.seq (.reg none [⟨some 7,none,.mov (.t 3)⟩,⟨some 8,none,.bin .lss (.t 7) (.c (.int .i64 3))⟩])
    (.cond (.t 8) (.skip) (.exit 0)))
   (.seq (.block 1 (.seq (.reg none [⟨some 11,none,.mov (.t 0)⟩,⟨some 12,none,.mov (.t 3)⟩,⟨some 13,none,.iad 1 (.t 11) (.t 12)⟩,
      ⟨some 14,none,.load false 1 (.t 13)⟩,⟨some 15,none,.call .q (.f 35) [.t 14]⟩,⟨some 16,none,.un .not (.t 15)⟩,⟨some 17,none,.mov (.t 16)⟩,
      ⟨some 18,some (17,false),.mov (.t 0)⟩,⟨some 19,some (17,false),.mov (.t 3)⟩,⟨some 20,some (17,false),.iad 1 (.t 18) (.t 19)⟩,
      ⟨some 21,some (17,false),.load false 1 (.t 20)⟩,⟨some 22,some (17,false),.mov (.t 3)⟩,⟨some 23,some (17,false),.call .q (.f 37) [.t 21,.t 22]⟩,
      ⟨some 24,some (17,false),.un .not (.t 23)⟩,⟨some 25,none,.pick (.t 17) (.c (.bool true)) (.t 24)⟩])
    (.cond (.t 25) (.seq (.reg none [⟨some 2,none,.mov (.c (.bool false))⟩])
     (.ret)) (.skip))))
   (.reg none [⟨some 9,none,.mov (.t 3)⟩,⟨some 10,none,.bin .add (.t 9) (.c (.int .i64 1))⟩,⟨some 3,none,.mov (.t 10)⟩]))))))
 (.seq (.reg none [⟨some 2,none,.mov (.c (.bool true))⟩])
 (.ret))))⟩
def c_iTrusts : IFn := ⟨1,25,[.t 2],
 .seq (.reg none [⟨some 2,none,.mov (.c (.bool false))⟩])
 (.seq (.seq (.reg none [⟨some 5,none,.mov (.t 0)⟩,⟨some 6,none,.len (.t 5)⟩,⟨some 7,none,.mov (.c (.int .i64 0))⟩])
  (.block 0 (.loop (.seq (.reg none [⟨some 8,none,.bin .lss (.t 7) (.t 6)⟩])
   (.seq (.cond (.t 8) (.skip) (.exit 0))
   (.seq (.block 1 (.seq (.reg none [⟨some 9,none,.mov (.t 7)⟩,⟨some 10,none,.iad 1 (.t 5) (.t 7)⟩,⟨some 11,none,.load false 1 (.t 10)⟩,
      ⟨some 3,none,.mov (.t 9)⟩,⟨some 4,none,.mov (.t 11)⟩])
    (.seq (.reg none [⟨some 12,none,.mov (.t 4)⟩,⟨some 13,none,.call .q (.f 32) [.t 12]⟩,⟨some 14,none,.un .not (.t 13)⟩,⟨some 15,none,.mov (.t 14)⟩,
      ⟨some 16,some (15,false),.mov (.t 4)⟩,⟨some 17,some (15,false),.mov (.t 3)⟩,⟨some 18,some (15,false),.call .q (.f 45) [.t 16,.t 17]⟩,
      ⟨some 19,some (15,false),.un .not (.t 18)⟩,⟨some 20,none,.pick (.t 15) (.c (.bool true)) (.t 19)⟩])
    (.cond (.t 20) (.seq (.reg none [⟨some 2,none,.mov (.c (.bool false))⟩])
     (.ret)) (.skip)))))
   (.reg none [⟨some 21,none,.bin .add (.t 7) (.c (.int .i64 1))⟩,⟨some 7,none,.mov (.t 21)⟩])))))))
 (.seq (.reg none [⟨some 22,none,.mov (.t 0)⟩,⟨some 23,none,.len (.t 22)⟩,⟨some 24,none,.bin .eql (.t 23) (.c (.int .i64 3))⟩,⟨some 2,none,.mov (.t 24)⟩])
 (.ret)))⟩
def c_sBy : IFn := ⟨2,25,[.t 4],
 .seq (.reg none [⟨some 4,none,.mov (.c (.int .i64 0))⟩])
 (.seq (.seq (.reg none [⟨some 7,none,.mov (.t 1)⟩,⟨some 8,none,.bin .lss (.t 7) (.c (.int .i64 0))⟩])
  (.cond (.t 8) (.seq (.reg none [⟨some 9,none,.call .q (.f 66) []⟩,⟨some 4,none,.mov (.t 9)⟩])
   (.ret)) (.skip)))
 (.seq (.reg none [⟨some 5,none,.mov (.c (.int .i64 0))⟩])
 (.seq (.seq (.reg none [⟨some 6,none,.mov (.c (.int .i64 0))⟩])
  (.block 0 (.loop (.seq (.seq (.reg none [⟨some 10,none,.mov (.t 6)⟩,⟨some 11,none,.bin .lss (.t 10) (.c (.int .i64 3))⟩])
    (.cond (.t 11) (.skip) (.exit 0)))
   (.seq (.block 1 (.seq (.reg none [⟨some 14,none,.mov (.t 0)⟩,⟨some 15,none,.mov (.t 6)⟩,⟨some 16,none,.iad 1 (.t 14) (.t 15)⟩,
      ⟨some 17,none,.load false 1 (.t 16)⟩,⟨some 18,none,.mov (.t 1)⟩,⟨some 19,none,.call .q (.f 37) [.t 17,.t 18]⟩])
    (.cond (.t 19) (.reg none [⟨some 20,none,.mov (.t 5)⟩,⟨some 21,none,.mov (.t 6)⟩,⟨some 22,none,.bin .shl (.c (.int .i64 1)) (.t 21)⟩,
      ⟨some 23,none,.bin .add (.t 20) (.t 22)⟩,⟨some 5,none,.mov (.t 23)⟩]) (.skip))))
   (.reg none [⟨some 12,none,.mov (.t 6)⟩,⟨some 13,none,.bin .add (.t 12) (.c (.int .i64 1))⟩,⟨some 6,none,.mov (.t 13)⟩]))))))
 (.seq (.reg none [⟨some 24,none,.mov (.t 5)⟩,⟨some 4,none,.mov (.t 24)⟩])
 (.ret)))))⟩
def c_iBy : IFn := ⟨2,24,[.t 4],
 .seq (.reg none [⟨some 4,none,.mov (.c (.int .i64 0))⟩])
 (.seq (.reg none [⟨some 5,none,.mov (.c (.int .i64 0))⟩])
 (.seq (.seq (.reg none [⟨some 8,none,.mov (.t 0)⟩,⟨some 9,none,.len (.t 8)⟩,⟨some 10,none,.mov (.c (.int .i64 0))⟩])
  (.block 0 (.loop (.seq (.reg none [⟨some 11,none,.bin .lss (.t 10) (.t 9)⟩])
   (.seq (.cond (.t 11) (.skip) (.exit 0))
   (.seq (.block 1 (.seq (.reg none [⟨some 12,none,.mov (.t 10)⟩,⟨some 13,none,.iad 1 (.t 8) (.t 10)⟩,⟨some 14,none,.load false 1 (.t 13)⟩,
      ⟨some 6,none,.mov (.t 12)⟩,⟨some 7,none,.mov (.t 14)⟩])
    (.seq (.reg none [⟨some 15,none,.mov (.t 7)⟩,⟨some 16,none,.mov (.t 1)⟩,⟨some 17,none,.call .q (.f 45) [.t 15,.t 16]⟩])
    (.cond (.t 17) (.reg none [⟨some 18,none,.mov (.t 5)⟩,⟨some 19,none,.mov (.t 6)⟩,⟨some 20,none,.bin .shl (.c (.int .i64 1)) (.t 19)⟩,
      ⟨some 21,none,.bin .or (.t 18) (.t 20)⟩,⟨some 5,none,.mov (.t 21)⟩]) (.skip)))))
   (.reg none [⟨some 22,none,.bin .add (.t 10) (.c (.int .i64 1))⟩,⟨some 10,none,.mov (.t 22)⟩])))))))
 (.seq (.reg none [⟨some 23,none,.mov (.t 5)⟩,⟨some 4,none,.mov (.t 23)⟩])
 (.ret))))⟩
theorem sTrusts_ok {F : Nat -> Option IFn} {f : Nat} (hf : F f = some c_sTrusts) (g0 : ∀ (H : Heap) (a : Int),QC F 35 [.int .i64 a] H (.bool (inB a 0 7))) (g1 : HasOk F 37) : TrOk F f := by
 rintro H u ts ⟨h0,a,rfl,h2⟩
 suffices h : ∃ v,QC F f [.slice a ts.length ts.length] H v /\ ∃ b : Bool,v = .bool b /\ (b = true ↔ trP ts) from
  let ⟨v,h1,b,h3,h4⟩ := h; ⟨b,h3 ▸ h1,h4⟩
 refine QC.mkE hf rfl ?_
 refine seq_reg ?_
 simp only [go_sem,binC]
 refine seq_assoc (seq_reg ?_)
 simp only [go_sem,binC]
 by_cases hn : ts.length = 3
 ·refine seq_cond (t := false) (by simp only [go_sem,binC]; simp [hn]) ?_
  simp only [go_sem,binC]
  refine seq_skip (seq_assoc (seq_reg ?_))
  simp only [go_sem,binC]
  refine seq_block (wpc_loop ?_)
  suffices h : ∀ (k i : Nat) (e : Env),i + k = 3 -> e 0 = .slice a ts.length ts.length -> e 3 = .int .i64 i -> (∀ (j : Nat) (h : j < ts.length),j < i -> inB ts[j] 0 7 = true /\ hasB ts[j] j = true) -> W F H.length _ e _ _ from
   h 3 0 _ (by omega) (by simp only [go_sem,binC]) (by simp only [go_sem,binC]; rfl) (fun j _ hj => by omega)
  intro k
  induction k with
  | zero =>
    intro i e hi e0 e3 hj
    refine lp_step ?_
    refine seq_assoc (seq_reg ?_)
    simp only [go_sem,binC,e0,e3]
    refine seq_cond (t := false) (by simp only [go_sem,binC]; rw [decide_eq_false (by omega)]) ?_
    simp only [go_sem,binC]
    refine seq_exit ?_
    simp only [go_sem,binC,thenX_e,out_e,thenX_n]
    refine seq_reg ?_
    simp only [go_sem,binC]
    refine wpc_ret ⟨Or.inr rfl,.bool true,by simp only [go_sem,binC],⟨true,rfl,?_⟩,rfl⟩
    exact ⟨fun _ => ⟨hn,fun j h => hj j h (by omega)⟩,fun _ => rfl⟩
  | succ k ih =>
    intro i e hi e0 e3 hj
    have hil : i < ts.length := by omega
    rcases h2 with h2 | ⟨b,o,hab,h2⟩
    ·rw [h2] at hil; simp at hil
    subst hab
    obtain ⟨cs,h3,rfl,h4⟩ := h2 i hil
    have g3 := rng_gc h3
    simp only [Co.int] at g3
    have hw1 : IntKind.i64.wrap ((i : Int) + 1) = ((i + 1 : Nat) : Int) := by rw [wrap_id (by omega) (by omega)]; omega
    have stop : inB ts[i] 0 7 = false \/ hasB ts[i] i = false -> (false = true ↔ trP ts) := fun h => ⟨fun h => (by cases h),fun h' => (by have := h'.2 i hil; rcases h with h | h <;> simp [h] at this)⟩
    refine lp_step ?_
    refine seq_assoc (seq_reg ?_)
    simp only [go_sem,binC,e0,e3]
    refine seq_cond (t := true) (by simp only [go_sem,binC]; rw [decide_eq_true (by omega)]) ?_
    simp only [go_sem,binC]
    refine seq_skip (seq_block (seq_reg ?_))
    simp only [go_sem,binC,e0,e3,g3]
    refine ⟨⟨by omega,by omega⟩,?_⟩
    refine op_callB (by simp only [go_sem,binC]; exact g0 _ _) (fun hb => ?_) (fun hb => ?_)
    ·simp only [go_sem,binC,e0,e3,g3]
     refine ⟨⟨by omega,by omega⟩,?_⟩
     refine op_callB (by simp only [go_sem,binC]; exact g1 _ _ _ (inB_iff.1 hb).1 (inB_iff.1 hb).2) (fun hc => ?_) (fun hc => ?_)
     ·simp only [go_sem,binC]
      refine wpc_cond (t := false) (by simp only [go_sem,binC]) ?_
      simp only [go_sem,binC]
      refine wpc_skip ?_
      simp only [go_sem,binC,out_n,thenX_n]
      refine wpc_reg ?_
      simp only [go_sem,binC,e3,hw1]
      refine ih (i + 1) _ (by omega) ?_ ?_ ?_
      ·simp only [go_sem,binC,e0]
      ·simp only [go_sem,binC]
      intro j h hji
      by_cases hjj : j = i
      ·subst hjj; exact ⟨hb,hc⟩
      ·exact hj j h (by omega)
     ·simp only [go_sem,binC]
      refine wpc_cond (t := true) (by simp only [go_sem,binC]) ?_
      simp only [go_sem,binC]
      refine seq_reg ?_
      simp only [go_sem,binC]
      refine wpc_ret ?_
      simp only [go_sem,binC,out_r,thenX_r]
      exact ⟨Or.inr rfl,.bool false,by simp only [go_sem,binC],⟨false,rfl,stop (.inr hc)⟩,rfl⟩
    ·simp only [go_sem,binC]
     refine wpc_cond (t := true) (by simp only [go_sem,binC]) ?_
     simp only [go_sem,binC]
     refine seq_reg ?_
     simp only [go_sem,binC]
     refine wpc_ret ?_
     simp only [go_sem,binC,out_r,thenX_r]
     exact ⟨Or.inr rfl,.bool false,by simp only [go_sem,binC],⟨false,rfl,stop (.inl hb)⟩,rfl⟩
 ·refine seq_cond (t := true) (by simp only [go_sem,binC]; simpa using (by omega : ¬ ((ts.length : Int) = 3))) ?_
  simp only [go_sem,binC]
  refine seq_assoc (seq_reg ?_)
  simp only [go_sem,binC]
  exact seq_ret ⟨Or.inr rfl,.bool false,by simp only [go_sem,binC],⟨false,rfl,⟨fun h => (by cases h),fun h => absurd h.1 hn⟩⟩,rfl⟩
theorem iTrusts_ok {F : Nat -> Option IFn} {f : Nat} (hf : F f = some c_iTrusts) (g0 : ∀ (H : Heap) (a : Int),QC F 32 [.int .i64 a] H (.bool (inB a 0 7))) (g1 : HasOk F 45) : TrOk F f := by
 rintro H u ts ⟨h0,a,rfl,h2⟩
 suffices h : ∃ v,QC F f [.slice a ts.length ts.length] H v /\ ∃ b : Bool,v = .bool b /\ (b = true ↔ trP ts) from
  let ⟨v,h1,b,h3,h4⟩ := h; ⟨b,h3 ▸ h1,h4⟩
 refine QC.mkE hf rfl ?_
 refine seq_reg ?_
 simp only [go_sem,binC]
 refine seq_assoc (seq_reg ?_)
 simp only [go_sem,binC]
 refine seq_block (wpc_loop ?_)
 suffices h : ∀ (k i : Nat) (e : Env),i + k = ts.length -> e 0 = .slice a ts.length ts.length -> e 5 = .slice a ts.length ts.length -> e 6 = .int .i64 ts.length -> e 7 = .int .i64 i -> (∀ (j : Nat) (h : j < ts.length),j < i -> inB ts[j] 0 7 = true /\ hasB ts[j] j = true) -> W F H.length _ e _ _ from
  h ts.length 0 _ (by omega) (by simp only [go_sem,binC]) (by simp only [go_sem,binC]) (by simp only [go_sem,binC]) (by simp only [go_sem,binC]; rfl) (fun j _ hj => by omega)
 intro k
 induction k with
 | zero =>
   intro i e hi e0 e5 e6 e7 hj
   refine lp_step ?_
   refine seq_reg ?_
   simp only [go_sem,binC,e6,e7]
   refine seq_cond (t := false) (by simp only [go_sem,binC]; rw [decide_eq_false (by omega)]) ?_
   simp only [go_sem,binC]
   refine seq_exit ?_
   simp only [go_sem,binC,thenX_e,out_e,thenX_n]
   refine seq_reg ?_
   simp only [go_sem,binC,e0]
   refine wpc_ret ⟨Or.inr rfl,.bool ((ts.length : Int) == 3),by simp only [go_sem,binC],⟨_,rfl,?_⟩,rfl⟩
   rw [beq_iff_eq]
   exact ⟨fun h => ⟨by omega,fun j h => hj j h (by omega)⟩,fun h => by have := h.1; omega⟩
 | succ k ih =>
   intro i e hi e0 e5 e6 e7 hj
   have hil : i < ts.length := by omega
   rcases h2 with h2 | ⟨b,o,hab,h2⟩
   ·rw [h2] at hil; simp at hil
   subst hab
   obtain ⟨cs,h3,rfl,h4⟩ := h2 i hil
   have g3 := rng_gc h3
   simp only [Co.int] at g3
   have hw1 : IntKind.i64.wrap ((i : Int) + 1) = ((i + 1 : Nat) : Int) := by rw [wrap_id (by omega) (by omega)]; omega
   have stop : inB ts[i] 0 7 = false \/ hasB ts[i] i = false -> (false = true ↔ trP ts) := fun h => ⟨fun h => (by cases h),fun h' => (by have := h'.2 i hil; rcases h with h | h <;> simp [h] at this)⟩
   refine lp_step ?_
   refine seq_reg ?_
   simp only [go_sem,binC,e6,e7]
   refine seq_cond (t := true) (by simp only [go_sem,binC]; rw [decide_eq_true (by omega)]) ?_
   simp only [go_sem,binC]
   refine seq_skip (seq_block (seq_reg ?_))
   simp only [go_sem,binC,e5,e7,g3]
   refine ⟨⟨by omega,by omega⟩,?_⟩
   refine seq_reg ?_
   simp only [go_sem,binC]
   refine op_callB (by simp only [go_sem,binC]; exact g0 _ _) (fun hb => ?_) (fun hb => ?_)
   ·simp only [go_sem,binC]
    refine op_callB (by simp only [go_sem,binC]; exact g1 _ _ _ (inB_iff.1 hb).1 (inB_iff.1 hb).2) (fun hc => ?_) (fun hc => ?_)
    ·simp only [go_sem,binC]
     refine wpc_cond (t := false) (by simp only [go_sem,binC]) ?_
     simp only [go_sem,binC]
     refine wpc_skip ?_
     simp only [go_sem,binC,out_n,thenX_n]
     refine wpc_reg ?_
     simp only [go_sem,binC,e7,hw1]
     refine ih (i + 1) _ (by omega) ?_ ?_ ?_ ?_ ?_
     ·simp only [go_sem,binC,e0]
     ·simp only [go_sem,binC,e5]
     ·simp only [go_sem,binC,e6]
     ·simp only [go_sem,binC]
     intro j h hji
     by_cases hjj : j = i
     ·subst hjj; exact ⟨hb,hc⟩
     ·exact hj j h (by omega)
    ·simp only [go_sem,binC]
     refine wpc_cond (t := true) (by simp only [go_sem,binC]) ?_
     simp only [go_sem,binC]
     refine seq_reg ?_
     simp only [go_sem,binC]
     refine wpc_ret ?_
     simp only [go_sem,binC,out_r,thenX_r]
     exact ⟨Or.inr rfl,.bool false,by simp only [go_sem,binC],⟨false,rfl,stop (.inr hc)⟩,rfl⟩
   ·simp only [go_sem,binC]
    refine wpc_cond (t := true) (by simp only [go_sem,binC]) ?_
    simp only [go_sem,binC]
    refine seq_reg ?_
    simp only [go_sem,binC]
    refine wpc_ret ?_
    simp only [go_sem,binC,out_r,thenX_r]
    exact ⟨Or.inr rfl,.bool false,by simp only [go_sem,binC],⟨false,rfl,stop (.inl hb)⟩,rfl⟩
end Go.Proofs.YtbjeldblaclpnaaGreatI
end
section
set_option linter.unusedVariables false
set_option linter.unusedSimpArgs false
namespace Go.Proofs.YtbjeldblaclpnaaGreatI
open Go Go.RowKit
def byS (ts : List Int) (h : Int) : Nat -> Int
 | 0 => 0
 | i + 1 => byS ts h i + (if hasB (ts.getD i 0) h = true then 2 ^ i else 0)
theorem byS_lt (ts : List Int) (h : Int) : ∀ i,0 <= byS ts h i /\ byS ts h i < 2 ^ i
 | 0 => ⟨Int.le_refl _,by simp [byS]⟩
 | i + 1 => by
   have := byS_lt ts h i
   have h2 : (2 : Int) ^ (i + 1) = 2 ^ i * 2 := Int.pow_succ 2 i
   simp only [byS]
   split <;> omega
def ByOk (F : Nat -> Option IFn) (f : Nat) : Prop := ∀ (H : Heap) (u : Value) (ts : List Int) (h : Int),SlR Co.int (vw 0 H) u ts -> trP ts -> 0 <= h -> h <= 2 -> QC F f [u,.int .i64 h] H (.int .i64 (byS ts h 3))
theorem or_low {x : Int} {i : Nat} (hi : i < 3) (h0 : 0 <= x) (h1 : x < 2 ^ i) : IntKind.i64.wrap ((BitVec.ofInt IntKind.i64.bits x ||| BitVec.ofInt IntKind.i64.bits (IntKind.i64.wrap (1 * 2 ^ (min i IntKind.i64.bits)))).toNat : Nat) = x + 2 ^ i := by
 have hi' : i = 0 \/ i = 1 \/ i = 2 := by omega
 rcases hi' with rfl | rfl | rfl
 ·have hx : x = 0 := by simp at h1; omega
  subst hx; decide
 ·have hx : x = 0 \/ x = 1 := by simp at h1; omega
  rcases hx with rfl | rfl <;> decide
 ·have hx : x = 0 \/ x = 1 \/ x = 2 \/ x = 3 := by
   have : (2 : Int) ^ 2 = 4 := by decide
   omega
  rcases hx with rfl | rfl | rfl | rfl <;> decide
theorem add_low {x : Int} {i : Nat} (hi : i < 3) (h0 : 0 <= x) (h1 : x < 2 ^ i) : IntKind.i64.wrap (x + IntKind.i64.wrap (1 * 2 ^ (min i 64))) = x + 2 ^ i := by
 have hi' : i = 0 \/ i = 1 \/ i = 2 := by omega
 rcases hi' with rfl | rfl | rfl
 ·have hx : x = 0 := by simp at h1; omega
  subst hx; decide
 ·have hx : x = 0 \/ x = 1 := by simp at h1; omega
  rcases hx with rfl | rfl <;> decide
 ·have hx : x = 0 \/ x = 1 \/ x = 2 \/ x = 3 := by
   have : (2 : Int) ^ 2 = 4 := by decide
   omega
  rcases hx with rfl | rfl | rfl | rfl <;> decide
theorem sBy_ok {F : Nat -> Option IFn} {f : Nat} (hf : F f = some c_sBy) (g1 : HasOk F 37) : ByOk F f := by
 rintro H u ts h ⟨h0,a,rfl,h2⟩ ⟨hn,ht⟩ hh0 hh2
 refine QC.mk hf rfl ?_
 refine seq_reg ?_
 simp only [go_sem,binC]
 refine seq_assoc (seq_reg ?_)
 simp only [go_sem,binC]
 refine seq_cond (t := false) (by simp only [go_sem,binC]; rw [decide_eq_false (by omega)]) ?_
 simp only [go_sem,binC]
 refine seq_skip (seq_reg ?_)
 simp only [go_sem,binC]
 refine seq_assoc (seq_reg ?_)
 simp only [go_sem,binC]
 refine seq_block (wpc_loop ?_)
 suffices hl : ∀ (k i : Nat) (e : Env),i + k = 3 -> e 0 = .slice a ts.length ts.length -> e 1 = .int .i64 h -> e 5 = .int .i64 (byS ts h i) -> e 6 = .int .i64 i -> W F H.length _ e _ _ from
  hl 3 0 _ (by omega) (by simp only [go_sem,binC]) (by simp only [go_sem,binC]) (by simp only [go_sem,binC]; rfl) (by simp only [go_sem,binC]; rfl)
 intro k
 induction k with
 | zero =>
   intro i e hi e0 e1 e5 e6
   refine lp_step ?_
   refine seq_assoc (seq_reg ?_)
   simp only [go_sem,binC,e6]
   refine seq_cond (t := false) (by simp only [go_sem,binC]; rw [decide_eq_false (by omega)]) ?_
   simp only [go_sem,binC]
   refine seq_exit ?_
   simp only [go_sem,binC,thenX_e,out_e,thenX_n]
   refine seq_reg ?_
   simp only [go_sem,binC,e5]
   refine wpc_ret ⟨Or.inr rfl,.int .i64 (byS ts h i),by simp only [go_sem,binC],?_,rfl⟩
   rw [show i = 3 by omega]
 | succ k ih =>
   intro i e hi e0 e1 e5 e6
   have hil : i < ts.length := by omega
   rcases h2 with h2 | ⟨b,o,hab,h2⟩
   ·rw [h2] at hil; simp at hil
   subst hab
   obtain ⟨cs,h3,rfl,h4⟩ := h2 i hil
   have g3 := rng_gc h3
   simp only [Co.int] at g3
   have hti := inB_iff.1 (ht i hil).1
   have hgd : ts.getD i 0 = ts[i] := by simp [List.getD,hil]
   have hw1 : IntKind.i64.wrap ((i : Int) + 1) = ((i + 1 : Nat) : Int) := by rw [wrap_id (by omega) (by omega)]; omega
   refine lp_step ?_
   refine seq_assoc (seq_reg ?_)
   simp only [go_sem,binC,e6]
   refine seq_cond (t := true) (by simp only [go_sem,binC]; rw [decide_eq_true (by omega)]) ?_
   simp only [go_sem,binC]
   refine seq_skip (seq_block (seq_reg ?_))
   simp only [go_sem,binC,e0,e1,e6,g3]
   refine ⟨⟨by omega,by omega⟩,?_⟩
   refine op_callB (by simp only [go_sem,binC,e1]; exact g1 _ _ _ hti.1 hti.2) (fun hb => ?_) (fun hb => ?_)
   ·simp only [go_sem,binC]
    refine wpc_cond (t := true) (by simp only [go_sem,binC]) ?_
    simp only [go_sem,binC]
    refine wpc_reg ?_
    simp only [go_sem,binC,e5,e6]
    refine shl_rule (by omega) ?_
    simp only [go_sem,binC,IntKind.bits]
    rw [add_low (by omega) (byS_lt ts h i).1 (byS_lt ts h i).2]
    simp only [go_sem,binC,out_n,thenX_n]
    refine wpc_reg ?_
    simp only [go_sem,binC,e6,hw1]
    exact ih (i + 1) _ (by omega) (by simp only [go_sem,binC,e0]) (by simp only [go_sem,binC,e1]) (by simp only [go_sem,binC]; simp only [byS,hgd,hb,if_true]) (by simp only [go_sem,binC])
   ·simp only [go_sem,binC]
    refine wpc_cond (t := false) (by simp only [go_sem,binC]) ?_
    simp only [go_sem,binC]
    refine wpc_skip ?_
    simp only [go_sem,binC,out_n,thenX_n]
    refine wpc_reg ?_
    simp only [go_sem,binC,e6,hw1]
    exact ih (i + 1) _ (by omega) (by simp only [go_sem,binC,e0]) (by simp only [go_sem,binC,e1]) (by simp only [go_sem,binC,e5]; simp only [byS,hgd,hb,Bool.false_eq_true,if_false,Int.add_zero]) (by simp only [go_sem,binC])
theorem iBy_ok {F : Nat -> Option IFn} {f : Nat} (hf : F f = some c_iBy) (g1 : HasOk F 45) : ByOk F f := by
 rintro H u ts h ⟨h0,a,rfl,h2⟩ ⟨hn,ht⟩ hh0 hh2
 refine QC.mk hf rfl ?_
 refine seq_reg ?_
 simp only [go_sem,binC]
 refine seq_reg ?_
 simp only [go_sem,binC]
 refine seq_assoc (seq_reg ?_)
 simp only [go_sem,binC]
 refine seq_block (wpc_loop ?_)
 suffices hl : ∀ (k i : Nat) (e : Env),i + k = 3 -> e 8 = .slice a ts.length ts.length -> e 9 = .int .i64 ts.length -> e 1 = .int .i64 h -> e 5 = .int .i64 (byS ts h i) -> e 10 = .int .i64 i -> W F H.length _ e _ _ from
  hl 3 0 _ (by omega) (by simp only [go_sem,binC]) (by simp only [go_sem,binC]) (by simp only [go_sem,binC]) (by simp only [go_sem,binC]; rfl) (by simp only [go_sem,binC]; rfl)
 intro k
 induction k with
 | zero =>
   intro i e hi e8 e9 e1 e5 e10
   refine lp_step ?_
   refine seq_reg ?_
   simp only [go_sem,binC,e9,e10]
   refine seq_cond (t := false) (by simp only [go_sem,binC]; rw [decide_eq_false (by omega)]) ?_
   simp only [go_sem,binC]
   refine seq_exit ?_
   simp only [go_sem,binC,thenX_e,out_e,thenX_n]
   refine seq_reg ?_
   simp only [go_sem,binC,e5]
   refine wpc_ret ⟨Or.inr rfl,.int .i64 (byS ts h i),by simp only [go_sem,binC],?_,rfl⟩
   rw [show i = 3 by omega]
 | succ k ih =>
   intro i e hi e8 e9 e1 e5 e10
   have hil : i < ts.length := by omega
   rcases h2 with h2 | ⟨b,o,hab,h2⟩
   ·rw [h2] at hil; simp at hil
   subst hab
   obtain ⟨cs,h3,rfl,h4⟩ := h2 i hil
   have g3 := rng_gc h3
   simp only [Co.int] at g3
   have hti := inB_iff.1 (ht i hil).1
   have hgd : ts.getD i 0 = ts[i] := by simp [List.getD,hil]
   have hw1 : IntKind.i64.wrap ((i : Int) + 1) = ((i + 1 : Nat) : Int) := by rw [wrap_id (by omega) (by omega)]; omega
   refine lp_step ?_
   refine seq_reg ?_
   simp only [go_sem,binC,e9,e10]
   refine seq_cond (t := true) (by simp only [go_sem,binC]; rw [decide_eq_true (by omega)]) ?_
   simp only [go_sem,binC]
   refine seq_skip (seq_block (seq_reg ?_))
   simp only [go_sem,binC,e8,e10,g3]
   refine ⟨⟨by omega,by omega⟩,?_⟩
   refine seq_reg ?_
   simp only [go_sem,binC,e1]
   refine op_callB (by simp only [go_sem,binC,e1]; exact g1 _ _ _ hti.1 hti.2) (fun hb => ?_) (fun hb => ?_)
   ·simp only [go_sem,binC]
    refine wpc_cond (t := true) (by simp only [go_sem,binC]) ?_
    simp only [go_sem,binC]
    refine wpc_reg ?_
    simp only [go_sem,binC,e5,e10]
    refine shl_rule (by omega) ?_
    simp only [go_sem,binC]
    refine or_rule ?_
    simp only [go_sem,binC]
    have e64 := or_low (x := byS ts h i) (i := i) (by omega) (byS_lt ts h i).1 (byS_lt ts h i).2
    simp only [go_sem,binC] at e64
    simp only [e64]
    simp only [go_sem,binC,out_n,thenX_n]
    refine wpc_reg ?_
    simp only [go_sem,binC,e10,hw1]
    exact ih (i + 1) _ (by omega) (by simp only [go_sem,binC,e8]) (by simp only [go_sem,binC,e9]) (by simp only [go_sem,binC,e1]) (by simp only [go_sem,binC]; simp only [byS,hgd,hb,if_true]) (by simp only [go_sem,binC])
   ·simp only [go_sem,binC]
    refine wpc_cond (t := false) (by simp only [go_sem,binC]) ?_
    simp only [go_sem,binC]
    refine wpc_skip ?_
    simp only [go_sem,binC,out_n,thenX_n]
    refine wpc_reg ?_
    simp only [go_sem,binC,e10,hw1]
    exact ih (i + 1) _ (by omega) (by simp only [go_sem,binC,e8]) (by simp only [go_sem,binC,e9]) (by simp only [go_sem,binC,e1]) (by simp only [go_sem,binC,e5]; simp only [byS,hgd,hb,Bool.false_eq_true,if_false,Int.add_zero]) (by simp only [go_sem,binC])
end Go.Proofs.YtbjeldblaclpnaaGreatI
end
section
set_option linter.unusedVariables false
set_option linter.unusedSimpArgs false
namespace Go.Proofs.YtbjeldblaclpnaaGreatI
open Go Go.RowKit
def c_sBoth : IFn := ⟨2,24,[.t 4],
 .seq (.reg none [⟨some 4,none,.mov (.c (.int .i64 0))⟩])
 (.seq (.reg none [⟨some 5,none,.mov (.c (.int .i64 0))⟩])
 (.seq (.seq (.reg none [⟨some 6,none,.mov (.c (.int .i64 0))⟩])
  (.block 0 (.loop (.seq (.seq (.reg none [⟨some 7,none,.mov (.t 6)⟩,⟨some 8,none,.bin .lss (.t 7) (.c (.int .i64 3))⟩])
    (.cond (.t 8) (.skip) (.exit 0)))
   (.seq (.block 1 (.seq (.reg none [⟨some 11,none,.mov (.t 0)⟩,⟨some 12,none,.mov (.t 6)⟩,⟨some 13,none,.call .q (.f 37) [.t 11,.t 12]⟩,
      ⟨some 14,none,.mov (.t 13)⟩,⟨some 15,some (14,true),.mov (.t 1)⟩,⟨some 16,some (14,true),.mov (.t 6)⟩,
      ⟨some 17,some (14,true),.call .q (.f 37) [.t 15,.t 16]⟩,⟨some 18,none,.pick (.t 14) (.t 17) (.c (.bool false))⟩])
    (.cond (.t 18) (.reg none [⟨some 19,none,.mov (.t 5)⟩,⟨some 20,none,.mov (.t 6)⟩,⟨some 21,none,.bin .shl (.c (.int .i64 1)) (.t 20)⟩,
      ⟨some 22,none,.bin .add (.t 19) (.t 21)⟩,⟨some 5,none,.mov (.t 22)⟩]) (.skip))))
   (.reg none [⟨some 9,none,.mov (.t 6)⟩,⟨some 10,none,.bin .add (.t 9) (.c (.int .i64 1))⟩,⟨some 6,none,.mov (.t 10)⟩]))))))
 (.seq (.reg none [⟨some 23,none,.mov (.t 5)⟩,⟨some 4,none,.mov (.t 23)⟩])
 (.ret))))⟩
def c_sEither : IFn := ⟨2,12,[.t 4],
 .seq (.reg none [⟨some 4,none,.mov (.c (.int .i64 0))⟩])
 (.seq (.reg none [⟨some 5,none,.mov (.t 0)⟩,⟨some 6,none,.mov (.t 1)⟩,⟨some 7,none,.bin .add (.t 5) (.t 6)⟩,⟨some 8,none,.mov (.t 0)⟩,
   ⟨some 9,none,.mov (.t 1)⟩,⟨some 10,none,.call .q (.f 94) [.t 8,.t 9]⟩,⟨some 11,none,.bin .sub (.t 7) (.t 10)⟩,⟨some 4,none,.mov (.t 11)⟩])
 (.ret))⟩
def c_sLBoth : IFn := ⟨2,25,[.cell true 2 4],
 .seq (.reg none [⟨some 2,none,.box (.t 0)⟩,⟨some 3,none,.box (.t 1)⟩,⟨some 4,none,.new [(.int .i64 0),(.int .i64 0)]⟩])
 (.seq (.seq (.reg none [⟨some 5,none,.load true 2 (.t 2)⟩,⟨some 6,none,.call .q (.f 82) [.t 5]⟩,⟨some 7,none,.un .not (.t 6)⟩,⟨some 8,none,.mov (.t 7)⟩,
   ⟨some 9,some (8,false),.load true 2 (.t 3)⟩,⟨some 10,some (8,false),.call .q (.f 82) [.t 9]⟩,⟨some 11,some (8,false),.un .not (.t 10)⟩,
   ⟨some 12,none,.pick (.t 8) (.c (.bool true)) (.t 11)⟩])
  (.cond (.t 12) (.seq (.reg none [⟨some 13,none,.build [(.int .i64 0),(.int .i64 0)] []⟩,⟨none,none,.store 2 (.t 4) (.t 13)⟩])
   (.ret)) (.skip)))
 (.seq (.reg (some 9) [⟨some 14,none,.fad 0 (.t 2)⟩,⟨some 15,none,.load false 1 (.t 14)⟩,⟨some 16,none,.fad 0 (.t 3)⟩,⟨some 17,none,.load false 1 (.t 16)⟩,
   ⟨some 18,none,.call .q (.f 94) [.t 15,.t 17]⟩,⟨some 19,none,.fad 1 (.t 2)⟩,⟨some 20,none,.load false 1 (.t 19)⟩,⟨some 21,none,.fad 1 (.t 3)⟩,
   ⟨some 22,none,.load false 1 (.t 21)⟩,⟨some 23,none,.call .q (.f 94) [.t 20,.t 22]⟩,
   ⟨some 24,none,.build [(.int .i64 0),(.int .i64 0)] [(0,1,(.t 18)),(1,1,(.t 23))]⟩,⟨none,none,.store 2 (.t 4) (.t 24)⟩])
 (.ret)))⟩
def c_sFlows : IFn := ⟨2,25,[.t 4],
 .seq (.reg none [⟨some 2,none,.box (.t 0)⟩,⟨some 3,none,.box (.t 1)⟩,⟨some 4,none,.mov (.c (.bool false))⟩])
 (.seq (.reg none [⟨some 5,none,.load true 2 (.t 2)⟩,⟨some 6,none,.call .q (.f 82) [.t 5]⟩,⟨some 7,none,.mov (.t 6)⟩,
   ⟨some 8,some (7,true),.load true 2 (.t 3)⟩,⟨some 9,some (7,true),.call .q (.f 82) [.t 8]⟩,⟨some 10,none,.pick (.t 7) (.t 9) (.c (.bool false))⟩,
   ⟨some 11,none,.mov (.t 10)⟩,⟨some 12,some (11,true),.fad 0 (.t 3)⟩,⟨some 13,some (11,true),.load false 1 (.t 12)⟩,⟨some 14,some (11,true),.fad 0 (.t 2)⟩,
   ⟨some 15,some (11,true),.load false 1 (.t 14)⟩,⟨some 16,some (11,true),.call .q (.f 62) [.t 13,.t 15]⟩,
   ⟨some 17,none,.pick (.t 11) (.t 16) (.c (.bool false))⟩,⟨some 18,none,.mov (.t 17)⟩,⟨some 19,some (18,true),.fad 1 (.t 3)⟩,
   ⟨some 20,some (18,true),.load false 1 (.t 19)⟩,⟨some 21,some (18,true),.fad 1 (.t 2)⟩,⟨some 22,some (18,true),.load false 1 (.t 21)⟩,
   ⟨some 23,some (18,true),.call .q (.f 62) [.t 20,.t 22]⟩,⟨some 24,none,.pick (.t 18) (.t 23) (.c (.bool false))⟩,⟨some 4,none,.mov (.t 24)⟩])
 (.ret))⟩
def c_sAny : IFn := ⟨0,4,[.cell true 2 0],
 .seq (.reg none [⟨some 0,none,.new [(.int .i64 0),(.int .i64 0)]⟩])
 (.seq (.reg none [⟨some 1,none,.call .q (.f 66) []⟩,⟨some 2,none,.call .q (.f 66) []⟩,
   ⟨some 3,none,.build [(.int .i64 0),(.int .i64 0)] [(0,1,(.t 1)),(1,1,(.t 2))]⟩,⟨none,none,.store 2 (.t 0) (.t 3)⟩])
 (.ret))⟩
def c_sValL : IFn := ⟨2,35,[.cell true 2 4],
 .seq (.reg none [⟨some 2,none,.box (.t 0)⟩,⟨some 3,none,.box (.t 1)⟩,⟨some 4,none,.new [(.int .i64 0),(.int .i64 0)]⟩])
 (.seq (.reg none [⟨some 6,none,.call .q (.f 85) []⟩,⟨some 5,none,.new [(.int .i64 0),(.int .i64 0)]⟩,⟨none,none,.store 2 (.t 5) (.t 6)⟩])
 (.seq (.seq (.reg none [⟨some 7,none,.fad 0 (.t 3)⟩,⟨some 8,none,.load false 1 (.t 7)⟩,⟨some 9,none,.bin .neq (.t 8) (.c (.int .i64 1))⟩])
  (.cond (.t 9) (.reg (some 7) [⟨some 10,none,.load true 2 (.t 5)⟩,⟨some 11,none,.fad 0 (.t 2)⟩,⟨some 12,none,.load false 1 (.t 11)⟩,
    ⟨some 13,none,.fad 1 (.t 3)⟩,⟨some 14,none,.load false 1 (.t 13)⟩,⟨some 15,none,.iad 2 (.t 12) (.t 14)⟩,⟨some 16,none,.load true 2 (.t 15)⟩,
    ⟨some 17,none,.call .q (.f 96) [.t 10,.t 16]⟩,⟨none,none,.store 2 (.t 5) (.t 17)⟩]) (.skip)))
 (.seq (.seq (.reg none [⟨some 18,none,.fad 0 (.t 3)⟩,⟨some 19,none,.load false 1 (.t 18)⟩,⟨some 20,none,.bin .eql (.t 19) (.c (.int .i64 3))⟩,
   ⟨some 21,none,.mov (.t 20)⟩,⟨some 22,some (21,false),.fad 0 (.t 3)⟩,⟨some 23,some (21,false),.load false 1 (.t 22)⟩,
   ⟨some 24,some (21,false),.bin .eql (.t 23) (.c (.int .i64 4))⟩,⟨some 25,none,.pick (.t 21) (.c (.bool true)) (.t 24)⟩])
  (.cond (.t 25) (.reg (some 7) [⟨some 26,none,.load true 2 (.t 5)⟩,⟨some 27,none,.fad 0 (.t 2)⟩,⟨some 28,none,.load false 1 (.t 27)⟩,
    ⟨some 29,none,.fad 2 (.t 3)⟩,⟨some 30,none,.load false 1 (.t 29)⟩,⟨some 31,none,.iad 2 (.t 28) (.t 30)⟩,⟨some 32,none,.load true 2 (.t 31)⟩,
    ⟨some 33,none,.call .q (.f 96) [.t 26,.t 32]⟩,⟨none,none,.store 2 (.t 5) (.t 33)⟩]) (.skip)))
 (.seq (.reg none [⟨some 34,none,.load true 2 (.t 5)⟩,⟨none,none,.store 2 (.t 4) (.t 34)⟩])
 (.ret)))))⟩
def c_sFine : IFn := ⟨3,39,[.t 6],
 .seq (.reg none [⟨some 3,none,.box (.t 0)⟩,⟨some 4,none,.box (.t 1)⟩,⟨some 5,none,.box (.t 2)⟩,⟨some 6,none,.mov (.c (.bool false))⟩])
 (.seq (.seq (.reg none [⟨some 7,none,.fad 0 (.t 4)⟩,⟨some 8,none,.load false 1 (.t 7)⟩])
  (.block 0 (.seq (.reg none [⟨some 10,none,.bin .eql (.t 8) (.c (.int .i64 1))⟩,⟨some 9,none,.mov (.t 10)⟩])
   (.cond (.t 9) (.seq (.reg (some 12) [⟨some 11,none,.load true 2 (.t 5)⟩,⟨some 12,none,.load true 2 (.t 3)⟩,⟨some 13,none,.fad 2 (.t 4)⟩,
     ⟨some 14,none,.load true 3 (.t 13)⟩,⟨some 15,none,.call .q (.f 97) [.t 12,.t 14]⟩,⟨some 16,none,.call .q (.f 96) [.t 11,.t 15]⟩,
     ⟨some 17,none,.fad 0 (.t 3)⟩,⟨some 18,none,.load false 1 (.t 17)⟩,⟨some 19,none,.fad 1 (.t 4)⟩,⟨some 20,none,.load false 1 (.t 19)⟩,
     ⟨some 21,none,.iad 2 (.t 18) (.t 20)⟩,⟨some 22,none,.load true 2 (.t 21)⟩,⟨some 23,none,.call .q (.f 95) [.t 16,.t 22]⟩,⟨some 6,none,.mov (.t 23)⟩])
    (.ret)) (.seq (.reg none [⟨some 25,none,.bin .eql (.t 8) (.c (.int .i64 3))⟩,⟨some 24,none,.mov (.t 25)⟩])
    (.cond (.t 24) (.seq (.reg (some 12) [⟨some 26,none,.fad 0 (.t 5)⟩,⟨some 27,none,.load false 1 (.t 26)⟩,⟨some 28,none,.fad 0 (.t 3)⟩,
      ⟨some 29,none,.load false 1 (.t 28)⟩,⟨some 30,none,.fad 1 (.t 4)⟩,⟨some 31,none,.load false 1 (.t 30)⟩,⟨some 32,none,.iad 2 (.t 29) (.t 31)⟩,
      ⟨some 33,none,.fad 0 (.t 32)⟩,⟨some 34,none,.load false 1 (.t 33)⟩,⟨some 35,none,.call .q (.f 94) [.t 27,.t 34]⟩,⟨some 36,none,.fad 5 (.t 4)⟩,
      ⟨some 37,none,.load false 1 (.t 36)⟩,⟨some 38,none,.call .q (.f 37) [.t 35,.t 37]⟩,⟨some 6,none,.mov (.t 38)⟩])
     (.ret)) (.skip)))))))
 (.seq (.reg none [⟨some 6,none,.mov (.c (.bool true))⟩])
 (.ret)))⟩
def bothS (a b : Int) : Nat -> Int
 | 0 => 0
 | i + 1 => bothS a b i + (if (hasB a i && hasB b i) = true then 2 ^ i else 0)
theorem bothS_lt (a b : Int) : ∀ i,0 <= bothS a b i /\ bothS a b i < 2 ^ i
 | 0 => ⟨Int.le_refl _,by simp [bothS]⟩
 | i + 1 => by
   have := bothS_lt a b i
   have h2 : (2 : Int) ^ (i + 1) = 2 ^ i * 2 := Int.pow_succ 2 i
   simp only [bothS]
   split <;> omega
theorem bothS_bd (a b : Int) : 0 <= bothS a b 3 /\ bothS a b 3 <= 7 := by
 have := bothS_lt a b 3
 have h8 : (2 : Int) ^ 3 = 8 := by decide
 omega
def BothOk (F : Nat -> Option IFn) (f : Nat) : Prop := ∀ (H : Heap) (a b : Int),0 <= a -> a <= 7 -> 0 <= b -> b <= 7 -> QC F f [.int .i64 a,.int .i64 b] H (.int .i64 (bothS a b 3))
theorem sBoth_ok {F : Nat -> Option IFn} {f : Nat} (hf : F f = some c_sBoth) (g1 : HasOk F 37) : BothOk F f := by
 intro H a b ha0 ha7 hb0 hb7
 refine QC.mk hf rfl ?_
 refine seq_reg ?_
 simp only [go_sem,binC]
 refine seq_reg ?_
 simp only [go_sem,binC]
 refine seq_assoc (seq_reg ?_)
 simp only [go_sem,binC]
 refine seq_block (wpc_loop ?_)
 suffices hl : ∀ (k i : Nat) (e : Env),i + k = 3 -> e 0 = .int .i64 a -> e 1 = .int .i64 b -> e 5 = .int .i64 (bothS a b i) -> e 6 = .int .i64 i -> W F H.length _ e _ _ from
  hl 3 0 _ (by omega) (by simp only [go_sem,binC]) (by simp only [go_sem,binC]) (by (simp only [go_sem,binC]) <;> rfl) (by (simp only [go_sem,binC]) <;> rfl)
 intro k
 induction k with
 | zero =>
   intro i e hi e0 e1 e5 e6
   refine lp_step ?_
   refine seq_assoc (seq_reg ?_)
   simp only [go_sem,binC,e6]
   refine seq_cond (t := false) (by simp only [go_sem,binC]; rw [decide_eq_false (by omega)]) ?_
   simp only [go_sem,binC]
   refine seq_exit ?_
   simp only [go_sem,binC,thenX_e,out_e,thenX_n]
   refine seq_reg ?_
   simp only [go_sem,binC,e5]
   refine wpc_ret ⟨Or.inr rfl,.int .i64 (bothS a b i),by simp only [go_sem,binC],?_,rfl⟩
   rw [show i = 3 by omega]
 | succ k ih =>
   intro i e hi e0 e1 e5 e6
   have hw1 : IntKind.i64.wrap ((i : Int) + 1) = ((i + 1 : Nat) : Int) := by rw [wrap_id (by omega) (by omega)]; omega
   have no : (hasB a i && hasB b i) = false -> ∀ e' : Env,e' 0 = .int .i64 a -> e' 1 = .int .i64 b -> e' 5 = .int .i64 (bothS a b i) -> e' 6 = .int .i64 ((i + 1 : Nat) : Int) -> W F H.length _ e' _ _ := fun h e' q0 q1 q5 q6 =>
    ih (i + 1) e' (by omega) q0 q1 (by rw [q5]; simp only [bothS,h,Bool.false_eq_true,if_false,Int.add_zero]) q6
   refine lp_step ?_
   refine seq_assoc (seq_reg ?_)
   simp only [go_sem,binC,e6]
   refine seq_cond (t := true) (by simp only [go_sem,binC]; rw [decide_eq_true (by omega)]) ?_
   simp only [go_sem,binC]
   refine seq_skip (seq_block (seq_reg ?_))
   simp only [go_sem,binC,e0,e1,e6]
   refine op_callB (by simp only [go_sem,binC,e0,e6]; exact g1 _ _ _ ha0 ha7) (fun hb => ?_) (fun hb => ?_)
   ·simp only [go_sem,binC,e0,e1,e6]
    refine op_callB (by simp only [go_sem,binC,e1,e6]; exact g1 _ _ _ hb0 hb7) (fun hc => ?_) (fun hc => ?_)
    ·simp only [go_sem,binC]
     refine wpc_cond (t := true) (by simp only [go_sem,binC]) ?_
     simp only [go_sem,binC]
     refine wpc_reg ?_
     simp only [go_sem,binC,e5,e6]
     refine shl_rule (by omega) ?_
     simp only [go_sem,binC,IntKind.bits]
     rw [add_low (by omega) (bothS_lt a b i).1 (bothS_lt a b i).2]
     simp only [go_sem,binC,out_n,thenX_n]
     refine wpc_reg ?_
     simp only [go_sem,binC,e6,hw1]
     exact ih (i + 1) _ (by omega) (by simp only [go_sem,binC,e0]) (by simp only [go_sem,binC,e1]) (by simp only [go_sem,binC]; simp only [bothS,hb,hc,Bool.and_self,if_true]) (by simp only [go_sem,binC])
    ·simp only [go_sem,binC]
     refine wpc_cond (t := false) (by simp only [go_sem,binC]) ?_
     simp only [go_sem,binC]
     refine wpc_skip ?_
     simp only [go_sem,binC,out_n,thenX_n]
     refine wpc_reg ?_
     simp only [go_sem,binC,e6,hw1]
     exact no (by rw [hb,hc]; rfl) _ (by simp only [go_sem,binC,e0]) (by simp only [go_sem,binC,e1]) (by simp only [go_sem,binC,e5]) (by simp only [go_sem,binC])
   ·simp only [go_sem,binC]
    refine wpc_cond (t := false) (by simp only [go_sem,binC]) ?_
    simp only [go_sem,binC]
    refine wpc_skip ?_
    simp only [go_sem,binC,out_n,thenX_n]
    refine wpc_reg ?_
    simp only [go_sem,binC,e6,hw1]
    exact no (by rw [hb]; rfl) _ (by simp only [go_sem,binC,e0]) (by simp only [go_sem,binC,e1]) (by simp only [go_sem,binC,e5]) (by simp only [go_sem,binC])
theorem sEither_ok {F : Nat -> Option IFn} {f : Nat} (hf : F f = some c_sEither) (g : BothOk F 94) : ∀ (H : Heap) (a b : Int),0 <= a -> a <= 7 -> 0 <= b -> b <= 7 -> QC F f [.int .i64 a,.int .i64 b] H (.int .i64 (a + b - bothS a b 3)) := by
 intro H a b h1 h2 h3 h4
 have hb := bothS_bd a b
 refine QC.mk hf rfl ?_
 refine seq_reg ?_
 simp only [go_sem,binC]
 refine seq_reg ?_
 simp only [go_sem,binC]
 refine op_callQ (by simp only [go_sem,binC]; exact g H a b h1 h2 h3 h4) ?_
 simp only [go_sem,binC]
 rw [wrap_id (x := a + b) (by omega) (by omega),wrap_id (x := a + b - bothS a b 3) (by omega) (by omega)]
 refine wpc_ret ⟨Or.inr rfl,_,(by (simp only [go_sem,binC]) <;> rfl),rfl,rfl⟩
def RgI (a : Int) : Prop := -9223372036854775808 <= a /\ a <= 9223372036854775807
theorem rd_p2 (V : Vw) {x y : Int} (hx : RgI x) (hy : RgI y) : Rd Co.p2 true V (.agg #[.int .i64 x,.int .i64 y]) (x,y) := ⟨_,rfl,[.int .i64 x],[.int .i64 y],rfl,⟨rfl,hx⟩,⟨rfl,hy⟩⟩
theorem labB_bd {x y : Int} (h : labB (x,y) = true) : (0 <= x /\ x <= 7) /\ (0 <= y /\ y <= 7) := by simpa [labB,inB] using h
def lboth (a b : Int × Int) : Int × Int := if (labB a && labB b) = true then (bothS a.1 b.1 3,bothS a.2 b.2 3) else (0,0)
theorem lboth_bd (a b : Int × Int) : labB (lboth a b) = true := by
 unfold lboth
 split
 ·have := bothS_bd a.1 b.1
  have := bothS_bd a.2 b.2
  simp [labB,inB]; omega
 ·rfl
theorem labB_rg {a : Int × Int} (h : labB a = true) : RgI a.1 /\ RgI a.2 := by
 obtain ⟨x,y⟩ := a
 have := labB_bd h
 unfold RgI
 simp only
 omega
def LBothOk (F : Nat -> Option IFn) (f : Nat) : Prop := ∀ (H : Heap) (x y z w : Int),RgI x -> RgI y -> RgI z -> RgI w -> QC F f [.agg #[.int .i64 x,.int .i64 y],.agg #[.int .i64 z,.int .i64 w]] H (.agg #[.int .i64 (lboth (x,y) (z,w)).1,.int .i64 (lboth (x,y) (z,w)).2])
theorem sLBoth_ok {F : Nat -> Option IFn} {f : Nat} (hf : F f = some c_sLBoth) (gl : LabOk F 82) (gb : BothOk F 94) : LBothOk F f := by
 intro H x y z w hx hy hz hw
 refine QC.mk hf rfl ?_
 refine seq_reg ?_
 simp only [go_sem,binC]
 refine seq_assoc (seq_reg ?_)
 simp only [go_sem,binC,inBlk_some]
 refine op_callQ (by simp only [go_sem,binC]; exact gl _ _ (x,y) (rd_p2 _ hx hy)) ?_
 simp only [go_sem,binC]
 cases h1 : labB (x,y) with
 | false =>
   simp only [go_sem,binC]
   refine seq_cond (t := true) (by simp only [go_sem,binC]) ?_
   simp only [go_sem,binC]
   refine seq_assoc (seq_reg ?_)
   simp only [go_sem,binC]
   refine seq_ret ⟨Or.inr rfl,_,(by (simp only [go_sem,binC]) <;> rfl),?_,rfl⟩
   simp [lboth,h1]
 | true =>
   simp only [go_sem,binC,inBlk_some]
   refine op_callQ (by simp only [go_sem,binC]; exact gl _ _ (z,w) (rd_p2 _ hz hw)) ?_
   simp only [go_sem,binC]
   cases h2 : labB (z,w) with
   | false =>
     simp only [go_sem,binC]
     refine seq_cond (t := true) (by simp only [go_sem,binC]) ?_
     simp only [go_sem,binC]
     refine seq_assoc (seq_reg ?_)
     simp only [go_sem,binC]
     refine seq_ret ⟨Or.inr rfl,_,(by (simp only [go_sem,binC]) <;> rfl),?_,rfl⟩
     simp [lboth,h1,h2]
   | true =>
     obtain ⟨bx,by'⟩ := labB_bd h1
     obtain ⟨bz,bw⟩ := labB_bd h2
     simp only [go_sem,binC]
     refine seq_cond (t := false) (by simp only [go_sem,binC]) ?_
     simp only [go_sem,binC]
     refine seq_skip (seq_regD ?_)
     simp only [go_sem,binC,inBlk_some]
     refine op_callQ (by simp only [go_sem,binC]; exact gb _ x z bx.1 bx.2 bz.1 bz.2) ?_
     simp only [go_sem,binC,inBlk_some]
     refine op_callQ (by simp only [go_sem,binC]; exact gb _ y w by'.1 by'.2 bw.1 bw.2) ?_
     simp only [go_sem,binC]
     refine wpc_ret ⟨Or.inr rfl,_,(by (simp only [go_sem,binC]) <;> rfl),?_,rfl⟩
     simp [lboth,h1,h2]
def flowsB (a b : Int × Int) : Bool := labB a && (labB b && (witB b.1 a.1 && witB b.2 a.2))
def FlowsOk (F : Nat -> Option IFn) (f : Nat) : Prop := ∀ (H : Heap) (x y z w : Int),RgI x -> RgI y -> RgI z -> RgI w -> QC F f [.agg #[.int .i64 x,.int .i64 y],.agg #[.int .i64 z,.int .i64 w]] H (.bool (flowsB (x,y) (z,w)))
theorem sFlows_ok {F : Nat -> Option IFn} {f : Nat} (hf : F f = some c_sFlows) (gl : LabOk F 82) (gw : WitOk F 62) : FlowsOk F f := by
 intro H x y z w hx hy hz hw
 refine QC.mk hf rfl ?_
 refine seq_reg ?_
 simp only [go_sem,binC]
 refine seq_reg ?_
 simp only [go_sem,binC,inBlk_some]
 refine op_callQ (by simp only [go_sem,binC]; exact gl _ _ (x,y) (rd_p2 _ hx hy)) ?_
 simp only [go_sem,binC]
 cases h1 : labB (x,y) with
 | false =>
   simp only [go_sem,binC]
   refine wpc_ret ⟨Or.inr rfl,_,(by (simp only [go_sem,binC]) <;> rfl),?_,rfl⟩
   simp [flowsB,h1]
 | true =>
   simp only [go_sem,binC,inBlk_some]
   refine op_callQ (by simp only [go_sem,binC]; exact gl _ _ (z,w) (rd_p2 _ hz hw)) ?_
   simp only [go_sem,binC]
   cases h2 : labB (z,w) with
   | false =>
     simp only [go_sem,binC]
     refine wpc_ret ⟨Or.inr rfl,_,(by (simp only [go_sem,binC]) <;> rfl),?_,rfl⟩
     simp [flowsB,h1,h2]
   | true =>
     obtain ⟨bx,by'⟩ := labB_bd h1
     obtain ⟨bz,bw⟩ := labB_bd h2
     simp only [go_sem,binC,inBlk_some]
     refine op_callQ (by simp only [go_sem,binC]; exact gw _ z x bz.1 bz.2 bx.1 bx.2) ?_
     simp only [go_sem,binC]
     cases h3 : witB z x with
     | false =>
       simp only [go_sem,binC]
       refine wpc_ret ⟨Or.inr rfl,_,(by (simp only [go_sem,binC]) <;> rfl),?_,rfl⟩
       simp [flowsB,h1,h2,h3]
     | true =>
       simp only [go_sem,binC,inBlk_some]
       refine op_callQ (by simp only [go_sem,binC]; exact gw _ w y bw.1 bw.2 by'.1 by'.2) ?_
       simp only [go_sem,binC]
       refine wpc_ret ⟨Or.inr rfl,_,(by (simp only [go_sem,binC]) <;> rfl),?_,rfl⟩
       simp [flowsB,h1,h2,h3]
theorem sAny_ok {F : Nat -> Option IFn} {f : Nat} (hf : F f = some c_sAny) (g : ∀ H,QC F 66 [] H (.int .i64 7)) : ∀ H,QC F f [] H (.agg #[.int .i64 7,.int .i64 7]) := by
 intro H
 refine QC.mk hf rfl ?_
 refine seq_reg ?_
 simp only [go_sem,binC]
 refine seq_reg ?_
 refine wpo_cons (op_callQ (by simp only [go_sem,binC]; exact g _) ?_)
 simp only [go_sem,binC]
 refine op_callQ (by simp only [go_sem,binC]; exact g _) ?_
 simp only [go_sem,binC]
 refine wpc_ret ⟨Or.inr rfl,_,(by (simp only [go_sem,binC]) <;> rfl),rfl,rfl⟩
def valL (ls : List (Int × Int)) (v : Int × Int × Int) : Int × Int :=
 let o1 := if v.1 = 1 then (7,7) else lboth (7,7) (ls.getD v.2.1.toNat (0,0))
 if v.1 = 3 \/ v.1 = 4 then lboth o1 (ls.getD v.2.2.toNat (0,0)) else o1
theorem valL_bd (ls : List (Int × Int)) (v : Int × Int × Int) : labB (valL ls v) = true := by
 unfold valL
 simp only
 split
 ·exact lboth_bd _ _
 ·split
  ·rfl
  ·exact lboth_bd _ _
theorem lab_at {V : Vw} {lv : Value} {ls : List (Int × Int)} (h : SlR Co.p2 V lv ls) {H : Heap} (hs : Sub V (vw 0 H)) {x : Int} (h0 : 0 <= x) (h1 : x < ls.length) : ∃ b o,lv = .slice (some ⟨b,o,none⟩) ls.length ls.length /\ (∀ L,getCells (H ++ L) b (o + x.toNat * 2) 2 = some [.int .i64 (ls.getD x.toNat (0,0)).1,.int .i64 (ls.getD x.toNat (0,0)).2]) /\ RgI (ls.getD x.toNat (0,0)).1 /\ RgI (ls.getD x.toNat (0,0)).2 := by
 obtain ⟨_,a,rfl,h2⟩ := h
 obtain ⟨b,o,rfl,h3⟩ := h2.resolve_left (fun h => by rw [h] at h1; simp at h1; omega)
 have hi : x.toNat < ls.length := by omega
 obtain ⟨cs,h4,x1,x2,rfl,⟨rfl,r1⟩,⟨rfl,r2⟩⟩ := h3 _ hi
 have hd : ls.getD x.toNat (0,0) = ls[x.toNat] := by simp [List.getD,hi]
 rw [hd]
 exact ⟨b,o,rfl,fun L => rng_gc (rng_sub (hs.trans (vw_app 0 H L)) h4),r1,r2⟩
theorem sValL_ok {F : Nat -> Option IFn} {f : Nat} (hf : F f = some c_sValL) (ga : ∀ H,QC F 85 [] H (.agg #[.int .i64 7,.int .i64 7])) (gb : LBothOk F 96) : ∀ (H : Heap) (lv sv : Value) (ls : List (Int × Int)) (k a b : Int),one sv = true -> SlR Co.p2 (vw 0 H) lv ls -> valB ls.length (k,a,b) = true ->
  QC F f [.agg #[lv,sv],.agg #[.int .i64 k,.int .i64 a,.int .i64 b]] H (.agg #[.int .i64 (valL ls (k,a,b)).1,.int .i64 (valL ls (k,a,b)).2]) := by
 intro H lv sv ls k a b hsv hlv hv
 have hlo : one lv = true := by obtain ⟨_,a,rfl,_⟩ := hlv; rfl
 have r7 : RgI 7 := by unfold RgI; omega
 have b13 : ((1 : Int) == 3) = false := rfl
 have b14 : ((1 : Int) == 4) = false := rfl
 have b23 : ((2 : Int) == 3) = false := rfl
 have b24 : ((2 : Int) == 4) = false := rfl
 have b33 : ((3 : Int) == 3) = true := rfl
 have b43 : ((4 : Int) == 3) = false := rfl
 have b44 : ((4 : Int) == 4) = true := rfl
 refine QC.mk hf rfl ?_
 refine seq_reg ?_
 simp only [go_sem,binC,hlo,hsv]
 refine seq_reg ?_
 refine wpo_cons (op_callQ (by simp only [go_sem,binC]; exact ga _) ?_)
 simp only [go_sem,binC]
 refine seq_assoc (seq_reg ?_)
 simp only [go_sem,binC,inBlk_some]
 have fin1 : ∀ (x y : Int) (e : Env),e 2 = e 2 -> True := fun _ _ _ _ => trivial
 by_cases h1 : k = 1
 ·subst h1
  refine seq_cond (t := false) rfl ?_
  simp only [go_sem,binC]
  refine seq_skip (seq_assoc (seq_reg ?_))
  simp only [go_sem,binC,inBlk_some,b13,b14]
  refine seq_cond (t := false) rfl ?_
  simp only [go_sem,binC]
  refine seq_skip (seq_reg ?_)
  simp only [go_sem,binC,inBlk_some]
  refine wpc_ret ⟨Or.inr rfl,_,(by (simp only [go_sem,binC]) <;> rfl),?_,rfl⟩
  simp [valL]
 have hk : k = 2 \/ k = 3 \/ k = 4 := by
  simp only [valB] at hv
  by_cases q2 : k = 2
  ·exact .inl q2
  ·by_cases q3 : k = 3
   ·exact .inr (.inl q3)
   ·by_cases q4 : k = 4
    ·exact .inr (.inr q4)
    ·simp [h1,q2,q3,q4] at hv
 have ha : 0 <= a /\ a < ls.length := by
  rcases hk with rfl | rfl | rfl <;> simp [valB,varB,inB] at hv <;> omega
 refine seq_cond (t := true) (by simp only [go_sem,binC]; simp [h1]) ?_
 simp only [go_sem,binC]
 obtain ⟨lb,lo,rfl,hga,r1,r2⟩ := lab_at hlv (fun _ _ h => h) ha.1 ha.2
 refine seq_regD ?_
 simp only [go_sem,binC,inBlk_some,hga]
 refine ⟨⟨by omega,by omega⟩,?_⟩
 refine op_callQ (by simp only [go_sem,binC]; exact gb _ _ _ _ _ r7 r7 r1 r2) ?_
 simp only [go_sem,binC]
 have hl := lboth_bd (7,7) (ls.getD a.toNat (0,0))
 obtain ⟨l1,l2⟩ := labB_rg hl
 refine seq_assoc (seq_reg ?_)
 simp only [go_sem,binC,inBlk_some]
 rcases hk with rfl | hk
 ·simp only [go_sem,binC,b23,b24,inBlk_some]
  refine seq_cond (t := false) (by (simp only [go_sem,binC]) <;> rfl) ?_
  simp only [go_sem,binC]
  refine seq_skip (seq_reg ?_)
  simp only [go_sem,binC,inBlk_some]
  refine wpc_ret ⟨Or.inr rfl,_,(by (simp only [go_sem,binC]) <;> rfl),?_,rfl⟩
  simp [valL]
 ·have hb : 0 <= b /\ b < ls.length := by
   rcases hk with rfl | rfl <;> simp [valB,varB,inB] at hv <;> omega
  obtain ⟨lb',lo',he,hgb,r3,r4⟩ := lab_at hlv (fun _ _ h => h) hb.1 hb.2
  simp only [Value.slice.injEq,Option.some.injEq,Addr.mk.injEq,and_true] at he
  obtain ⟨rfl,rfl⟩ := he
  have hgo : wpc F H.length (.skip) (ini []) H (fun _ _ _ => True) -> True := fun _ => trivial
  rcases hk with rfl | rfl
  all_goals
   simp only [go_sem,binC,b33,b43,b44,inBlk_some]
   refine seq_cond (t := true) rfl ?_
   simp only [go_sem,binC]
   refine seq_regD ?_
   simp only [go_sem,binC,inBlk_some,hgb]
   refine ⟨⟨by omega,by omega⟩,?_⟩
   refine op_callQ (by simp only [go_sem,binC]; exact gb _ _ _ _ _ l1 l2 r3 r4) ?_
   simp only [go_sem,binC]
   refine seq_reg ?_
   simp only [go_sem,binC,inBlk_some]
   refine wpc_ret ⟨Or.inr rfl,_,(by (simp only [go_sem,binC]) <;> rfl),?_,rfl⟩
   simp [valL]
end Go.Proofs.YtbjeldblaclpnaaGreatI
end
section
set_option linter.unusedVariables false
set_option linter.unusedSimpArgs false
namespace Go.Proofs.YtbjeldblaclpnaaGreatI
open Go Go.RowKit
def c_sAllSteps : IFn := ⟨1,36,[.t 2],
 .seq (.reg none [⟨some 2,none,.mov (.c (.slice none 0 0))⟩])
 (.seq (.reg none [⟨some 5,none,.lit 8 54 0 [] []⟩,⟨some 3,none,.mov (.t 5)⟩])
 (.seq (.seq (.reg none [⟨some 4,none,.mov (.c (.int .i64 0))⟩])
  (.block 0 (.loop (.seq (.seq (.reg none [⟨some 6,none,.mov (.t 4)⟩,⟨some 7,none,.mov (.t 0)⟩,⟨some 8,none,.len (.t 7)⟩,
     ⟨some 9,none,.bin .lss (.t 6) (.t 8)⟩])
    (.cond (.t 9) (.skip) (.exit 0)))
   (.seq (.block 1 (.seq (.reg none [⟨some 12,none,.mov (.t 3)⟩,⟨some 13,none,.mov (.t 0)⟩,⟨some 14,none,.mov (.t 4)⟩,⟨some 15,none,.iad 8 (.t 13) (.t 14)⟩,
      ⟨some 16,none,.load true 8 (.t 15)⟩,
      ⟨some 17,none,.lit 8 54 1 [(.int .i64 0),(.int .i64 0),(.int .i64 0),(.int .i64 0),(.int .i64 0),(.int .i64 0),(.slice none 0 0),(.slice none 0 0)] [(0,8,(.t 16))]⟩,
      ⟨some 18,none,.app 8 54 96 false (.t 12) (.t 17)⟩,⟨some 3,none,.mov (.t 18)⟩])
    (.seq (.reg none [⟨some 19,none,.mov (.t 3)⟩,⟨some 20,none,.mov (.t 0)⟩,⟨some 21,none,.mov (.t 4)⟩,⟨some 22,none,.iad 8 (.t 20) (.t 21)⟩,
      ⟨some 23,none,.fad 6 (.t 22)⟩,⟨some 24,none,.load false 1 (.t 23)⟩,⟨some 25,none,.call .k (.f 58) [.t 24]⟩,
      ⟨some 26,none,.app 8 54 96 false (.t 19) (.t 25)⟩,⟨some 3,none,.mov (.t 26)⟩])
    (.reg none [⟨some 27,none,.mov (.t 3)⟩,⟨some 28,none,.mov (.t 0)⟩,⟨some 29,none,.mov (.t 4)⟩,⟨some 30,none,.iad 8 (.t 28) (.t 29)⟩,
     ⟨some 31,none,.fad 7 (.t 30)⟩,⟨some 32,none,.load false 1 (.t 31)⟩,⟨some 33,none,.call .k (.f 58) [.t 32]⟩,
     ⟨some 34,none,.app 8 54 96 false (.t 27) (.t 33)⟩,⟨some 3,none,.mov (.t 34)⟩]))))
   (.reg none [⟨some 10,none,.mov (.t 4)⟩,⟨some 11,none,.bin .add (.t 10) (.c (.int .i64 1))⟩,⟨some 4,none,.mov (.t 11)⟩]))))))
 (.seq (.reg none [⟨some 35,none,.mov (.t 3)⟩,⟨some 2,none,.mov (.t 35)⟩])
 (.ret))))⟩
abbrev Shal := Int × Int × (Int × Int × Int) × Int
def Co.shal : Co Shal := ⟨8,fun _ cs s => ∃ tv ev,cs = [.int .i64 s.1,.int .i64 s.2.1,.int .i64 s.2.2.1.1,.int .i64 s.2.2.1.2.1,.int .i64 s.2.2.1.2.2,.int .i64 s.2.2.2,tv,ev] /\ one tv = true /\ one ev = true /\ (RgI s.1 /\ RgI s.2.1 /\ RgI s.2.2.1.1 /\ RgI s.2.2.1.2.1 /\ RgI s.2.2.1.2.2 /\ RgI s.2.2.2),fun _ => True,
 fun _ h => h,fun ⟨_,_,h,_⟩ => by rw [h]; rfl,fun ⟨tv,ev,h,h1,h2,_⟩ c hc => by
  rw [h] at hc
  simp only [List.mem_cons,List.not_mem_nil,or_false] at hc
  rcases hc with rfl | rfl | rfl | rfl | rfl | rfl | rfl | rfl <;> first | rfl | assumption⟩
def shB (k : Nat) (s : Shal) : Bool := varB k s.2.1 && (if s.1 = 1 then valB k s.2.2.1 else true)
def fineB (ls : List (Int × Int)) (s : Shal) (h : Int × Int) : Bool :=
 if s.1 = 1 then flowsB (lboth h (valL ls s.2.2.1)) (ls.getD s.2.1.toNat (0,0)) else if s.1 = 3 then hasB (bothS h.1 (ls.getD s.2.1.toNat (0,0)).1 3) s.2.2.2 else true
def FineOk (F : Nat -> Option IFn) (f : Nat) : Prop := ∀ (H : Heap) (lv sv tv ev : Value) (ls : List (Int × Int)) (k x a b c g : Int) (h : Int × Int),one sv = true -> one tv = true -> one ev = true -> (RgI k /\ RgI x /\ RgI a /\ RgI b /\ RgI c /\ RgI g) -> SlR Co.p2 (vw 0 H) lv ls -> ls.all labB = true -> shB ls.length (k,x,(a,b,c),g) = true -> labB h = true ->
 QC F f [.agg #[lv,sv],.agg #[.int .i64 k,.int .i64 x,.int .i64 a,.int .i64 b,.int .i64 c,.int .i64 g,tv,ev],.agg #[.int .i64 h.1,.int .i64 h.2]] H (.bool (fineB ls (k,x,(a,b,c),g) h))
theorem sFine_ok {F : Nat -> Option IFn} {f : Nat} (hf : F f = some c_sFine) (gv : ∀ (H : Heap) (lv sv : Value) (ls : List (Int × Int)) (k a b : Int),one sv = true -> SlR Co.p2 (vw 0 H) lv ls -> valB ls.length (k,a,b) = true ->
  QC F 97 [.agg #[lv,sv],.agg #[.int .i64 k,.int .i64 a,.int .i64 b]] H (.agg #[.int .i64 (valL ls (k,a,b)).1,.int .i64 (valL ls (k,a,b)).2])) (gb : LBothOk F 96) (gf : FlowsOk F 95) (gbi : BothOk F 94) (gh : HasOk F 37) : FineOk F f := by
 rintro H lv sv tv ev ls k x a b c g ⟨h1,h2⟩ hsv htv hev rg hlv hall hsh hh
 have hlo : one lv = true := by obtain ⟨_,a,rfl,_⟩ := hlv; rfl
 simp only [shB,Bool.and_eq_true] at hsh
 obtain ⟨hvar,hval⟩ := hsh
 have hx : 0 <= x /\ x < ls.length := by simp [varB,inB] at hvar; omega
 obtain ⟨lb,lo,rfl,hga,r1,r2⟩ := lab_at hlv (fun _ _ h => h) hx.1 hx.2
 have hlx : labB (ls.getD x.toNat (0,0)) = true := by
  have hi : x.toNat < ls.length := by omega
  have hd : ls.getD x.toNat (0,0) = ls[x.toNat] := by simp [List.getD,hi]
  rw [hd]
  exact List.all_eq_true.1 hall _ (List.getElem_mem _)
 obtain ⟨rh1,rh2⟩ := labB_rg hh
 refine QC.mk hf rfl ?_
 refine seq_reg ?_
 simp only [go_sem,binC,hlo,hsv,htv,hev]
 refine seq_assoc (seq_reg ?_)
 simp only [go_sem,binC,inBlk_some]
 refine seq_block ?_
 refine seq_reg ?_
 by_cases h1k : k = 1
 ·subst h1k
  have b11 : ((1 : Int) == 1) = true := rfl
  simp only [if_true] at hval
  simp only [go_sem,binC,b11]
  refine wpc_cond (t := true) rfl ?_
  simp only [go_sem,binC]
  have hvl := labB_rg (valL_bd ls (a,b,c))
  have hbb := labB_rg (lboth_bd (h1,h2) (valL ls (a,b,c)))
  refine seq_regD ?_
  simp only [go_sem,binC,inBlk_some]
  refine op_callQ (by simp only [go_sem,binC]; exact gv _ _ _ _ _ _ _ hsv (hlv.mono (vw_app 0 H _)) hval) ?_
  simp only [go_sem,binC]
  refine op_callQ (by simp only [go_sem,binC]; exact gb _ _ _ _ _ rh1 rh2 hvl.1 hvl.2) ?_
  simp only [go_sem,binC,inBlk_some,hga]
  refine ⟨⟨by omega,by omega⟩,?_⟩
  refine op_callQ (by simp only [go_sem,binC]; exact gf _ _ _ _ _ hbb.1 hbb.2 r1 r2) ?_
  simp only [go_sem,binC]
  refine wpc_ret ?_
  simp only [go_sem,binC,out_r,thenX_r]
  refine ⟨Or.inr rfl,_,(by (simp only [go_sem,binC]) <;> rfl),?_,rfl⟩
  simp [fineB]
 ·simp only [go_sem,binC,beq_f h1k]
  refine wpc_cond (t := false) rfl ?_
  simp only [go_sem,binC]
  refine seq_reg ?_
  by_cases h3k : k = 3
  ·subst h3k
   have b33 : ((3 : Int) == 3) = true := rfl
   simp only [go_sem,binC,b33]
   refine wpc_cond (t := true) rfl ?_
   simp only [go_sem,binC]
   have hh1 := labB_bd (x := h1) (y := h2) hh
   have hx1 := labB_bd (x := (ls.getD x.toNat (0,0)).1) (y := (ls.getD x.toNat (0,0)).2) hlx
   have hbs := bothS_bd h1 (ls.getD x.toNat (0,0)).1
   have hga1 : ∀ L,getCells (H ++ L) lb (lo + x.toNat * 2) 1 = some [.int .i64 (ls.getD x.toNat (0,0)).1] := fun L => by
    have := gc_part (off := 0) (k := 1) (hga L) (by omega)
    simpa using this
   refine seq_regD ?_
   simp only [go_sem,binC,inBlk_some,hga1]
   refine ⟨⟨by omega,by omega⟩,?_⟩
   refine op_callQ (by simp only [go_sem,binC]; exact gbi _ _ _ hh1.1.1 hh1.1.2 hx1.1.1 hx1.1.2) ?_
   simp only [go_sem,binC,inBlk_some]
   refine op_callQ (by simp only [go_sem,binC]; exact gh _ _ _ hbs.1 hbs.2) ?_
   simp only [go_sem,binC]
   refine wpc_ret ?_
   simp only [go_sem,binC,out_r,thenX_r]
   refine ⟨Or.inr rfl,_,(by (simp only [go_sem,binC]) <;> rfl),?_,rfl⟩
   simp [fineB]
  ·simp only [go_sem,binC,beq_f h3k]
   refine wpc_cond (t := false) rfl ?_
   simp only [go_sem,binC]
   refine wpc_skip ?_
   simp only [go_sem,binC,out_n,thenX_n]
   refine seq_reg ?_
   simp only [go_sem,binC]
   refine wpc_ret ⟨Or.inr rfl,_,(by (simp only [go_sem,binC]) <;> rfl),?_,rfl⟩
   simp [fineB,h1k,h3k]
def CA (H H' : Heap) : Prop := ∀ (b : Nat) (k : Blk),H[b]? = some k -> ∃ k' : Blk,H'[b]? = some k' /\ k'.cells = k.cells
theorem CA.refl (H : Heap) : CA H H := fun _ k h => ⟨k,h,rfl⟩
theorem CA.trans {H H1 H2 : Heap} (h : CA H H1) (h' : CA H1 H2) : CA H H2 := fun b k hk => let ⟨k1,h1,h2⟩ := h b k hk; let ⟨k2,h3,h4⟩ := h' b k1 h1; ⟨k2,h3,h4.trans h2⟩
theorem CA.app (H L : Heap) : CA H (H ++ L) := fun b k hk => ⟨k,by rw [List.getElem?_append_left (List.getElem?_eq_some_iff.1 hk).1]; exact hk,rfl⟩
theorem CA.of {H H' : Heap} (h : AgX [] H H') : CA H H' := fun b k hk => ⟨k,h.get hk (by simp),rfl⟩
theorem CA.vw {H H' : Heap} (h : CA H H') (lo : Nat) : Sub (vw lo H) (vw lo H') := by
 intro b cs hb
 unfold Go.Proofs.YtbjeldblaclpnaaGreatI.vw at hb ⊢
 split at hb
 ·rename_i h1
  rw [if_pos h1]
  cases hk : H[b]? with
  | none => simp [hk] at hb
  | some k =>
    obtain ⟨k',h2,h3⟩ := h b k hk
    rw [hk] at hb
    rw [h2]
    simp only [Option.map_some,Option.some.injEq] at hb ⊢
    rw [h3,hb]
 ·cases hb
theorem op_app_ownN {F : Nat -> Option IFn} {lo0 : Nat} {α : Type} {A : Co α} {es et bytes lo vl : Nat} {xs : List Nat} {x y : Opd} {e : Env} {H : Heap} {ys : List Value} {b b2 o2 c2 : Nat} {so : Bool} {l l2 : List α} {K : Value -> Heap -> Prop}
  (hv : OwnG A es et lo vl xs H b so l) (hx : x.ev e = sli b 0 l.length) (hy : y.ev e = .slice (some ⟨b2,o2,none⟩) l2.length c2) (hlo0 : lo0 <= lo) (hw : A.w = es) (hg : getCells H b2 o2 (l2.length * es) = some ys)
  (hr : ∀ i (h : i < l2.length),A.rd (vwl vl (b :: xs) H) ((ys.drop (i * es)).take es) l2[i]) (hl : l.length + l2.length <= 1048576) (hb : bytes <= 1048576) (hxs : ∀ b',b' ∈ xs -> b' < H.length) (hvl : vl <= lo)
  (k : ∀ H' b' so',AgX [b] H H' -> CA H H' -> (b' = b \/ H.length <= b') -> OwnG A es et lo vl xs H' b' so' (l ++ l2) -> K (sli b' 0 (l ++ l2).length) H') : wpOp F lo0 (.app es et bytes false x y) e H K := by
 by_cases hne : l2 = []
 ·subst hne
  refine op_app_zero _ _ _ _ _ hx hy ?_
  have := k H b so (AgX.refl _ _) (CA.refl _) (.inl rfl) (by rw [List.append_nil]; exact hv)
  rw [List.append_nil] at this
  exact this
 have hm : l2.length ≠ 0 := fun h => hne (List.eq_nil_of_length_eq_zero h)
 obtain ⟨h3,h4,cs,h5,h6,h7⟩ := hv
 have hyl : ys.length = l2.length * es := by
  unfold getCells at hg
  split at hg
  ·split at hg
   ·simp only [Option.some.injEq] at hg; subst hg; rw [List.length_take,List.length_drop]; omega
   ·cases hg
  ·cases hg
 have hbl := (List.getElem?_eq_some_iff.1 h5).1
 have hbytes : (l.length + l2.length) * bytes <= 1048576 * 1048576 := Nat.mul_le_mul (by omega) hb
 refine op_app _ _ _ _ _ (b := ⟨b,0,none⟩) (n := l.length) (c := l.length) (a := ⟨b2,o2,none⟩) (m := l2.length) (c' := c2) (ys := ys) (kb := ⟨cs,es,et,true,so⟩) hx hy hm hg h5 ⟨by show lo0 <= b; omega,rfl,rfl,rfl,rfl,by rw [h6],by omega,by omega⟩ ?_
 simp only [Bool.false_eq_true,if_false,Bool.or_false]
 have hag : AgX [b] H (H.set b ⟨cs,es,et,false,so && l.length == 0⟩ ++ ([⟨cs ++ ys,es,et,true,so && l.length == 0⟩] : Heap)) := (AgX.set H b _).trans (AgX.app [] _ _) (fun b h _ => h) (fun b h _ => by cases h)
 have hca : CA H (H.set b ⟨cs,es,et,false,so && l.length == 0⟩ ++ ([⟨cs ++ ys,es,et,true,so && l.length == 0⟩] : Heap)) := by
  intro b' k' hk'
  by_cases hbb : b' = b
  ·subst hbb
   rw [h5] at hk'
   cases hk'
   exact ⟨⟨cs,es,et,false,so && l.length == 0⟩,by rw [List.getElem?_append_left (by rw [List.length_set]; exact hbl),List.getElem?_set_self hbl],rfl⟩
  ·exact ⟨k',hag.get hk' (by simpa using hbb),rfl⟩
 have hres := k _ H.length (so && l.length == 0) hag hca (.inr (Nat.le_refl _)) ?_
 ·rw [List.length_append] at hres; exact hres
 ·refine ⟨by omega,by rw [List.length_append]; omega,cs ++ ys,?_,?_,?_⟩
  ·have : H.length = (H.set b ⟨cs,es,et,false,so && l.length == 0⟩).length := by rw [List.length_set]
   rw [this,get_new0]
   rfl
  ·rw [List.length_append,h6,hyl,List.length_append,Nat.add_mul]
  ·intro i hi
   have hmono : Sub (vwl vl (b :: xs) H) (vwl vl (H.length :: xs) (H.set b ⟨cs,es,et,false,so && l.length == 0⟩ ++ ([⟨cs ++ ys,es,et,true,so && l.length == 0⟩] : Heap))) := vwl_sub hag (Nat.le_refl _) fun b' q1 q2 q3 => by
    simp only [List.mem_cons,not_or,List.not_mem_nil,not_false_eq_true,and_true] at q3 ⊢
    exact ⟨q3.1,by omega,q3.2⟩
   rw [List.length_append] at hi
   by_cases hil : i < l.length
   ·have hi2 : i * es + es <= l.length * es := by rw [<- Nat.succ_mul]; exact Nat.mul_le_mul_right _ hil
    rw [List.getElem_append_left hil,List.drop_append_of_le_length (by omega),List.take_append_of_le_length (by rw [List.length_drop]; omega)]
    exact A.mono hmono (h7 i hil)
   ·obtain ⟨j,rfl⟩ : ∃ j,i = l.length + j := ⟨i - l.length,by omega⟩
    have e1 : (cs ++ ys).drop ((l.length + j) * es) = ys.drop (j * es) := by
     rw [Nat.add_mul,<- h6,List.drop_append,List.drop_of_length_le (by omega),List.nil_append]
     congr 1
     omega
    rw [e1,List.getElem_append_right (by omega)]
    have := A.mono hmono (hr j (by omega))
    simpa using this
theorem OwnG.cells {α : Type} {A : Co α} {es et lo vl : Nat} {xs : List Nat} {H : Heap} {b : Nat} {so : Bool} {l : List α} (h : OwnG A es et lo vl xs H b so l) : ∃ ys,getCells H b 0 (l.length * es) = some ys /\ ∀ i (h : i < l.length),A.rd (vwl vl (b :: xs) H) ((ys.drop (i * es)).take es) l[i] := by
 obtain ⟨h3,h4,cs,h5,h6,h7⟩ := h
 refine ⟨cs,?_,h7⟩
 unfold getCells
 rw [h5]
 simp only [Nat.zero_add,List.drop_zero]
 rw [if_pos (by omega),List.take_of_length_le (by omega)]
end Go.Proofs.YtbjeldblaclpnaaGreatI
end
section
set_option linter.unusedVariables false
set_option linter.unusedSimpArgs false
namespace Go.Proofs.YtbjeldblaclpnaaGreatI
open Go Go.RowKit
def c_sAt : IFn := ⟨4,51,[.t 8],
 .seq (.reg none [⟨some 4,none,.box (.t 0)⟩,⟨some 6,none,.box (.t 2)⟩,⟨some 8,none,.mov (.c (.slice none 0 0))⟩])
 (.seq (.seq (.reg none [⟨some 9,none,.mov (.c (.int .i64 0))⟩])
  (.block 0 (.loop (.seq (.seq (.reg none [⟨some 11,none,.mov (.t 9)⟩,⟨some 12,none,.mov (.t 1)⟩,⟨some 13,none,.len (.t 12)⟩,
     ⟨some 14,none,.bin .lss (.t 11) (.t 13)⟩])
    (.cond (.t 14) (.skip) (.exit 0)))
   (.seq (.block 1 (.seq (.reg none [⟨some 17,none,.mov (.t 3)⟩,⟨some 18,none,.load true 2 (.t 6)⟩,
      ⟨some 19,none,.lit 2 57 1 [(.int .i64 0),(.int .i64 0)] [(0,2,(.t 18))]⟩,⟨some 20,none,.app 2 57 16 false (.t 17) (.t 19)⟩,⟨some 3,none,.mov (.t 20)⟩])
    (.seq (.reg (some 12) [⟨some 21,none,.load true 2 (.t 6)⟩,⟨some 22,none,.fad 0 (.t 4)⟩,⟨some 23,none,.load false 1 (.t 22)⟩,⟨some 24,none,.mov (.t 1)⟩,
      ⟨some 25,none,.mov (.t 9)⟩,⟨some 26,none,.iad 8 (.t 24) (.t 25)⟩,⟨some 27,none,.fad 1 (.t 26)⟩,⟨some 28,none,.load false 1 (.t 27)⟩,
      ⟨some 29,none,.iad 2 (.t 23) (.t 28)⟩,⟨some 30,none,.load true 2 (.t 29)⟩,⟨some 31,none,.call .q (.f 96) [.t 21,.t 30]⟩,
      ⟨some 10,none,.new [(.int .i64 0),(.int .i64 0)]⟩,⟨none,none,.store 2 (.t 10) (.t 31)⟩])
    (.seq (.reg (some 8) [⟨some 32,none,.load true 2 (.t 4)⟩,⟨some 33,none,.mov (.t 1)⟩,⟨some 34,none,.mov (.t 9)⟩,⟨some 35,none,.iad 8 (.t 33) (.t 34)⟩,
      ⟨some 36,none,.fad 6 (.t 35)⟩,⟨some 37,none,.load false 1 (.t 36)⟩,⟨some 38,none,.load true 2 (.t 10)⟩,⟨some 39,none,.mov (.t 3)⟩,
      ⟨some 40,none,.call .n (.f 84) [.t 32,.t 37,.t 38,.t 39]⟩,⟨some 3,none,.mov (.t 40)⟩])
    (.reg (some 8) [⟨some 41,none,.load true 2 (.t 4)⟩,⟨some 42,none,.mov (.t 1)⟩,⟨some 43,none,.mov (.t 9)⟩,⟨some 44,none,.iad 8 (.t 42) (.t 43)⟩,
     ⟨some 45,none,.fad 7 (.t 44)⟩,⟨some 46,none,.load false 1 (.t 45)⟩,⟨some 47,none,.load true 2 (.t 10)⟩,⟨some 48,none,.mov (.t 3)⟩,
     ⟨some 49,none,.call .n (.f 84) [.t 41,.t 46,.t 47,.t 48]⟩,⟨some 3,none,.mov (.t 49)⟩])))))
   (.reg none [⟨some 15,none,.mov (.t 9)⟩,⟨some 16,none,.bin .add (.t 15) (.c (.int .i64 1))⟩,⟨some 9,none,.mov (.t 16)⟩]))))))
 (.seq (.reg none [⟨some 50,none,.mov (.t 3)⟩,⟨some 8,none,.mov (.t 50)⟩])
 (.ret)))⟩
def allT : (n : Nat) -> TStep n -> List Shal
 | 0,_ => []
 | n + 1,(k,x,v,h,th,el) => (k,x,v,h) :: ((th.map (allT n)).flatten ++ (el.map (allT n)).flatten)
def allL (n : Nat) (l : List (TStep n)) : List Shal := (l.map (allT n)).flatten
theorem allT_succ (n : Nat) (k x : Int) (v : Int × Int × Int) (h : Int) (th el : List (TStep n)) : allT (n + 1) (k,x,v,h,th,el) = (k,x,v,h) :: (allL n th ++ allL n el) := rfl
theorem allL_take {n : Nat} (l : List (TStep n)) (i : Nat) (h : i < l.length) : allL n (l.take (i + 1)) = allL n (l.take i) ++ allT n l[i] := by
 unfold allL
 rw [List.take_add_one,List.getElem?_eq_getElem h,List.map_append,List.flatten_append]
 congr 1
 simp
theorem allL_take_le {n : Nat} (l : List (TStep n)) (i : Nat) : (allL n (l.take i)).length <= (allL n l).length := by
 have := List.take_append_drop i l
 unfold allL
 conv => rhs; rw [<- this]
 rw [List.map_append,List.flatten_append,List.length_append]
 omega
theorem mem_allL {n : Nat} {l : List (TStep n)} {i : Nat} (h : i < l.length) {s : Shal} (hs : s ∈ allT n l[i]) : s ∈ allL n l := by
 unfold allL
 rw [List.mem_flatten]
 exact ⟨_,List.mem_map.2 ⟨_,List.getElem_mem h,rfl⟩,hs⟩
theorem step_at {n : Nat} {H : Heap} {v : Value} {l : List (TStep (n + 1))} (h : SlR (Co.step (n + 1)) (vw 0 H) v l) {i : Nat} (hi : i < l.length) : ∃ (b o : Nat) (k x a bb c g : Int) (tv ev : Value) (tl el : List (TStep n)),v = .slice (some ⟨b,o,none⟩) l.length l.length /\ l[i] = (k,x,(a,bb,c),g,tl,el) /\
  (RgI k /\ RgI x /\ RgI a /\ RgI bb /\ RgI c /\ RgI g) /\ one tv = true /\ one ev = true /\ (∀ H',Sub (vw 0 H) (vw 0 H') -> getCells H' b (o + i * 8) 8 = some [.int .i64 k,.int .i64 x,.int .i64 a,.int .i64 bb,.int .i64 c,.int .i64 g,tv,ev]) /\ SlR (Co.step n) (vw 0 H) tv tl /\ SlR (Co.step n) (vw 0 H) ev el := by
 obtain ⟨_,a,rfl,h2⟩ := h
 obtain ⟨b,o,rfl,h3⟩ := h2.resolve_left (fun h => by rw [h] at hi; simp at hi)
 obtain ⟨cs,h4,h5⟩ := h3 i hi
 generalize hs : l[i] = s at h5
 obtain ⟨k,x,⟨a,bb,c⟩,g,tl,el⟩ := s
 obtain ⟨_,_,rfl,⟨rfl,r1⟩,_,_,rfl,⟨rfl,r2⟩,_,_,rfl,⟨_,_,rfl,⟨rfl,r3⟩,_,_,rfl,⟨rfl,r4⟩,⟨rfl,r5⟩⟩,_,_,rfl,⟨rfl,r6⟩,_,_,rfl,⟨tv,rfl,h6⟩,⟨ev,rfl,h7⟩⟩ := h5
 have o6 : one tv = true := by obtain ⟨_,_,rfl,_⟩ := h6; rfl
 have o7 : one ev = true := by obtain ⟨_,_,rfl,_⟩ := h7; rfl
 exact ⟨b,o,k,x,a,bb,c,g,tv,ev,tl,el,rfl,rfl,⟨r1,r2,r3,r4,r5,r6⟩,o6,o7,fun H' hs => rng_gc (rng_sub hs h4),h6,h7⟩
def AllOk (F : Nat -> Option IFn) (f n : Nat) : Prop := ∀ (H : Heap) (v : Value) (l : List (TStep n)),SlR (Co.step n) (vw 0 H) v l -> (allL n l).length <= 1048576 -> ∃ v' H',KC F f [v] H v' H' /\ AgX [] H H' /\ ∃ b so,v' = sli b 0 (allL n l).length /\ OwnL Co.shal 8 54 H.length [] H' b so (allL n l)
theorem agx_sub {H H' : Heap} (h : AgX [] H H') : Sub (vw 0 H) (vw 0 H') := (CA.of h).vw 0
theorem agx_nil {b : Nat} {H H1 H2 : Heap} (h : AgX [] H H1) (h' : AgX [b] H1 H2) (hb : H.length <= b) : AgX [] H H2 := h.trans h' (fun _ h _ => h) (fun b' h1 h2 => by simp only [List.mem_singleton] at h1; omega)
theorem sAllSteps_ok {F : Nat -> Option IFn} {f n : Nat} (hf : F f = some c_sAllSteps) (ih : ∀ m,n = m + 1 -> AllOk F 58 m) : AllOk F f n := by
 intro H v l hv hcnt
 have hv0 := hv
 obtain ⟨h0,av,rfl,hv1⟩ := hv
 suffices h : ∃ v' H',KC F f [.slice av l.length l.length] H v' H' /\ (AgX [] H H' /\ ∃ b so,v' = sli b 0 (allL n l).length /\ OwnL Co.shal 8 54 H.length [] H' b so (allL n l)) from h
 refine KC.mk hf rfl ?_
 refine seq_reg ?_
 simp only [go_sem,binC]
 refine seq_reg ?_
 simp only [go_sem,binC]
 refine seq_assoc (seq_reg ?_)
 simp only [go_sem,binC]
 refine wpc_gen fun Hb hHb => ?_
 have ht0 : AgX [] H Hb := hHb ▸ AgX.app [] _ _
 have ho0 : OwnL Co.shal 8 54 H.length [] Hb H.length true [] := hHb ▸ OwnG.nil (Nat.le_refl _)
 clear hHb
 refine seq_block (wpc_loop ?_)
 suffices h : ∀ (k i : Nat) (e : Env) (Hc : Heap) (b : Nat) (so : Bool),i + k = l.length -> AgX [] H Hc -> OwnL Co.shal 8 54 H.length [] Hc b so (allL n (l.take i)) -> e 0 = .slice av l.length l.length -> e 3 = sli b 0 (allL n (l.take i)).length -> e 4 = .int .i64 i -> W F H.length _ e Hc _ from
  h l.length 0 _ Hb H.length true (by omega) ht0 ho0 (by simp only [go_sem,binC]) (by (simp only [go_sem,binC]) <;> rfl) (by (simp only [go_sem,binC]) <;> rfl)
 intro k
 induction k with
 | zero =>
   intro i e Hc b so hi ht ho e0 e3 e4
   refine lp_step ?_
   refine seq_assoc (seq_reg ?_)
   simp only [go_sem,binC,e0,e4]
   refine seq_cond (t := false) (by simp only [go_sem,binC]; rw [decide_eq_false (by omega)]) ?_
   simp only [go_sem,binC]
   refine seq_exit ?_
   simp only [go_sem,binC,thenX_e,out_e,thenX_n]
   refine seq_reg ?_
   simp only [go_sem,binC,e3]
   rw [List.take_of_length_le (by omega)] at ho ⊢
   refine wpc_ret ⟨Or.inr rfl,_,(by (simp only [go_sem,binC]) <;> rfl),ht,b,so,rfl,ho⟩
 | succ k ihk =>
   intro i e Hc b so hi ht ho e0 e3 e4
   have hil : i < l.length := by omega
   cases n with
   | zero => exact (l[i]).elim
   | succ n =>
   obtain ⟨vb,vo,sk,sx,sa,sbb,sc,sg,tv,ev,tl,el,hav,hs,rg,otv,oev,hgc,htl,hel⟩ := step_at hv0 hil
   simp only [Value.slice.injEq,and_true] at hav
   subst hav
   have hA := ih n rfl
   have htake := allL_take l i hil
   rw [hs,allT_succ] at htake
   have hle := allL_take_le l (i + 1)
   rw [htake,List.length_append,List.length_cons,List.length_append] at hle
   have hgp : ∀ {H' : Heap} (_ : Sub (vw 0 H) (vw 0 H')) (off kk : Nat),off + kk <= 8 -> getCells H' vb (vo + i * 8 + off) kk = some (([.int .i64 sk,.int .i64 sx,.int .i64 sa,.int .i64 sbb,.int .i64 sc,.int .i64 sg,tv,ev].drop off).take kk) := fun hs off kk h => gc_part (hgc _ hs) h
   refine lp_step ?_
   refine seq_assoc (seq_reg ?_)
   simp only [go_sem,binC,e0,e4]
   refine seq_cond (t := true) (by simp only [go_sem,binC]; rw [decide_eq_true (by omega)]) ?_
   simp only [go_sem,binC]
   refine seq_skip (seq_block ?_)
   refine seq_reg ?_
   simp only [go_sem,binC,e0,e3,e4,hgc _ (agx_sub ht)]
   refine ⟨⟨by omega,by omega⟩,?_⟩
   simp only [go_sem,binC,otv,oev]
   have hob := (by obtain ⟨_,_,cs,h,_⟩ := ho; exact (List.getElem?_eq_some_iff.1 h).1 : b < Hc.length)
   have ho1 := ho.sub (AgX.app [] Hc [⟨[.int .i64 sk,.int .i64 sx,.int .i64 sa,.int .i64 sbb,.int .i64 sc,.int .i64 sg,tv,ev],8,54,true,true⟩]) (xs' := []) (by simp) (fun _ _ _ _ _ => ⟨by simp,by simp⟩)
   refine op_app_ownN (l2 := [(sk,sx,(sa,sbb,sc),sg)]) ho1 (by simp only [go_sem,binC,e3]) (by (simp only [go_sem,binC]) <;> rfl) (Nat.le_refl _) rfl (by rw [List.length_singleton,gc_new0]; rfl) (fun j hj => by
    obtain rfl : j = 0 := by simpa using hj
    exact ⟨tv,ev,rfl,otv,oev,rg⟩) (by simp; omega) (by omega) (by simp) (Nat.le_refl _) fun H2 b2 so2 hx2 hc2 hb2 ho2 => ?_
   simp only [go_sem,binC]
   have hb1 := ho.1
   have ht2 : AgX [] H H2 := agx_nil (ht.appN _) hx2 hb1
   refine seq_reg ?_
   simp only [go_sem,binC,e0,e4,hgp (agx_sub ht2) 6 1 (by omega)]
   refine ⟨⟨by omega,by omega⟩,?_⟩
   obtain ⟨v3,H3,k3,x3,b3,so3,rfl,o3⟩ := hA H2 tv tl (htl.mono (agx_sub ht2)) (by omega)
   refine op_callK (by simp only [go_sem,binC]; exact k3) ?_
   simp only [go_sem,binC]
   have ht3 : AgX [] H H3 := ht2.tr x3
   have ho3 := ho2.sub x3 (xs' := []) (by simp) (fun _ _ _ _ _ => ⟨by simp,by simp⟩)
   obtain ⟨ys3,g3,r3⟩ := o3.cells
   refine op_app_ownN (l2 := allL n tl) ho3 (by simp only [go_sem,binC]) (by (simp only [go_sem,binC]) <;> rfl) (Nat.le_refl _) rfl g3 (fun j hj => r3 j hj) (by simp; omega) (by omega) (by simp) (Nat.le_refl _) fun H4 b4 so4 hx4 hc4 hb4 ho4 => ?_
   simp only [go_sem,binC]
   have ht4 : AgX [] H H4 := agx_nil ht3 hx4 ho3.1
   refine wpc_reg ?_
   simp only [go_sem,binC,e0,e4,hgp (agx_sub ht4) 7 1 (by omega)]
   refine ⟨⟨by omega,by omega⟩,?_⟩
   obtain ⟨v5,H5,k5,x5,b5,so5,rfl,o5⟩ := hA H4 ev el (hel.mono (agx_sub ht4)) (by omega)
   refine op_callK (by simp only [go_sem,binC]; exact k5) ?_
   simp only [go_sem,binC]
   have ht5 : AgX [] H H5 := ht4.tr x5
   have ho5 := ho4.sub x5 (xs' := []) (by simp) (fun _ _ _ _ _ => ⟨by simp,by simp⟩)
   obtain ⟨ys5,g5,r5⟩ := o5.cells
   refine op_app_ownN (l2 := allL n el) ho5 (by simp only [go_sem,binC]) (by (simp only [go_sem,binC]) <;> rfl) (Nat.le_refl _) rfl g5 (fun j hj => r5 j hj) (by simp; omega) (by omega) (by simp) (Nat.le_refl _) fun H6 b6 so6 hx6 hc6 hb6 ho6 => ?_
   simp only [go_sem,binC,out_n,thenX_n]
   have ht6 : AgX [] H H6 := agx_nil ht5 hx6 ho5.1
   refine wpc_reg ?_
   simp only [go_sem,binC,e4]
   have hw1 : IntKind.i64.wrap ((i : Int) + 1) = ((i + 1 : Nat) : Int) := by rw [wrap_id (by omega) (by omega)]; omega
   rw [hw1]
   simp only [go_sem,binC,thenX_n]
   have hfin : allL (n + 1) (l.take i) ++ [(sk,sx,(sa,sbb,sc),sg)] ++ allL n tl ++ allL n el = allL (n + 1) (l.take (i + 1)) := by rw [htake]; simp
   rw [hfin] at ho6
   exact ihk (i + 1) _ H6 b6 so6 (by omega) ht6 ho6 (by simp only [go_sem,binC,e0]) (by simp only [go_sem,binC]; rw [<- hfin]) (by simp only [go_sem,binC])
theorem sAllSteps_all {F : Nat -> Option IFn} (hf : F 58 = some c_sAllSteps) : ∀ n,AllOk F 58 n
 | 0 => sAllSteps_ok hf fun m h => by omega
 | n + 1 => sAllSteps_ok hf fun m h => by cases h; exact sAllSteps_all hf n
end Go.Proofs.YtbjeldblaclpnaaGreatI
end
section
set_option linter.unusedVariables false
set_option linter.unusedSimpArgs false
namespace Go.Proofs.YtbjeldblaclpnaaGreatI
open Go Go.RowKit
def c_sTypeAt : IFn := ⟨1,13,[.t 2],
 .seq (.reg none [⟨some 1,none,.box (.t 0)⟩,⟨some 2,none,.mov (.c (.slice none 0 0))⟩])
 (.seq (.seq (.reg none [⟨some 3,none,.load true 2 (.t 1)⟩,⟨some 4,none,.call .q (.f 56) [.t 3]⟩,⟨some 5,none,.un .not (.t 4)⟩])
  (.cond (.t 5) (.seq (.reg none [⟨some 6,none,.lit 2 57 0 [] []⟩,⟨some 2,none,.mov (.t 6)⟩])
   (.ret)) (.skip)))
 (.seq (.reg (some 5) [⟨some 7,none,.load true 2 (.t 1)⟩,⟨some 8,none,.fad 1 (.t 1)⟩,⟨some 9,none,.load false 1 (.t 8)⟩,⟨some 10,none,.call .q (.f 85) []⟩,
   ⟨some 11,none,.lit 2 57 0 [] []⟩,⟨some 12,none,.call .n (.f 84) [.t 7,.t 9,.t 10,.t 11]⟩,⟨some 2,none,.mov (.t 12)⟩])
 (.ret)))⟩
def c_sWhy : IFn := ⟨1,33,[.t 2,.t 3],
 .seq (.reg none [⟨some 1,none,.box (.t 0)⟩,⟨some 2,none,.mov (.c (.int .i64 0))⟩,⟨some 3,none,.mov (.c (.bool false))⟩])
 (.seq (.seq (.reg none [⟨some 7,none,.load true 2 (.t 1)⟩,⟨some 8,none,.call .q (.f 56) [.t 7]⟩,⟨some 9,none,.un .not (.t 8)⟩])
  (.cond (.t 9) (.seq (.reg none [⟨some 2,none,.mov (.c (.int .i64 0))⟩,⟨some 3,none,.mov (.c (.bool false))⟩])
   (.ret)) (.skip)))
 (.seq (.reg none [⟨some 10,none,.fad 1 (.t 1)⟩,⟨some 11,none,.load false 1 (.t 10)⟩,⟨some 12,none,.call .k (.f 58) [.t 11]⟩,⟨some 4,none,.mov (.t 12)⟩])
 (.seq (.reg none [⟨some 13,none,.load true 2 (.t 1)⟩,⟨some 14,none,.call .k (.f 59) [.t 13]⟩,⟨some 5,none,.mov (.t 14)⟩])
 (.seq (.seq (.reg none [⟨some 6,none,.mov (.c (.int .i64 0))⟩])
  (.block 0 (.loop (.seq (.seq (.reg none [⟨some 15,none,.mov (.t 6)⟩,⟨some 16,none,.mov (.t 4)⟩,⟨some 17,none,.len (.t 16)⟩,
     ⟨some 18,none,.bin .lss (.t 15) (.t 17)⟩])
    (.cond (.t 18) (.skip) (.exit 0)))
   (.seq (.block 1 (.seq (.reg (some 9) [⟨some 21,none,.load true 2 (.t 1)⟩,⟨some 22,none,.mov (.t 4)⟩,⟨some 23,none,.mov (.t 6)⟩,
      ⟨some 24,none,.iad 8 (.t 22) (.t 23)⟩,⟨some 25,none,.load true 8 (.t 24)⟩,⟨some 26,none,.mov (.t 5)⟩,⟨some 27,none,.mov (.t 6)⟩,
      ⟨some 28,none,.iad 2 (.t 26) (.t 27)⟩,⟨some 29,none,.load true 2 (.t 28)⟩,⟨some 30,none,.call .q (.f 81) [.t 21,.t 25,.t 29]⟩,
      ⟨some 31,none,.un .not (.t 30)⟩])
    (.cond (.t 31) (.seq (.reg none [⟨some 32,none,.mov (.t 6)⟩,⟨some 2,none,.mov (.t 32)⟩,⟨some 3,none,.mov (.c (.bool true))⟩])
     (.ret)) (.skip))))
   (.reg none [⟨some 19,none,.mov (.t 6)⟩,⟨some 20,none,.bin .add (.t 19) (.c (.int .i64 1))⟩,⟨some 6,none,.mov (.t 20)⟩]))))))
 (.seq (.reg none [⟨some 2,none,.mov (.c (.int .i64 0))⟩,⟨some 3,none,.mov (.c (.bool false))⟩])
 (.ret))))))⟩
theorem cnt_len : ∀ (n : Nat) (s : TStep n),cntT n s = (allT n s).length
 | 0,s => s.elim
 | n + 1,(k,x,v,h,th,el) => by
   have hl : ∀ l : List (TStep n),(l.map (cntT n)).sum = ((l.map (allT n)).flatten.length : Int) := by
    intro l
    induction l with
    | nil => rfl
    | cons a l ih => rw [List.map_cons,List.sum_cons,List.map_cons,List.flatten_cons,List.length_append,cnt_len n a,ih]; omega
   simp only [cntT,allT,hl,List.length_cons,List.length_append]
   omega
theorem cntL_len (n : Nat) (l : List (TStep n)) : cntL n l = (allL n l).length := by
 unfold cntL allL
 induction l with
 | nil => rfl
 | cons a l ih => rw [List.map_cons,List.sum_cons,List.map_cons,List.flatten_cons,List.length_append,cnt_len n a,ih]; omega
def BB : Nat -> Int
 | 0 => 0
 | d + 1 => 1 + 2097152 * BB d
theorem BB_pos : ∀ d,0 <= BB d
 | 0 => Int.le_refl _
 | d + 1 => by have := BB_pos d; simp only [BB]; omega
theorem sum_leI {α : Type} (f : α -> Int) (M : Int) : ∀ l : List α,(∀ a ∈ l,f a <= M) -> (l.map f).sum <= (l.length : Int) * M
 | [],_ => by simp
 | a :: l,h => by
   rw [List.map_cons,List.sum_cons,List.length_cons,Int.natCast_add,Int.add_mul]
   have h1 := sum_leI f M l fun b hb => h b (List.mem_cons_of_mem _ hb)
   have h2 := h a List.mem_cons_self
   simp only [Int.natCast_one,Int.one_mul]
   omega
theorem cnt_bd (k : Nat) : ∀ (d n : Nat) (s : TStep n),stepB k n d s = true -> (Co.step n).sm s -> cntT n s <= BB d
 | _,0,s,_,_ => s.elim
 | 0,n + 1,(kd,vr,v,ho,th,el),h,_ => by simp [stepB] at h
 | d + 1,n + 1,(kd,vr,v,ho,th,el),h,hs => by
   obtain ⟨_,_,_,_,⟨h1,h2⟩,h3,h4⟩ := hs
   have hp := BB_pos d
   have hl : ∀ l : List (TStep n),l.length <= 1048576 -> (∀ a ∈ l,cntT n a <= BB d) -> (l.map (cntT n)).sum <= 1048576 * BB d := fun l hl ha => by
    have h5 := sum_leI (cntT n) (BB d) l ha
    have h6 : (l.length : Int) * BB d <= 1048576 * BB d := Int.mul_le_mul_of_nonneg_right (by omega) hp
    omega
   have hz : ((th.length : Int) + el.length = 0) -> cntT (n + 1) (kd,vr,v,ho,th,el) <= BB (d + 1) := fun h0 => by
    obtain rfl : th = [] := List.eq_nil_of_length_eq_zero (by omega)
    obtain rfl : el = [] := List.eq_nil_of_length_eq_zero (by omega)
    simp only [cntT,BB,List.map_nil,List.sum_nil]
    omega
   have hd : ((d + 1 : Nat) : Int) - 1 = (d : Int) := by omega
   simp only [stepB,hd,Bool.and_eq_true] at h
   obtain ⟨_,h⟩ := h
   split at h
   ·simp only [Bool.and_eq_true,decide_eq_true_eq] at h
    exact hz h.2
   ·split at h
    ·simp only [Bool.and_eq_true,decide_eq_true_eq] at h
     exact hz h.2
    ·split at h
     ·simp only [Bool.and_eq_true,List.all_eq_true] at h
      have a1 := hl th h1 fun a ha => cnt_bd k d n a (h.1.2 a ha) (h2 a ha)
      have a2 := hl el h3 fun a ha => cnt_bd k d n a (h.2 a ha) (h4 a ha)
      simp only [cntT,BB]
      omega
     ·cases h
theorem progB_cnt {n : Nat} {p : TProg n} (h : progB n p = true) (hs : (Co.prog n).sm p) : (allL n p.2).length <= 8 := by
 obtain ⟨_,hs1,hs2⟩ := hs
 simp only [progB,Bool.and_eq_true,decide_eq_true_eq,List.all_eq_true] at h
 obtain ⟨⟨_,h1⟩,h2⟩ := h
 have hb : BB 3 = 4398048608257 := by simp [BB]
 have h3 := sum_leI (cntT n) (BB 3) p.2 fun a ha => cnt_bd _ 3 n a (h1 a ha) (hs2 a ha)
 have h4 : (p.2.length : Int) * BB 3 <= 1048576 * BB 3 := Int.mul_le_mul_of_nonneg_right (by omega) (BB_pos 3)
 have h5 := cntL_len n p.2
 have h6 : cntL n p.2 <= 1048576 * BB 3 := Int.le_trans h3 h4
 rw [hb] at h6
 unfold Wr at h2
 rw [wrap_id (by omega) (by omega)] at h2
 omega
theorem stepB_sh (k : Nat) : ∀ (n : Nat) (d : Int) (s : TStep n),stepB k n d s = true -> ∀ t ∈ allT n s,shB k t = true
 | 0,_,s,_ => s.elim
 | n + 1,d,(kd,vr,v,ho,th,el),h => by
   intro t ht
   rw [allT_succ,List.mem_cons,List.mem_append] at ht
   simp only [stepB,Bool.and_eq_true,decide_eq_true_eq] at h
   obtain ⟨⟨h1,hv⟩,h⟩ := h
   have hnil : ((th.length : Int) + el.length = 0) -> t ∈ allL n th \/ t ∈ allL n el -> False := fun h0 hm => by
    obtain rfl : th = [] := List.eq_nil_of_length_eq_zero (by omega)
    obtain rfl : el = [] := List.eq_nil_of_length_eq_zero (by omega)
    simp [allL] at hm
   rcases ht with rfl | ht
   ·simp only [shB,hv,Bool.true_and]
    split at h
    ·rename_i hk
     rw [if_pos hk]
     simp only [Bool.and_eq_true] at h
     exact h.1.1
    ·rename_i hk
     rw [if_neg hk]
   ·split at h
    ·simp only [Bool.and_eq_true,decide_eq_true_eq] at h
     exact (hnil h.2 ht).elim
    ·split at h
     ·simp only [Bool.and_eq_true,decide_eq_true_eq] at h
      exact (hnil h.2 ht).elim
     ·split at h
      ·simp only [Bool.and_eq_true,List.all_eq_true] at h
       have go : ∀ l : List (TStep n),(∀ a ∈ l,stepB k n (d - 1) a = true) -> t ∈ allL n l -> shB k t = true := fun l hl hm => by
        unfold allL at hm
        rw [List.mem_flatten] at hm
        obtain ⟨ts,h3,h4⟩ := hm
        obtain ⟨a,h5,rfl⟩ := List.mem_map.1 h3
        exact stepB_sh k n (d - 1) a (hl a h5) t h4
       rcases ht with ht | ht
       ·exact go th h.1.2 ht
       ·exact go el h.2 ht
      ·cases h
theorem progB_sh {n : Nat} {p : TProg n} (h : progB n p = true) : ∀ t ∈ allL n p.2,shB p.1.length t = true := by
 simp only [progB,Bool.and_eq_true,decide_eq_true_eq,List.all_eq_true] at h
 intro t ht
 unfold allL at ht
 rw [List.mem_flatten] at ht
 obtain ⟨ts,h3,h4⟩ := ht
 obtain ⟨a,h5,rfl⟩ := List.mem_map.1 h3
 exact stepB_sh _ n 3 a (h.1.2 a h5) t h4
theorem progB_lab {n : Nat} {p : TProg n} (h : progB n p = true) : p.1.all labB = true := by
 simp only [progB,Bool.and_eq_true] at h
 exact h.1.1.2
def atT : (n : Nat) -> List (Int × Int) -> Int × Int -> TStep n -> List (Int × Int)
 | 0,_,_,s => s.elim
 | n + 1,ls,h,(_,x,_,_,th,el) => h :: ((th.map (atT n ls (lboth h (ls.getD x.toNat (0,0))))).flatten ++ (el.map (atT n ls (lboth h (ls.getD x.toNat (0,0))))).flatten)
def atL (n : Nat) (ls : List (Int × Int)) (h : Int × Int) (l : List (TStep n)) : List (Int × Int) := (l.map (atT n ls h)).flatten
theorem atT_succ (n : Nat) (ls : List (Int × Int)) (hh : Int × Int) (k x : Int) (v : Int × Int × Int) (h : Int) (th el : List (TStep n)) : atT (n + 1) ls hh (k,x,v,h,th,el) = hh :: (atL n ls (lboth hh (ls.getD x.toNat (0,0))) th ++ atL n ls (lboth hh (ls.getD x.toNat (0,0))) el) := rfl
theorem atL_take {n : Nat} (ls : List (Int × Int)) (h : Int × Int) (l : List (TStep n)) (i : Nat) (hi : i < l.length) : atL n ls h (l.take (i + 1)) = atL n ls h (l.take i) ++ atT n ls h l[i] := by
 unfold atL
 rw [List.take_add_one,List.getElem?_eq_getElem hi,List.map_append,List.flatten_append]
 congr 1
 simp
def AtOk (F : Nat -> Option IFn) (f n : Nat) : Prop := ∀ (H : Heap) (lo : Nat) (lv sv v : Value) (ls : List (Int × Int)) (l : List (TStep n)) (here : Int × Int) (b : Nat) (so : Bool) (outl : List (Int × Int)),one sv = true -> SlR Co.p2 (vw 0 H) lv ls -> SlR (Co.step n) (vw 0 H) v l -> OwnL Co.p2 2 57 lo [] H b so outl -> (∀ s ∈ allL n l,varB ls.length s.2.1 = true) -> labB here = true -> outl.all labB = true ->
 outl.length + (allL n l).length <= 1048576 -> ∃ b' so' outl' H',NC F lo f [.agg #[lv,sv],v,.agg #[.int .i64 here.1,.int .i64 here.2],sli b 0 outl.length] H (sli b' 0 outl'.length) H' /\ (AgX [b] H H' /\ CA H H' /\ (b' = b \/ H.length <= b') /\ OwnL Co.p2 2 57 lo [] H' b' so' outl' /\ outl'.length = outl.length + (allL n l).length /\ outl'.all labB = true /\ outl' = outl ++ atL n ls here l)
theorem p2rd {V : Vw} {a : Int × Int} (h : RgI a.1 /\ RgI a.2) : Co.p2.rd V [.int .i64 a.1,.int .i64 a.2] a := ⟨[.int .i64 a.1],[.int .i64 a.2],rfl,⟨rfl,h.1⟩,⟨rfl,h.2⟩⟩
theorem sAt_ok {F : Nat -> Option IFn} {f n : Nat} (hf : F f = some c_sAt) (gb : LBothOk F 96) (ih : ∀ m,n = m + 1 -> AtOk F 84 m) : AtOk F f n := by
 intro H lo lv sv v ls l here b0 so0 out0 hsv hlv hv ho0 hvar hhere hall hcnt
 have hlo1 : one lv = true := by obtain ⟨_,a,rfl,_⟩ := hlv; rfl
 have hv0 := hv
 obtain ⟨h0,av,rfl,hv1⟩ := hv
 have hbl0 : b0 < H.length := by obtain ⟨_,_,cs,h,_⟩ := ho0; exact (List.getElem?_eq_some_iff.1 h).1
 have hlob := ho0.1
 suffices h : ∃ v' H',NC F lo f [.agg #[lv,sv],.slice av l.length l.length,.agg #[.int .i64 here.1,.int .i64 here.2],sli b0 0 out0.length] H v' H' /\ (∃ b' so' outl',v' = sli b' 0 outl'.length /\ (AgX [b0] H H' /\ CA H H' /\ (b' = b0 \/ H.length <= b') /\ OwnL Co.p2 2 57 lo [] H' b' so' outl' /\ outl'.length = out0.length + (allL n l).length /\ outl'.all labB = true /\ outl' = out0 ++ atL n ls here l)) by
  obtain ⟨v',H',h1,b',so',outl',rfl,h2⟩ := h
  exact ⟨b',so',outl',H',h1,h2⟩
 refine NC.mk hf rfl ?_
 refine seq_reg ?_
 simp only [go_sem,binC,hlo1,hsv]
 refine wpc_gen fun Hb hHb => ?_
 have ht0 : AgX [b0] H Hb := hHb ▸ AgX.app [b0] _ _
 have hc0 : CA H Hb := hHb ▸ CA.app _ _
 have hob : OwnL Co.p2 2 57 lo [] Hb b0 so0 out0 := hHb ▸ ho0.sub (AgX.app [] _ _) (by simp) fun _ _ _ _ _ => ⟨by simp,by simp⟩
 have hp0 : Hb[H.length]? = some ⟨[lv,sv],0,0,false,true⟩ := hHb ▸ get_new0 _ _
 have hh0 : Hb[H.length + 1]? = some ⟨[.int .i64 here.1,.int .i64 here.2],0,0,false,true⟩ := hHb ▸ get_new _ _ 1
 clear hHb
 refine seq_assoc (seq_reg ?_)
 simp only [go_sem,binC]
 refine seq_block (wpc_loop ?_)
 suffices h : ∀ (k i : Nat) (e : Env) (Hc : Heap) (b : Nat) (so : Bool) (out : List (Int × Int)),i + k = l.length -> AgX [b0] H Hc -> CA H Hc -> (b = b0 \/ H.length + 2 <= b) -> OwnL Co.p2 2 57 lo [] Hc b so out -> out.length = out0.length + (allL n (l.take i)).length -> out.all labB = true -> out = out0 ++ atL n ls here (l.take i) -> Hc[H.length]? = some ⟨[lv,sv],0,0,false,true⟩ -> Hc[H.length + 1]? = some ⟨[.int .i64 here.1,.int .i64 here.2],0,0,false,true⟩ ->
   e 1 = .slice av l.length l.length -> e 3 = sli b 0 out.length -> e 4 = ptr H.length 0 -> e 6 = ptr (H.length + 1) 0 -> e 9 = .int .i64 i -> W F lo _ e Hc _ from
  h l.length 0 _ Hb b0 so0 out0 (by omega) ht0 hc0 (.inl rfl) hob (by simp [allL]) hall (by simp [atL]) hp0 hh0 (by simp only [go_sem,binC]) (by simp only [go_sem,binC]) (by simp only [go_sem,binC]) (by simp only [go_sem,binC]) (by (simp only [go_sem,binC]) <;> rfl)
 intro k
 induction k with
 | zero =>
   intro i e Hc b so out hi ht hca hcur ho hlen hal hct hp hh e1 e3 e4 e6 e9
   refine lp_step ?_
   refine seq_assoc (seq_reg ?_)
   simp only [go_sem,binC,e1,e9]
   refine seq_cond (t := false) (by simp only [go_sem,binC]; rw [decide_eq_false (by omega)]) ?_
   simp only [go_sem,binC]
   refine seq_exit ?_
   simp only [go_sem,binC,thenX_e,out_e,thenX_n]
   refine seq_reg ?_
   simp only [go_sem,binC,e3]
   rw [List.take_of_length_le (by omega)] at hlen hct
   exact wpc_ret ⟨Or.inr rfl,_,(by (simp only [go_sem,binC]) <;> rfl),b,so,out,rfl,ht,hca,hcur.imp id (fun h => by omega),ho,hlen,hal,hct⟩
 | succ k ihk =>
   intro i e Hc b so out hi ht hca hcur ho hlen hal hct hp hh e1 e3 e4 e6 e9
   have hil : i < l.length := by omega
   cases n with
   | zero => exact (l[i]).elim
   | succ n =>
   obtain ⟨vb,vo,sk,sx,sa,sbb,sc,sg,tv,ev,tl,el,hav,hs,rg,otv,oev,hgc,htl,hel⟩ := step_at hv0 hil
   simp only [Value.slice.injEq,and_true] at hav
   subst hav
   have hA := ih n rfl
   have htake := allL_take l i hil
   rw [hs,allT_succ] at htake
   have hle := allL_take_le l (i + 1)
   rw [htake,List.length_append,List.length_cons,List.length_append] at hle
   have hmem : ∀ s,s ∈ allT (n + 1) l[i] -> varB ls.length s.2.1 = true := fun s hs' => hvar s (mem_allL hil hs')
   rw [hs,allT_succ] at hmem
   have hvx : 0 <= sx /\ sx < ls.length := by
    have := hmem _ (List.mem_cons_self)
    simp [varB,inB] at this
    omega
   obtain ⟨lb,lo',hlvE,hga,r1,r2⟩ := lab_at hlv (fun _ _ h => h) hvx.1 hvx.2
   have hgl : ∀ {H' : Heap},CA H H' -> getCells H' lb (lo' + sx.toNat * 2) 2 = some [.int .i64 (ls.getD sx.toNat (0,0)).1,.int .i64 (ls.getD sx.toNat (0,0)).2] := by
    intro H' hc
    obtain ⟨b2,o2,h1,h2,_⟩ := lab_at (hlv.mono (hc.vw 0)) (H := H') (fun _ _ h => h) hvx.1 hvx.2
    rw [hlvE] at h1
    simp only [Value.slice.injEq,Option.some.injEq,Addr.mk.injEq,and_true] at h1
    obtain ⟨rfl,rfl⟩ := h1
    have := h2 []
    rwa [List.append_nil] at this
   have hgp : ∀ {H' : Heap} (_ : CA H H') (off kk : Nat),off + kk <= 8 -> getCells H' vb (vo + i * 8 + off) kk = some (([.int .i64 sk,.int .i64 sx,.int .i64 sa,.int .i64 sbb,.int .i64 sc,.int .i64 sg,tv,ev].drop off).take kk) := fun hs off kk h => gc_part (hgc _ (hs.vw 0)) h
   obtain ⟨rh1,rh2⟩ := labB_rg hhere
   have hob1 := ho.1
   have hbl : b < Hc.length := by obtain ⟨_,_,cs,h,_⟩ := ho; exact (List.getElem?_eq_some_iff.1 h).1
   refine lp_step ?_
   refine seq_assoc (seq_reg ?_)
   simp only [go_sem,binC,e1,e9]
   refine seq_cond (t := true) (by simp only [go_sem,binC]; rw [decide_eq_true (by omega)]) ?_
   simp only [go_sem,binC]
   refine seq_skip (seq_block ?_)
   refine seq_reg ?_
   simp only [go_sem,binC,e3,e6,gc_of hh,inBlk_some]
   have ho1 := ho.sub (AgX.app [] Hc [⟨[.int .i64 here.1,.int .i64 here.2],2,57,true,true⟩]) (xs' := []) (by simp) (fun _ _ _ _ _ => ⟨by simp,by simp⟩)
   refine op_app_ownN (l2 := [here]) ho1 (by simp only [go_sem,binC,e3]) (by (simp only [go_sem,binC]) <;> rfl) (Nat.le_refl _) rfl (by rw [List.length_singleton,gc_new0]; rfl) (fun j hj => by
    obtain rfl : j = 0 := by simpa using hj
    exact p2rd ⟨rh1,rh2⟩) (by simp; omega) (by omega) (by simp) (Nat.le_refl _) fun H2 b2 so2 hx2 hc2 hb2 ho2 => ?_
   simp only [go_sem,binC]
   have hHl := ht.1
   have hbne : ∀ q,b = b0 \/ H.length + 2 <= b -> (q = H.length \/ q = H.length + 1) -> q ∉ [b] := fun q hq hqq => by simp; omega
   have htX : ∀ {Hx Hy : Heap} {bq : Nat},AgX [b0] H Hx -> AgX [bq] Hx Hy -> (bq = b0 \/ H.length <= bq) -> AgX [b0] H Hy := fun h1 h2 h3 => h1.trans h2 (fun _ h _ => h) (fun b' h4 h5 => by simp only [List.mem_singleton] at h4 ⊢; omega)
   have hcur0 : b = b0 \/ H.length <= b := hcur.imp id (fun h => by omega)
   have ht2 : AgX [b0] H H2 := htX (ht.appN _) hx2 hcur0
   have hca2 : CA H H2 := (hca.trans (CA.app _ _)).trans hc2
   have hp1 : (Hc ++ [⟨[.int .i64 here.1,.int .i64 here.2],2,57,true,true⟩] : Heap)[H.length]? = some ⟨[lv,sv],0,0,false,true⟩ := by rw [List.getElem?_append_left (List.getElem?_eq_some_iff.1 hp).1]; exact hp
   have hh1 : (Hc ++ [⟨[.int .i64 here.1,.int .i64 here.2],2,57,true,true⟩] : Heap)[H.length + 1]? = some ⟨[.int .i64 here.1,.int .i64 here.2],0,0,false,true⟩ := by rw [List.getElem?_append_left (List.getElem?_eq_some_iff.1 hh).1]; exact hh
   have hp2 := hx2.get hp1 (hbne _ hcur (.inl rfl))
   have hh2 := hx2.get hh1 (hbne _ hcur (.inr rfl))
   have hcl : (Hc ++ [⟨[.int .i64 here.1,.int .i64 here.2],2,57,true,true⟩] : Heap).length = Hc.length + 1 := by rw [List.length_append]; rfl
   rw [hcl] at hb2
   have hH2 : Hc.length + 1 <= H2.length := by have := hx2.1; rwa [hcl] at this
   have hpl := (List.getElem?_eq_some_iff.1 hp).1
   have hhl := (List.getElem?_eq_some_iff.1 hh).1
   have hcur2 : b2 = b0 \/ H.length + 2 <= b2 := by omega
   have hgx : getCells H2 vb (vo + i * 8 + 1) 1 = some [.int .i64 sx] := by rw [hgp hca2 1 1 (by omega)]; rfl
   have hg6 : ∀ {H' : Heap},CA H H' -> getCells H' vb (vo + i * 8 + 6) 1 = some [tv] := fun h => by rw [hgp h 6 1 (by omega)]; rfl
   have hg7 : ∀ {H' : Heap},CA H H' -> getCells H' vb (vo + i * 8 + 7) 1 = some [ev] := fun h => by rw [hgp h 7 1 (by omega)]; rfl
   subst hlvE
   refine seq_regD ?_
   simp only [go_sem,binC,e1,e4,e6,e9,gc_of hp2,gc_of hh2,inBlk_some,hgx,hgl hca2]
   refine ⟨⟨by omega,by omega⟩,⟨by omega,by omega⟩,?_⟩
   refine op_callQ (by simp only [go_sem,binC]; exact gb _ _ _ _ _ rh1 rh2 r1 r2) ?_
   simp only [go_sem,binC]
   have hl2 := ht2.1
   refine ⟨by omega,?_⟩
   have hin := lboth_bd here (ls.getD sx.toNat (0,0))
   refine wpc_gen fun H3 hH3 => ?_
   have ht3 : AgX [b0] H H3 := hH3 ▸ ht2.appN _
   have hca3 : CA H H3 := hH3 ▸ hca2.trans (CA.app _ _)
   have ho3 := ho2.sub (AgX.app [] H2 [⟨[.int .i64 (lboth here (ls.getD sx.toNat (0,0))).1,.int .i64 (lboth here (ls.getD sx.toNat (0,0))).2],0,0,false,true⟩]) (xs' := []) (by simp) (fun _ _ _ _ _ => ⟨by simp,by simp⟩)
   have hx3 : AgX [] H2 H3 := hH3 ▸ AgX.app [] _ _
   have hp3 := hx3.get hp2 (by simp)
   have hh3 := hx3.get hh2 (by simp)
   have hin3 : H3[H2.length]? = some ⟨[.int .i64 (lboth here (ls.getD sx.toNat (0,0))).1,.int .i64 (lboth here (ls.getD sx.toNat (0,0))).2],0,0,false,true⟩ := hH3 ▸ get_new0 _ _
   have hl3 : H3.length = H2.length + 1 := by rw [hH3,List.length_append]; rfl
   rw [<- hH3] at ho3
   clear hH3
   have hb2l : b2 < H2.length := by obtain ⟨_,_,cs,h,_⟩ := ho2; exact (List.getElem?_eq_some_iff.1 h).1
   have hlen2 : (out ++ [here]).length = out.length + 1 := by simp
   have hal2 : (out ++ [here]).all labB = true := by rw [List.all_append,hal]; simp [hhere]
   refine seq_regD ?_
   simp only [go_sem,binC,e1,e4,e9,gc_of hp3,gc_of hin3,inBlk_some,hg6 hca3]
   refine ⟨⟨by omega,by omega⟩,?_⟩
   obtain ⟨b4,so4,out4,H4,k4,x4,c4,bb4,o4,n4,a4,q4⟩ := hA H3 lo _ sv tv ls tl (lboth here (ls.getD sx.toNat (0,0))) b2 so2 (out ++ [here]) hsv (hlv.mono (hca3.vw 0)) (htl.mono (hca3.vw 0)) ho3 (fun s hs' => hmem s (List.mem_cons_of_mem _ (List.mem_append_left _ hs'))) hin hal2 (by omega)
   refine op_callN (by simp only [go_sem,binC]; exact k4) ?_
   simp only [go_sem,binC]
   have hbne2 : ∀ q,(q = H.length \/ q = H.length + 1 \/ q = H2.length) -> q ∉ [b2] := fun q hq => by simp; omega
   have hp4 := x4.get hp3 (hbne2 _ (.inl rfl))
   have hh4 := x4.get hh3 (hbne2 _ (.inr (.inl rfl)))
   have hin4 := x4.get hin3 (hbne2 _ (.inr (.inr rfl)))
   have ht4 : AgX [b0] H H4 := htX ht3 x4 (by omega)
   have hca4 : CA H H4 := hca3.trans c4
   have hb4l : b4 < H4.length := by obtain ⟨_,_,cs,h,_⟩ := o4; exact (List.getElem?_eq_some_iff.1 h).1
   refine wpc_regD ?_
   simp only [go_sem,binC,e1,e4,e9,gc_of hp4,gc_of hin4,inBlk_some,hg7 hca4]
   refine ⟨⟨by omega,by omega⟩,?_⟩
   obtain ⟨b5,so5,out5,H5,k5,x5,c5,bb5,o5,n5,a5,q5⟩ := hA H4 lo _ sv ev ls el (lboth here (ls.getD sx.toNat (0,0))) b4 so4 out4 hsv (hlv.mono (hca4.vw 0)) (hel.mono (hca4.vw 0)) o4 (fun s hs' => hmem s (List.mem_cons_of_mem _ (List.mem_append_right _ hs'))) hin a4 (by omega)
   refine op_callN (by simp only [go_sem,binC]; exact k5) ?_
   simp only [go_sem,binC,out_n,thenX_n]
   have hx4l := x4.1
   have hbne4 : ∀ q,(q = H.length \/ q = H.length + 1) -> q ∉ [b4] := fun q hq => by simp; omega
   refine wpc_reg ?_
   simp only [go_sem,binC,e9]
   have hw1 : IntKind.i64.wrap ((i : Int) + 1) = ((i + 1 : Nat) : Int) := by rw [wrap_id (by omega) (by omega)]; omega
   rw [hw1]
   simp only [go_sem,binC,thenX_n]
   have htl' : (allL (n + 1) (l.take (i + 1))).length = (allL (n + 1) (l.take i)).length + (1 + ((allL n tl).length + (allL n el).length)) := by rw [htake,List.length_append,List.length_cons,List.length_append]; omega
   exact ihk (i + 1) _ H5 b5 so5 out5 (by omega) (htX ht4 x5 (by omega)) (hca4.trans c5) (by have := x4.1; omega) o5 (by omega) a5 (by rw [q5,q4,hct,atL_take ls here l i hil,hs,atT_succ]; simp only [List.append_assoc,List.cons_append,List.nil_append]) (x5.get hp4 (hbne4 _ (.inl rfl))) (x5.get hh4 (hbne4 _ (.inr rfl))) (by simp only [go_sem,binC,e1]) (by simp only [go_sem,binC]) (by simp only [go_sem,binC,e4]) (by simp only [go_sem,binC,e6]) (by simp only [go_sem,binC])
theorem sAt_all {F : Nat -> Option IFn} (hf : F 84 = some c_sAt) (gb : LBothOk F 96) : ∀ n,AtOk F 84 n
 | 0 => sAt_ok hf gb fun m h => by omega
 | n + 1 => sAt_ok hf gb fun m h => by cases h; exact sAt_all hf gb n
end Go.Proofs.YtbjeldblaclpnaaGreatI
end
end
