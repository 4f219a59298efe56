/- Texts of this proof, merged: M8, M9, E0m, E1, E2, E3, E4, E5, H0, H1. -/
import Derived.Test.YtbjeldblaclpnaaGreatPz5
import Derived.Test.YtbjeldblaclpnaaGreatPz6
import Derived.Test.YtbjeldblaclpnaaGreatPz7
section
section
set_option linter.unusedVariables false
set_option linter.unusedSimpArgs false
namespace Go.Proofs.YtbjeldblaclpnaaGreatI
open Go Go.RowKit
theorem prog_rd {n : Nat} {V : Vw} {lv sv : Value} {ls : List (Int × Int)} {l : List (TStep n)} (h1 : SlR Co.p2 V lv ls) (h2 : SlR (Co.step n) V sv l) : Rd (Co.prog n) true V (.agg #[lv,sv]) (ls,l) := ⟨_,rfl,[lv],[sv],rfl,⟨lv,rfl,h1⟩,⟨sv,rfl,h2⟩⟩
def TypeAtOk (F : Nat -> Option IFn) (f : Nat) : Prop := ∀ (H : Heap) (n : Nat) (lv sv : Value) (ls : List (Int × Int)) (l : List (TStep n)),SlR Co.p2 (vw 0 H) lv ls -> SlR (Co.step n) (vw 0 H) sv l -> (Co.prog n).sm (ls,l) -> progB n (ls,l) = true ->
 ∃ b so out H',KC F f [.agg #[lv,sv]] H (sli b 0 out.length) H' /\ (AgX [] H H' /\ OwnL Co.p2 2 57 H.length [] H' b so out /\ out.length = (allL n l).length /\ out.all labB = true /\ out = atL n ls (7,7) l)
theorem sTypeAt_ok {F : Nat -> Option IFn} {f : Nat} (hf : F f = some c_sTypeAt) (gp : ProgOk F 56) (ga : ∀ H,QC F 85 [] H (.agg #[.int .i64 7,.int .i64 7])) (gat : ∀ n,AtOk F 84 n) : TypeAtOk F f := by
 intro H n lv sv ls l hlv hsv hsm hpb
 have olv : one lv = true := by obtain ⟨_,a,rfl,_⟩ := hlv; rfl
 have osv : one sv = true := by obtain ⟨_,a,rfl,_⟩ := hsv; rfl
 have hcnt : (allL n l).length <= 8 := progB_cnt hpb hsm
 suffices h : ∃ v' H',KC F f [.agg #[lv,sv]] H v' H' /\ (∃ b so out,v' = sli b 0 out.length /\ (AgX [] H H' /\ OwnL Co.p2 2 57 H.length [] H' b so out /\ out.length = (allL n l).length /\ out.all labB = true /\ out = atL n ls (7,7) l)) by
  obtain ⟨v',H',h1,b,so,out,rfl,h2⟩ := h
  exact ⟨b,so,out,H',h1,h2⟩
 refine KC.mk hf rfl ?_
 refine seq_reg ?_
 simp only [go_sem,binC,olv,osv]
 refine seq_assoc (seq_reg ?_)
 simp only [go_sem,binC,inBlk_some]
 refine op_callQ (by simp only [go_sem,binC]; exact gp _ n _ (ls,l) (prog_rd (hlv.mono (vw_app 0 H _)) (hsv.mono (vw_app 0 H _))) hsm) ?_
 simp only [go_sem,binC,hpb]
 refine seq_cond (t := false) rfl ?_
 simp only [go_sem,binC]
 refine seq_skip (seq_regD ?_)
 simp only [go_sem,binC,inBlk_some]
 refine op_callQ (by simp only [go_sem,binC]; exact ga _) ?_
 simp only [go_sem,binC]
 have hal : ([] : List (Int × Int)).all labB = true := rfl
 have hown : OwnL Co.p2 2 57 H.length [] (H ++ [⟨[lv,sv],0,0,false,true⟩,⟨[],2,57,true,true⟩]) (H.length + 1) true ([] : List (Int × Int)) := ⟨by omega,by simp,[],get_new _ _ 1,by simp,fun i hi => by simp at hi⟩
 obtain ⟨b4,so4,out4,H4,k4,x4,c4,bb4,o4,n4,a4,q4⟩ := gat n _ H.length lv sv sv ls l (7,7) _ _ [] osv (hlv.mono (vw_app 0 H _)) (hsv.mono (vw_app 0 H _)) hown (fun s hs => by
  have := progB_sh hpb s hs
  simp only [shB,Bool.and_eq_true] at this
  exact this.1) rfl hal (by simp; omega)
 refine op_callN (by simp only [go_sem,binC]; exact k4) ?_
 simp only [go_sem,binC]
 refine wpc_ret ⟨Or.inr rfl,_,(by (simp only [go_sem,binC]) <;> rfl),b4,so4,out4,rfl,(AgX.app [] H _).trans x4 (fun _ h _ => h) (fun b' h1 h2 => by simp only [List.mem_singleton] at h1; omega),o4,by simpa using n4,a4,by simpa using q4⟩
theorem OwnG.at {α : Type} {A : Co α} {es et lo vl : Nat} {xs : List Nat} {H : Heap} {b : Nat} {so : Bool} {l : List α} (h : OwnG A es et lo vl xs H b so l) {i : Nat} (hi : i < l.length) : ∃ cs,getCells H b (i * es) es = some cs /\ A.rd (vwl vl (b :: xs) H) cs l[i] := by
 obtain ⟨h3,h4,cs,h5,h6,h7⟩ := h
 have hi2 : i * es + es <= l.length * es := by rw [<- Nat.succ_mul]; exact Nat.mul_le_mul_right _ hi
 refine ⟨_,?_,h7 i hi⟩
 unfold getCells
 rw [h5]
 simp only
 rw [if_pos (by omega)]
def WhyOk (F : Nat -> Option IFn) (f : Nat) : Prop := ∀ (H : Heap) (n : Nat) (lv sv : Value) (ls : List (Int × Int)) (l : List (TStep n)),SlR Co.p2 (vw 0 H) lv ls -> SlR (Co.step n) (vw 0 H) sv l -> (Co.prog n).sm (ls,l) -> ∃ (i : Int) (t : Bool),QC F f [.agg #[lv,sv]] H (.tuple #[.int .i64 i,.bool t])
def why0 (ls : List (Int × Int)) : List Shal -> List (Int × Int) -> Nat -> Int × Bool
 | s :: ss,h :: hs,i => if fineB ls s h = true then why0 ls ss hs (i + 1) else (i,true)
 | _,_,_ => (0,false)
def whyV (n : Nat) (p : TProg n) : Int × Bool := if progB n p = true then why0 p.1 (allL n p.2) (atL n p.1 (7,7) p.2) 0 else (0,false)
theorem whyV_no {n : Nat} {ls : List (Int × Int)} {l : List (TStep n)} (h : progB n (ls,l) = false) : whyV n (ls,l) = (0,false) := if_neg (by rw [h]; simp)
theorem whyV_yes {n : Nat} {ls : List (Int × Int)} {l : List (TStep n)} (h : progB n (ls,l) = true) : whyV n (ls,l) = why0 ls (allL n l) (atL n ls (7,7) l) 0 := if_pos h
def WhyV (F : Nat -> Option IFn) (f : Nat) : Prop := ∀ (H : Heap) (n : Nat) (lv sv : Value) (ls : List (Int × Int)) (l : List (TStep n)),SlR Co.p2 (vw 0 H) lv ls -> SlR (Co.step n) (vw 0 H) sv l -> (Co.prog n).sm (ls,l) -> QC F f [.agg #[lv,sv]] H (.tuple #[.int .i64 (whyV n (ls,l)).1,.bool (whyV n (ls,l)).2])
theorem sWhyV_ok {F : Nat -> Option IFn} {f : Nat} (hf : F f = some c_sWhy) (gp : ProgOk F 56) (gall : ∀ n,AllOk F 58 n) (gta : TypeAtOk F 59) (gfi : FineOk F 81) : WhyV F f := by
 intro H n lv sv ls l hlv hsv hsm
 have olv : one lv = true := by obtain ⟨_,a,rfl,_⟩ := hlv; rfl
 have osv : one sv = true := by obtain ⟨_,a,rfl,_⟩ := hsv; rfl
 refine QC.mk hf rfl ?_
 refine seq_reg ?_
 simp only [go_sem,binC,olv,osv]
 refine seq_assoc (seq_reg ?_)
 simp only [go_sem,binC,inBlk_some]
 refine op_callQ (by simp only [go_sem,binC]; exact gp _ n _ (ls,l) (prog_rd (hlv.mono (vw_app 0 H _)) (hsv.mono (vw_app 0 H _))) hsm) ?_
 simp only [go_sem,binC]
 cases hpb : progB n (ls,l) with
 | false =>
   refine seq_cond (t := true) rfl ?_
   simp only [go_sem,binC]
   refine seq_assoc (seq_reg ?_)
   simp only [go_sem,binC]
   refine seq_ret ⟨Or.inr rfl,.tuple #[.int .i64 0,.bool false],rfl,by rw [whyV_no hpb],rfl⟩
 | true =>
   have hcnt : (allL n l).length <= 8 := progB_cnt hpb hsm
   have hsh := progB_sh hpb
   have hlab := progB_lab hpb
   refine seq_cond (t := false) rfl ?_
   simp only [go_sem,binC]
   refine wpc_gen fun H1 hH1 => ?_
   have ht1 : AgX [] H H1 := hH1 ▸ AgX.app [] _ _
   have hp1 : H1[H.length]? = some ⟨[lv,sv],0,0,false,true⟩ := hH1 ▸ get_new0 _ _
   clear hH1
   refine seq_skip (seq_reg ?_)
   simp only [go_sem,binC,gc_of hp1,inBlk_some]
   obtain ⟨v2,H2,k2,x2,b2,so2,rfl,o2⟩ := gall n H1 sv l (hsv.mono (agx_sub ht1)) (by omega)
   refine op_callK (by simp only [go_sem,binC]; exact k2) ?_
   simp only [go_sem,binC]
   have hp2 := x2.get hp1 (by simp)
   have ht2 := ht1.tr x2
   refine seq_reg ?_
   simp only [go_sem,binC,gc_of hp2,inBlk_some]
   obtain ⟨b3,so3,out,H3,k3,x3,o3,n3,a3,q3⟩ := gta H2 n lv sv ls l (hlv.mono (agx_sub ht2)) (hsv.mono (agx_sub ht2)) hsm hpb
   refine op_callK (by simp only [go_sem,binC]; exact k3) ?_
   simp only [go_sem,binC]
   have hp3 := x3.get hp2 (by simp)
   have ht3 := ht2.tr x3
   have o2' := o2.sub x3 (xs' := []) (by simp) (fun _ _ _ _ _ => ⟨by simp,by simp⟩)
   refine seq_assoc (seq_reg ?_)
   simp only [go_sem,binC]
   refine seq_block (wpc_loop ?_)
   suffices h : ∀ (k i : Nat) (e : Env),i + k = (allL n l).length -> e 1 = ptr H.length 0 -> e 4 = sli b2 0 (allL n l).length -> e 5 = sli b3 0 out.length -> e 6 = .int .i64 i -> whyV n (ls,l) = why0 ls ((allL n l).drop i) (out.drop i) i -> W F H.length _ e H3 _ from
    h (allL n l).length 0 _ (by omega) (by simp only [go_sem,binC]) (by simp only [go_sem,binC]) (by simp only [go_sem,binC]) (by (simp only [go_sem,binC]) <;> rfl) (by rw [whyV_yes hpb,List.drop_zero,List.drop_zero,q3])
   intro k
   induction k with
   | zero =>
     intro i e hi e1 e4 e5 e6 hw
     refine lp_step ?_
     refine seq_assoc (seq_reg ?_)
     simp only [go_sem,binC,e4,e6]
     refine seq_cond (t := false) (by simp only [go_sem,binC]; rw [decide_eq_false (by omega)]) ?_
     simp only [go_sem,binC]
     refine seq_exit ?_
     simp only [go_sem,binC,thenX_e,out_e,thenX_n]
     refine seq_reg ?_
     simp only [go_sem,binC]
     refine wpc_ret ⟨Or.inr rfl,.tuple #[.int .i64 0,.bool false],rfl,?_,rfl⟩
     rw [hw,List.drop_of_length_le (by omega)]
     rfl
   | succ k ih =>
     intro i e hi e1 e4 e5 e6 hw
     have hil : i < (allL n l).length := by omega
     have hio : i < out.length := by omega
     obtain ⟨cs,g1,tv,ev,hcs,otv,oev,rg⟩ := o2'.at hil
     obtain ⟨cs2,g2,x1,y1,hxy,⟨hx1,rx⟩,⟨hy1,ry⟩⟩ := o3.at hio
     have hshi := hsh _ (List.getElem_mem hil)
     have hoi : labB out[i] = true := List.all_eq_true.1 a3 _ (List.getElem_mem _)
     rw [List.drop_eq_getElem_cons hil,List.drop_eq_getElem_cons hio,why0] at hw
     generalize (allL n l)[i] = s at hcs rg hshi hw
     generalize out[i] = hr at hx1 hy1 rx ry hoi hw
     obtain ⟨sk,sx,⟨sa,sbb,sc⟩,sg⟩ := s
     obtain ⟨r1,r2⟩ := hr
     subst hx1 hy1
     subst hxy
     subst hcs
     refine lp_step ?_
     refine seq_assoc (seq_reg ?_)
     simp only [go_sem,binC,e4,e6]
     refine seq_cond (t := true) (by simp only [go_sem,binC]; rw [decide_eq_true (by omega)]) ?_
     simp only [go_sem,binC]
     refine seq_skip (seq_block ?_)
     refine seq_regD ?_
     simp only [go_sem,binC,e1,e4,e5,e6,gc_of hp3,inBlk_some,g1,g2]
     refine ⟨⟨by omega,by omega⟩,⟨by omega,by omega⟩,?_⟩
     refine op_callQ (by simp only [go_sem,binC]; exact gfi H3 lv sv tv ev ls _ _ _ _ _ _ (r1,r2) osv otv oev rg (hlv.mono (agx_sub ht3)) hlab hshi hoi) ?_
     simp only [go_sem,binC]
     cases hfi : fineB ls (sk,sx,(sa,sbb,sc),sg) (r1,r2) with
     | false =>
       refine wpc_cond (t := true) rfl ?_
       simp only [go_sem,binC]
       refine seq_reg ?_
       simp only [go_sem,binC,e6]
       refine wpc_ret ?_
       simp only [go_sem,binC,out_r,thenX_r]
       rw [hfi,if_neg (by simp)] at hw
       exact ⟨Or.inr rfl,.tuple #[.int .i64 i,.bool true],by simp [resV,resL,res1,putE_get,notT],by rw [hw],rfl⟩
     | true =>
       refine wpc_cond (t := false) rfl ?_
       simp only [go_sem,binC]
       refine wpc_skip ?_
       simp only [go_sem,binC,out_n,thenX_n]
       refine wpc_reg ?_
       simp only [go_sem,binC,e6]
       have hw1 : IntKind.i64.wrap ((i : Int) + 1) = ((i + 1 : Nat) : Int) := by rw [wrap_id (by omega) (by omega)]; omega
       rw [hw1]
       simp only [go_sem,binC,thenX_n]
       rw [hfi,if_pos rfl] at hw
       exact ih (i + 1) _ (by omega) (by simp only [go_sem,binC,e1]) (by simp only [go_sem,binC,e4]) (by simp only [go_sem,binC,e5]) (by simp only [go_sem,binC]) hw
theorem sWhy_ok {F : Nat -> Option IFn} {f : Nat} (hf : F f = some c_sWhy) (gp : ProgOk F 56) (gall : ∀ n,AllOk F 58 n) (gta : TypeAtOk F 59) (gfi : FineOk F 81) : WhyOk F f := fun H n lv sv ls l h1 h2 h3 => ⟨_,_,sWhyV_ok hf gp gall gta gfi H n lv sv ls l h1 h2 h3⟩
end Go.Proofs.YtbjeldblaclpnaaGreatI
end
section
set_option linter.unusedVariables false
set_option linter.unusedSimpArgs false
namespace Go.Proofs.YtbjeldblaclpnaaGreatI
open Go Go.RowKit
def woApp : ICode := (.reg none [⟨some 65,none,.mov (.t 5)⟩,⟨some 66,none,.load true 8 (.t 7)⟩,
    ⟨some 67,none,.lit 8 54 1 [(.int .i64 0),(.int .i64 0),(.int .i64 0),(.int .i64 0),(.int .i64 0),(.int .i64 0),(.slice none 0 0),(.slice none 0 0)] [(0,8,(.t 66))]⟩,
    ⟨some 68,none,.app 8 54 96 false (.t 65) (.t 67)⟩,⟨some 5,none,.mov (.t 68)⟩])
def c_sWithout : IFn := ⟨2,70,[.t 4],
 .seq (.reg none [⟨some 4,none,.mov (.c (.slice none 0 0))⟩])
 (.seq (.reg none [⟨some 10,none,.lit 8 54 0 [] []⟩,⟨some 5,none,.mov (.t 10)⟩])
 (.seq (.seq (.reg none [⟨some 6,none,.mov (.c (.int .i64 0))⟩])
  (.block 0 (.loop (.seq (.seq (.reg none [⟨some 11,none,.mov (.t 6)⟩,⟨some 12,none,.mov (.t 0)⟩,⟨some 13,none,.len (.t 12)⟩,
     ⟨some 14,none,.bin .lss (.t 11) (.t 13)⟩])
    (.cond (.t 14) (.skip) (.exit 0)))
   (.seq (.block 1 (.seq (.reg none [⟨some 17,none,.mov (.t 0)⟩,⟨some 18,none,.mov (.t 6)⟩,⟨some 19,none,.iad 8 (.t 17) (.t 18)⟩,
      ⟨some 20,none,.load true 8 (.t 19)⟩,
      ⟨some 7,none,.new [(.int .i64 0),(.int .i64 0),(.int .i64 0),(.int .i64 0),(.int .i64 0),(.int .i64 0),(.slice none 0 0),(.slice none 0 0)]⟩,
      ⟨none,none,.store 8 (.t 7) (.t 20)⟩])
    (.seq (.seq (.reg none [⟨some 21,none,.mov (.t 1)⟩,⟨some 22,none,.bin .eql (.t 21) (.c (.int .i64 0))⟩])
     (.cond (.t 22) (.seq (.reg none [⟨some 1,none,.mov (.c (.int .i64 (-1)))⟩])
      (.exit 1)) (.skip)))
    (.seq (.reg (some 7) [⟨some 23,none,.fad 6 (.t 7)⟩,⟨some 24,none,.load false 1 (.t 23)⟩,⟨some 25,none,.call .q (.f 57) [.t 24]⟩,
      ⟨some 26,none,.bin .add (.c (.int .i64 1)) (.t 25)⟩,⟨some 27,none,.fad 7 (.t 7)⟩,⟨some 28,none,.load false 1 (.t 27)⟩,
      ⟨some 29,none,.call .q (.f 57) [.t 28]⟩,⟨some 30,none,.bin .add (.t 26) (.t 29)⟩,⟨some 8,none,.mov (.t 30)⟩])
    (.seq (.seq (.reg none [⟨some 31,none,.mov (.t 1)⟩,⟨some 32,none,.bin .gtr (.t 31) (.c (.int .i64 0))⟩,⟨some 33,none,.mov (.t 32)⟩,
      ⟨some 34,some (33,true),.mov (.t 1)⟩,⟨some 35,some (33,true),.mov (.t 8)⟩,⟨some 36,some (33,true),.bin .lss (.t 34) (.t 35)⟩,
      ⟨some 37,none,.pick (.t 33) (.t 36) (.c (.bool false))⟩])
     (.cond (.t 37) (.seq (.reg none [⟨some 38,none,.fad 6 (.t 7)⟩,⟨some 39,none,.load false 1 (.t 38)⟩,⟨some 40,none,.call .q (.f 57) [.t 39]⟩,
       ⟨some 9,none,.mov (.t 40)⟩])
      (.seq (.seq (.reg none [⟨some 41,none,.mov (.t 1)⟩,⟨some 42,none,.bin .sub (.t 41) (.c (.int .i64 1))⟩,⟨some 43,none,.mov (.t 9)⟩,
        ⟨some 44,none,.bin .lss (.t 42) (.t 43)⟩])
       (.cond (.t 44) (.reg none [⟨some 45,none,.fad 6 (.t 7)⟩,⟨some 46,none,.load false 1 (.t 45)⟩,⟨some 47,none,.mov (.t 1)⟩,
         ⟨some 48,none,.bin .sub (.t 47) (.c (.int .i64 1))⟩,⟨some 49,none,.call .k (.f 92) [.t 46,.t 48]⟩,⟨some 50,none,.fad 6 (.t 7)⟩,
         ⟨none,none,.store 1 (.t 50) (.t 49)⟩]) (.reg none [⟨some 51,none,.fad 7 (.t 7)⟩,⟨some 52,none,.load false 1 (.t 51)⟩,⟨some 53,none,.mov (.t 1)⟩,
         ⟨some 54,none,.bin .sub (.t 53) (.c (.int .i64 1))⟩,⟨some 55,none,.mov (.t 9)⟩,⟨some 56,none,.bin .sub (.t 54) (.t 55)⟩,
         ⟨some 57,none,.call .k (.f 92) [.t 52,.t 56]⟩,⟨some 58,none,.fad 7 (.t 7)⟩,⟨none,none,.store 1 (.t 58) (.t 57)⟩])))
      (.reg none [⟨some 1,none,.mov (.c (.int .i64 (-1)))⟩]))) (.seq (.reg none [⟨some 59,none,.mov (.t 1)⟩,⟨some 60,none,.mov (.t 8)⟩,
        ⟨some 61,none,.bin .geq (.t 59) (.t 60)⟩])
      (.cond (.t 61) (.reg none [⟨some 62,none,.mov (.t 1)⟩,⟨some 63,none,.mov (.t 8)⟩,⟨some 64,none,.bin .sub (.t 62) (.t 63)⟩,
        ⟨some 1,none,.mov (.t 64)⟩]) (.skip)))))
    woApp)))))
   (.reg none [⟨some 15,none,.mov (.t 6)⟩,⟨some 16,none,.bin .add (.t 15) (.c (.int .i64 1))⟩,⟨some 6,none,.mov (.t 16)⟩]))))))
 (.seq (.reg none [⟨some 69,none,.mov (.t 5)⟩,⟨some 4,none,.mov (.t 69)⟩])
 (.ret))))⟩
theorem step_atV {n : Nat} {V : Vw} {v : Value} {l : List (TStep (n + 1))} (h : SlR (Co.step (n + 1)) V v l) {i : Nat} (hi : i < l.length) : ∃ (b o : Nat) (k x a bb c g : Int) (tv ev : Value) (tl el : List (TStep n)),v = .slice (some ⟨b,o,none⟩) l.length l.length /\ l[i] = (k,x,(a,bb,c),g,tl,el) /\
  (Rg k /\ Rg x /\ Rg a /\ Rg bb /\ Rg c /\ Rg g) /\ one tv = true /\ one ev = true /\ (∀ H',Sub V (vw 0 H') -> getCells H' b (o + i * 8) 8 = some [.int .i64 k,.int .i64 x,.int .i64 a,.int .i64 bb,.int .i64 c,.int .i64 g,tv,ev]) /\ SlR (Co.step n) V tv tl /\ SlR (Co.step n) V ev el := by
 obtain ⟨_,a,rfl,h2⟩ := h
 obtain ⟨b,o,rfl,h3⟩ := h2.resolve_left (fun h => by rw [h] at hi; simp at hi)
 obtain ⟨cs,h4,h5⟩ := h3 i hi
 generalize hs : l[i] = s at h5
 obtain ⟨k,x,⟨a,bb,c⟩,g,tl,el⟩ := s
 obtain ⟨_,_,rfl,⟨rfl,r1⟩,_,_,rfl,⟨rfl,r2⟩,_,_,rfl,⟨_,_,rfl,⟨rfl,r3⟩,_,_,rfl,⟨rfl,r4⟩,⟨rfl,r5⟩⟩,_,_,rfl,⟨rfl,r6⟩,_,_,rfl,⟨tv,rfl,h6⟩,⟨ev,rfl,h7⟩⟩ := h5
 have o6 : one tv = true := by obtain ⟨_,_,rfl,_⟩ := h6; rfl
 have o7 : one ev = true := by obtain ⟨_,_,rfl,_⟩ := h7; rfl
 exact ⟨b,o,k,x,a,bb,c,g,tv,ev,tl,el,rfl,rfl,⟨r1,r2,r3,r4,r5,r6⟩,o6,o7,fun H' hs => rng_gc (rng_sub hs h4),h6,h7⟩
structure Cd (H : Heap) (vl : Nat) (xs0 : List Nat) (d b : Nat) (so : Bool) (acc : List (TStep (d + 1))) (bs : Nat) (cells : List Value) (Hc : Heap) : Prop where
 ag : AgX [] H Hc
 own : OwnG (Co.step (d + 1)) 8 54 H.length vl (bs :: xs0) Hc b so acc
 box : Hc[bs]? = some ⟨cells,0,0,false,true⟩
 lo : H.length <= bs
 ne : b < bs
 xs : ∀ b',b' ∈ xs0 -> b' < H.length
 vl : vl <= H.length
section
variable {H : Heap} {vl : Nat} {xs0 : List Nat} {d b : Nat} {so : Bool} {acc : List (TStep (d + 1))} {bs : Nat} {cells cells' : List Value} {Hc Hc' : Heap}
theorem Cd.grow (h : Cd H vl xs0 d b so acc bs cells Hc) (hx : AgX [] Hc Hc') : Cd H vl xs0 d b so acc bs cells Hc' :=
 ⟨h.ag.tr hx,h.own.sub hx (by simp) (fun b' _ h5 h6 h7 => ⟨by simp,h7⟩),hx.get h.box (by simp),h.lo,h.ne,h.xs,h.vl⟩
theorem Cd.store (h : Cd H vl xs0 d b so acc bs cells Hc) : Cd H vl xs0 d b so acc bs cells' (Hc.set bs ⟨cells',0,0,false,true⟩) := by
 have h3 := h.ne
 refine ⟨h.ag.setN h.lo _,h.own.sub (AgX.set _ _ _) (by simp; omega) (fun b' _ h5 h6 h7 => ⟨by simp only [List.mem_cons,not_or] at h7 ⊢; exact ⟨h7.1,List.not_mem_nil⟩,h7⟩),List.getElem?_set_self (List.getElem?_eq_some_iff.1 h.box).1,h.lo,h3,h.xs,h.vl⟩
theorem Cd.old (h : Cd H vl xs0 d b so acc bs cells Hc) : Sub (vwl vl xs0 H) (vwl vl (b :: bs :: xs0) Hc) := by
 have h1 := h.own.1
 have h2 := h.lo
 exact vwl_sub h.ag (Nat.le_refl _) fun b' h3 h4 h5 => ⟨by simp,by simp only [List.mem_cons,not_or]; exact ⟨by omega,by omega,h5⟩⟩
end
theorem woApp_ok {F : Nat -> Option IFn} {H Hc : Heap} {vl : Nat} {xs0 : List Nat} {d b : Nat} {so : Bool} {acc : List (TStep (d + 1))} {bs lo : Nat} {cells : List Value} {e : Env} {K : X -> Env -> Heap -> Prop} (hB : Cd H vl xs0 d b so acc bs cells Hc) (e1 : e 5 = sli b 0 acc.length) (e2 : e 7 = ptr bs 0) (hS : StC d (vwl vl (b :: bs :: xs0) Hc) cells) (hlo : lo <= H.length) (hl : acc.length < 1048576)
  (hK : ∀ e' Hc' b' so' a,(e' 0 = e 0 /\ e' 1 = e 1 /\ e' 6 = e 6 /\ e' 5 = sli b' 0 (acc.length + 1)) -> AgX [] H Hc' -> OwnG (Co.step (d + 1)) 8 54 H.length vl xs0 Hc' b' so' (acc ++ [a]) -> (Co.step (d + 1)).sm a -> K .n e' Hc') : wpc F lo woApp e Hc K := by
 obtain ⟨sk,sx,sa,sb,sc,sh,tv,ev,tl,el,rfl,⟨rk,rx,ra,rb',rc,rh⟩,htl,hel,mtl,mel⟩ := hS
 have hrd := step_rd rk rx ra rb' rc rh htl hel
 obtain ⟨_,at',rfl,_⟩ := htl
 obtain ⟨_,ae',rfl,_⟩ := hel
 have hbl := (List.getElem?_eq_some_iff.1 hB.box).1
 have h1 := hB.lo
 have hx0 := hB.xs
 have hob := hB.own.1
 unfold woApp
 refine wpc_reg ?_
 simp only [go_sem,binC,e1,e2,gc_of hB.box,inBlk_some]
 refine op_app_own (xs := bs :: xs0) hB.own (by simp only [go_sem,binC,e1]) (by simp only [go_sem,binC]) hlo (step_w _) hrd hl (by omega) (fun b' hm => by
  rcases List.mem_cons.1 hm with rfl | hm
  ·exact hbl
  ·have := hx0 b' hm; omega) fun H' hx hown => ?_
 simp only [go_sem,binC]
 refine hK _ H' _ _ _ ⟨by simp only [go_sem,binC],by simp only [go_sem,binC],by simp only [go_sem,binC],by simp only [go_sem,binC]⟩ (agx_nil hB.ag hx hob) (hown.sub (AgX.refl [] H') (by simp) fun b' _ _ _ h => ⟨by simp,fun hm => h (List.mem_cons_of_mem _ hm)⟩) (step_smM mtl mel)
end Go.Proofs.YtbjeldblaclpnaaGreatI
end
section
set_option linter.unusedVariables false
set_option linter.unusedSimpArgs false
namespace Go.Proofs.YtbjeldblaclpnaaGreatI
open Go Go.RowKit
def WoOk (F : Nat -> Option IFn) (f n : Nat) : Prop := ∀ (H : Heap) (v : Value) (l : List (TStep n)) (x : Int) (vl : Nat) (xs0 : List Nat),(∀ b',b' ∈ xs0 -> b' < H.length) -> vl <= H.length -> SlR (Co.step n) (vwl vl xs0 H) v l -> (Co.sl (Co.step n)).sm l ->
 ∃ b so l' H',KC F f [v,.int .i64 x] H (sli b 0 l'.length) H' /\ (AgX [] H H' /\ OwnG (Co.step n) 8 54 H.length vl xs0 H' b so l' /\ (Co.sl (Co.step n)).sm l' /\ l'.length <= l.length)
theorem wpc_genK {F : Nat -> Option IFn} {lo : Nat} {c : ICode} {e : Env} {H : Heap} {K : X -> Env -> Heap -> Prop} (h : ∀ KK,KK = K -> wpc F lo c e H KK) : wpc F lo c e H K := h _ rfl
theorem vwl0 (lo : Nat) (xs : List Nat) (H : Heap) : Sub (vwl lo xs H) (vw 0 H) := (vwl_vw _ _ _).trans (vw_grow (Nat.zero_le _) fun _ _ _ => rfl)
theorem sWithout_ok {F : Nat -> Option IFn} {f n : Nat} (hf : F f = some c_sWithout) (gc : ∀ n,CntOk F 57 n) (ih : ∀ m,n = m + 1 -> WoOk F 92 m) : WoOk F f n := by
 intro H v l x0 vl xs0 hxs hvl hv hsm
 have hv0 := hv
 obtain ⟨h0,av,rfl,hv1⟩ := hv
 have hsm1 := hsm.1
 suffices h : ∃ v' H',KC F f [.slice av l.length l.length,.int .i64 x0] H v' H' /\ (∃ b so l',v' = sli b 0 l'.length /\ (AgX [] H H' /\ OwnG (Co.step n) 8 54 H.length vl xs0 H' b so l' /\ (Co.sl (Co.step n)).sm l' /\ l'.length <= l.length)) by
  obtain ⟨v',H',h1,b,so,l',rfl,h2⟩ := h
  exact ⟨b,so,l',H',h1,h2⟩
 refine KC.mk hf rfl ?_
 refine seq_reg ?_
 simp only [go_sem,binC]
 refine seq_reg ?_
 simp only [go_sem,binC]
 refine seq_assoc (seq_reg ?_)
 simp only [go_sem,binC]
 refine wpc_gen fun Hb hHb => ?_
 have ht0 : AgX [] H Hb := hHb ▸ AgX.app [] _ _
 have ho0 : OwnG (Co.step n) 8 54 H.length vl xs0 Hb H.length true [] := hHb ▸ OwnG.nil (Nat.le_refl _)
 clear hHb
 refine seq_block (wpc_loop ?_)
 suffices h : ∀ (k i : Nat) (e : Env) (Hc : Heap) (b : Nat) (so : Bool) (acc : List (TStep n)) (x : Int),i + k = l.length -> acc.length <= i -> AgX [] H Hc -> OwnG (Co.step n) 8 54 H.length vl xs0 Hc b so acc -> (∀ a ∈ acc,(Co.step n).sm a) -> e 0 = .slice av l.length l.length -> e 1 = .int .i64 x -> e 5 = sli b 0 acc.length -> e 6 = .int .i64 i -> W F H.length _ e Hc _ from
  h l.length 0 _ Hb H.length true [] x0 (by omega) (by simp) ht0 ho0 (fun a h => by cases h) (by simp only [go_sem,binC]) (by simp only [go_sem,binC]) (by (simp only [go_sem,binC]) <;> rfl) (by (simp only [go_sem,binC]) <;> rfl)
 intro k
 induction k with
 | zero =>
   intro i e Hc b so acc x hi hacc ht ho hsa e0 e1 e5 e6
   refine lp_step ?_
   refine seq_assoc (seq_reg ?_)
   simp only [go_sem,binC,e0,e6]
   refine seq_cond (t := false) (by simp only [go_sem,binC]; rw [decide_eq_false (by omega)]) ?_
   simp only [go_sem,binC]
   refine seq_exit ?_
   simp only [go_sem,binC,thenX_e,out_e,thenX_n]
   refine seq_reg ?_
   simp only [go_sem,binC,e5]
   exact wpc_ret ⟨Or.inr rfl,_,(by (simp only [go_sem,binC]) <;> rfl),b,so,acc,rfl,ht,ho,⟨by omega,hsa⟩,by omega⟩
 | succ k ihk =>
   intro i e Hc b so acc x hi hacc ht ho hsa e0 e1 e5 e6
   have hil : i < l.length := by omega
   cases n with
   | zero => exact (l[i]).elim
   | succ n =>
   obtain ⟨vb,vo,sk,sx,sa,sbb,sc,sg,tv,ev,tl,el,hav,hs,rg,otv,oev,hgc,htl,hel⟩ := step_atV hv0 hil
   simp only [Value.slice.injEq,and_true] at hav
   subst hav
   have hA := ih n rfl
   have hsmi := hsm.2 _ (List.getElem_mem hil)
   rw [hs] at hsmi
   obtain ⟨_,_,_,_,mtl,mel⟩ := hsmi
   obtain ⟨g1,g2,g3,g4,g5,g6⟩ := rg
   have hbl : b < Hc.length := by obtain ⟨_,_,cs,h,_⟩ := ho; exact (List.getElem?_eq_some_iff.1 h).1
   have hw1 : IntKind.i64.wrap ((i : Int) + 1) = ((i + 1 : Nat) : Int) := by rw [wrap_id (by omega) (by omega)]; omega
   refine lp_step ?_
   refine seq_assoc (seq_reg ?_)
   simp only [go_sem,binC,e0,e6]
   refine seq_cond (t := true) (by simp only [go_sem,binC]; rw [decide_eq_true (by omega)]) ?_
   simp only [go_sem,binC]
   refine seq_skip (seq_block ?_)
   refine seq_reg ?_
   simp only [go_sem,binC,e0,e6,hgc _ ((vwl0 _ _ _).trans (agx_sub ht)),otv,oev]
   refine ⟨⟨by omega,by omega⟩,by have := ht.1; omega,?_⟩
   refine wpc_gen fun H1 hH1 => ?_
   have hB : Cd H vl xs0 n b so acc Hc.length [.int .i64 sk,.int .i64 sx,.int .i64 sa,.int .i64 sbb,.int .i64 sc,.int .i64 sg,tv,ev] H1 := by
    subst hH1
    exact ⟨ht.appN _,ho.sub (AgX.app [] _ _) (by simp) (fun b' h4 h5 h6 h7 => ⟨by simp,by simp only [List.mem_cons,not_or]; exact ⟨by omega,h7⟩⟩),get_new0 _ _,ht.1,hbl,hxs,hvl⟩
   have ho1 : OwnG (Co.step (n + 1)) 8 54 H.length vl xs0 H1 b so acc := by
    subst hH1
    exact ho.sub (AgX.app [] _ _) (by simp) (fun b' h4 h5 h6 h7 => ⟨by simp,h7⟩)
   clear hH1
   refine seq_assoc (seq_reg ?_)
   simp only [go_sem,binC,e1]
   by_cases hx0 : x = 0
   ·simp only [go_sem,binC,beq_t hx0]
    refine seq_cond (t := true) rfl ?_
    simp only [go_sem,binC]
    refine seq_assoc (seq_reg ?_)
    simp only [go_sem,binC]
    refine seq_exit ?_
    simp only [go_sem,binC,out_e,thenX_n]
    refine wpc_reg ?_
    simp only [go_sem,binC,e6,hw1]
    simp only [go_sem,binC,thenX_n]
    exact ihk (i + 1) _ H1 b so acc (-1) (by omega) (by omega) hB.ag ho1 hsa (by simp only [go_sem,binC,e0]) (by simp only [go_sem,binC]) (by simp only [go_sem,binC,e5]) (by simp only [go_sem,binC])
   simp only [go_sem,binC,beq_f hx0]
   refine seq_cond (t := false) rfl ?_
   simp only [go_sem,binC]
   refine seq_skip (seq_regD ?_)
   simp only [go_sem,binC,gc_of hB.box,inBlk_some]
   refine op_callQ (by simp only [go_sem,binC]; exact gc n H1 tv tl (htl.mono ((vwl0 _ _ _).trans (agx_sub hB.ag)))) ?_
   simp only [go_sem,binC,gc_of hB.box,inBlk_some]
   refine op_callQ (by simp only [go_sem,binC]; exact gc n H1 ev el (hel.mono ((vwl0 _ _ _).trans (agx_sub hB.ag)))) ?_
   simp only [go_sem,binC]
   generalize hsz : IntKind.i64.wrap (IntKind.i64.wrap (1 + Wr (cntL n tl)) + Wr (cntL n el)) = sz
   refine wpc_genK fun KK hKK => ?_
   have tail : ∀ (e' : Env) (Hc' : Heap) (cells : List Value) (x' : Int),e' 0 = e 0 -> e' 1 = .int .i64 x' -> e' 5 = e 5 -> e' 6 = e 6 -> e' 7 = ptr Hc.length 0 -> Cd H vl xs0 n b so acc Hc.length cells Hc' -> StC n (vwl vl (b :: Hc.length :: xs0) Hc') cells -> wpc F H.length woApp e' Hc' KK := by
    intro e' Hc' cells x' q0 q1 q5 q6 q7 hB' hS'
    rw [hKK]
    refine woApp_ok hB' (by rw [q5]; exact e5) q7 hS' (Nat.le_refl _) (by omega) fun e7 H7 b7 so7 a7 ⟨f0,f1,f6,f5⟩ x7 o7 s7 => ?_
    simp only [go_sem,binC,out_n,thenX_n]
    refine wpc_reg ?_
    simp only [go_sem,binC,f6,q6,e6,hw1]
    simp only [go_sem,binC,thenX_n]
    refine ihk (i + 1) _ H7 b7 so7 (acc ++ [a7]) x' (by omega) (by simp; omega) x7 o7 (fun a ha => ?_) (by simp only [go_sem,binC,f0,q0,e0]) (by simp only [go_sem,binC,f1,q1]) (by (simp only [go_sem,binC,f5]) <;> (rw [List.length_append]; rfl)) (by simp only [go_sem,binC])
    rcases List.mem_append.1 ha with ha | ha
    ·exact hsa a ha
    ·simp only [List.mem_singleton] at ha; subst ha; exact s7
   have hold : StC n (vwl vl (b :: Hc.length :: xs0) H1) [.int .i64 sk,.int .i64 sx,.int .i64 sa,.int .i64 sbb,.int .i64 sc,.int .i64 sg,tv,ev] :=
    ⟨_,_,_,_,_,_,_,_,tl,el,rfl,⟨g1,g2,g3,g4,g5,g6⟩,htl.mono hB.old,hel.mono hB.old,mtl,mel⟩
   refine seq_assoc (seq_reg ?_)
   simp only [go_sem,binC,e1]
   have hpos : ∀ P : Prop,P -> P := fun _ h => h
   by_cases hgt : 0 < x /\ x < sz
   ·have d1 : decide (0 < x) = true := decide_eq_true hgt.1
    have d2 : decide (x < sz) = true := decide_eq_true hgt.2
    simp only [go_sem,binC,d1,d2,e1]
    refine seq_cond (t := true) rfl ?_
    simp only [go_sem,binC]
    refine seq_assoc (seq_reg ?_)
    simp only [go_sem,binC,gc_of hB.box,inBlk_some]
    refine op_callQ (by simp only [go_sem,binC]; exact gc n H1 tv tl (htl.mono ((vwl0 _ _ _).trans (agx_sub hB.ag)))) ?_
    simp only [go_sem,binC]
    refine seq_assoc (seq_assoc (seq_reg ?_))
    simp only [go_sem,binC,e1]
    by_cases hin : IntKind.i64.wrap (x - 1) < Wr (cntL n tl)
    ·simp only [go_sem,binC,decide_eq_true hin]
     refine seq_cond (t := true) rfl ?_
     simp only [go_sem,binC]
     refine seq_reg ?_
     simp only [go_sem,binC,e1,gc_of hB.box,inBlk_some]
     obtain ⟨b3,so3,l3,H3,k3,x3,o3,m3,n3⟩ := hA H1 tv tl (IntKind.i64.wrap (x - 1)) vl (b :: Hc.length :: xs0) (fun b' hm => by
      have h1 := (List.getElem?_eq_some_iff.1 hB.box).1
      have h2 := hB.ag.1
      simp only [List.mem_cons] at hm
      rcases hm with rfl | rfl | hm
      ·omega
      ·exact h1
      ·have := hxs b' hm; omega) (by have := hB.ag.1; omega) (htl.mono hB.old) mtl
     refine op_callK (by simp only [go_sem,binC]; exact k3) ?_
     have hB3 := hB.grow x3
     simp only [go_sem,binC,hB3.box]
     refine ⟨by have := hB.lo; omega,?_⟩
     have hB4 := hB3.store (cells' := [.int .i64 sk,.int .i64 sx,.int .i64 sa,.int .i64 sbb,.int .i64 sc,.int .i64 sg,sli b3 0 l3.length,ev])
     have hb3l := o3.1
     have hbxl := (List.getElem?_eq_some_iff.1 hB.box).1
     have hbxs := hB.ne
     have hHl := hB.ag.1
     have r3 := (o3.slR (step_w n) (by
      simp only [List.mem_cons,not_or]
      exact ⟨by omega,by omega,fun hm => by have := hxs _ hm; omega⟩)).mono (vwl_sub (AgX.set H3 Hc.length ⟨[.int .i64 sk,.int .i64 sx,.int .i64 sa,.int .i64 sbb,.int .i64 sc,.int .i64 sg,sli b3 0 l3.length,ev],0,0,false,true⟩) (Nat.le_refl _) (fun b' _ _ h => ⟨by simp only [List.mem_cons,not_or,List.not_mem_nil,not_false_eq_true,and_true] at h ⊢; exact h.2.1,h⟩) : Sub (vwl vl (b :: Hc.length :: xs0) H3) (vwl vl (b :: Hc.length :: xs0) _))
     refine seq_reg ?_
     simp only [go_sem,binC]
     exact tail _ _ _ (-1) (by simp only [go_sem,binC]) (by simp only [go_sem,binC]) (by simp only [go_sem,binC]) (by simp only [go_sem,binC]) (by simp only [go_sem,binC]) hB4 ⟨_,_,_,_,_,_,_,_,l3,el,rfl,⟨g1,g2,g3,g4,g5,g6⟩,r3,hel.mono hB4.old,m3,mel⟩
    ·simp only [go_sem,binC,decide_eq_false hin]
     refine seq_cond (t := false) rfl ?_
     simp only [go_sem,binC]
     refine seq_reg ?_
     simp only [go_sem,binC,e1,gc_of hB.box,inBlk_some]
     obtain ⟨b3,so3,l3,H3,k3,x3,o3,m3,n3⟩ := hA H1 ev el (IntKind.i64.wrap (IntKind.i64.wrap (x - 1) - Wr (cntL n tl))) vl (b :: Hc.length :: xs0) (fun b' hm => by
      have h1 := (List.getElem?_eq_some_iff.1 hB.box).1
      have h2 := hB.ag.1
      simp only [List.mem_cons] at hm
      rcases hm with rfl | rfl | hm
      ·omega
      ·exact h1
      ·have := hxs b' hm; omega) (by have := hB.ag.1; omega) (hel.mono hB.old) mel
     refine op_callK (by simp only [go_sem,binC]; exact k3) ?_
     have hB3 := hB.grow x3
     simp only [go_sem,binC,hB3.box]
     refine ⟨by have := hB.lo; omega,?_⟩
     have hB4 := hB3.store (cells' := [.int .i64 sk,.int .i64 sx,.int .i64 sa,.int .i64 sbb,.int .i64 sc,.int .i64 sg,tv,sli b3 0 l3.length])
     have hb3l := o3.1
     have hbxl := (List.getElem?_eq_some_iff.1 hB.box).1
     have hbxs := hB.ne
     have hHl := hB.ag.1
     have r3 := (o3.slR (step_w n) (by
      simp only [List.mem_cons,not_or]
      exact ⟨by omega,by omega,fun hm => by have := hxs _ hm; omega⟩)).mono (vwl_sub (AgX.set H3 Hc.length ⟨[.int .i64 sk,.int .i64 sx,.int .i64 sa,.int .i64 sbb,.int .i64 sc,.int .i64 sg,tv,sli b3 0 l3.length],0,0,false,true⟩) (Nat.le_refl _) (fun b' _ _ h => ⟨by simp only [List.mem_cons,not_or,List.not_mem_nil,not_false_eq_true,and_true] at h ⊢; exact h.2.1,h⟩) : Sub (vwl vl (b :: Hc.length :: xs0) H3) (vwl vl (b :: Hc.length :: xs0) _))
     refine seq_reg ?_
     simp only [go_sem,binC]
     exact tail _ _ _ (-1) (by simp only [go_sem,binC]) (by simp only [go_sem,binC]) (by simp only [go_sem,binC]) (by simp only [go_sem,binC]) (by simp only [go_sem,binC]) hB4 ⟨_,_,_,_,_,_,_,_,tl,l3,rfl,⟨g1,g2,g3,g4,g5,g6⟩,htl.mono hB4.old,r3,mtl,m3⟩
   ·have hno : ∀ K' : Env -> Heap -> Prop,(∀ e',e' 0 = e 0 -> e' 1 = .int .i64 x -> e' 5 = e 5 -> e' 6 = e 6 -> e' 7 = ptr Hc.length 0 -> e' 8 = .int .i64 sz -> K' e' H1) -> True := fun _ _ => trivial
    by_cases d1 : 0 < x
    ·have d2 : ¬ x < sz := fun h => hgt ⟨d1,h⟩
     simp only [go_sem,binC,decide_eq_true d1,decide_eq_false d2,e1]
     refine seq_cond (t := false) rfl ?_
     simp only [go_sem,binC]
     refine seq_assoc (seq_reg ?_)
     simp only [go_sem,binC,e1]
     refine seq_cond (t := true) (by (simp only [go_sem,binC]) <;> (rw [decide_eq_true (by omega)])) ?_
     simp only [go_sem,binC]
     refine seq_reg ?_
     simp only [go_sem,binC,e1]
     exact tail _ _ _ _ (by simp only [go_sem,binC]) (by simp only [go_sem,binC]; rfl) (by simp only [go_sem,binC]) (by simp only [go_sem,binC]) (by simp only [go_sem,binC]) hB hold
    ·simp only [go_sem,binC,decide_eq_false d1]
     refine seq_cond (t := false) rfl ?_
     simp only [go_sem,binC]
     refine seq_assoc (seq_reg ?_)
     simp only [go_sem,binC,e1]
     by_cases d3 : sz <= x
     ·simp only [go_sem,binC,decide_eq_true d3]
      refine seq_cond (t := true) rfl ?_
      simp only [go_sem,binC]
      refine seq_reg ?_
      simp only [go_sem,binC,e1]
      exact tail _ _ _ _ (by simp only [go_sem,binC]) (by simp only [go_sem,binC]; rfl) (by simp only [go_sem,binC]) (by simp only [go_sem,binC]) (by simp only [go_sem,binC]) hB hold
     ·simp only [go_sem,binC,decide_eq_false d3]
      refine seq_cond (t := false) rfl ?_
      simp only [go_sem,binC]
      refine seq_skip ?_
      exact tail _ _ _ x (by simp only [go_sem,binC]) (by simp only [go_sem,binC,e1]) (by simp only [go_sem,binC]) (by simp only [go_sem,binC]) (by simp only [go_sem,binC]) hB hold
theorem sWithout_all {F : Nat -> Option IFn} (hf : F 92 = some c_sWithout) (gc : ∀ n,CntOk F 57 n) : ∀ n,WoOk F 92 n
 | 0 => sWithout_ok hf gc fun m h => by omega
 | n + 1 => sWithout_ok hf gc fun m h => by cases h; exact sWithout_all hf gc n
end Go.Proofs.YtbjeldblaclpnaaGreatI
end
section
set_option linter.unusedVariables false
set_option linter.unusedSimpArgs false
namespace Go.Proofs.YtbjeldblaclpnaaGreatI
open Go Go.RowKit
def c_drFine : IFn := ⟨1,27,[.cell true 2 2],
 .seq (.reg none [⟨some 2,none,.new [(.slice none 0 0),(.slice none 0 0)]⟩])
 (.seq (.reg none [⟨some 7,none,.mov (.t 0)⟩,⟨some 8,none,.call .n (.f 91) [.t 7]⟩,⟨some 3,none,.new [(.slice none 0 0),(.slice none 0 0)]⟩,
   ⟨none,none,.store 2 (.t 3) (.t 8)⟩])
 (.seq (.seq (.reg none [⟨some 4,none,.mov (.c (.int .i64 0))⟩])
  (.block 0 (.loop (.seq (.seq (.reg none [⟨some 9,none,.mov (.t 4)⟩,⟨some 10,none,.bin .lss (.t 9) (.c (.int .i64 6))⟩])
    (.cond (.t 10) (.skip) (.exit 0)))
   (.seq (.block 1 (.seq (.reg none [⟨some 14,none,.load true 2 (.t 3)⟩,⟨some 15,none,.call .q (.f 55) [.t 14]⟩,⟨some 13,none,.mov (.t 15)⟩,
      ⟨some 16,none,.ext (.t 13) 0⟩,⟨some 17,none,.ext (.t 13) 1⟩,⟨some 5,none,.mov (.t 16)⟩,⟨some 6,none,.mov (.t 17)⟩])
    (.seq (.seq (.reg none [⟨some 18,none,.mov (.t 6)⟩,⟨some 19,none,.un .not (.t 18)⟩])
     (.cond (.t 19) (.seq (.reg none [⟨some 20,none,.load true 2 (.t 3)⟩,⟨none,none,.store 2 (.t 2) (.t 20)⟩])
      (.ret)) (.skip)))
    (.reg none [⟨some 21,none,.fad 1 (.t 3)⟩,⟨some 22,none,.load false 1 (.t 21)⟩,⟨some 23,none,.mov (.t 5)⟩,⟨some 24,none,.call .k (.f 92) [.t 22,.t 23]⟩,
     ⟨some 25,none,.fad 1 (.t 3)⟩,⟨none,none,.store 1 (.t 25) (.t 24)⟩]))))
   (.reg none [⟨some 11,none,.mov (.t 4)⟩,⟨some 12,none,.bin .add (.t 11) (.c (.int .i64 1))⟩,⟨some 4,none,.mov (.t 12)⟩]))))))
 (.seq (.reg none [⟨some 26,none,.load true 2 (.t 3)⟩,⟨none,none,.store 2 (.t 2) (.t 26)⟩])
 (.ret))))⟩
theorem drFine_ok {F : Nat -> Option IFn} {f : Nat} (hf : F f = some c_drFine) {H0 : Heap} {rb : Nat} {bv : Value} {code : List Int} (hc : RdC H0 rb bv code) (gpr : DrawS F H0 rb bv 91 [] 40000 (ProgQ 3)) (gwh : WhyOk F 55) (gwo : ∀ n,WoOk F 92 n) : DrawS F H0 rb bv f [] 40000 (ProgQ 3) := by
 refine DrawS.mk hf rfl fun H p lo hs hp hp2 hlo => ?_
 have hl := hs.lt
 refine seq_reg ?_
 simp only [go_sem,binC]
 refine wpc_gen fun H1 hH1 => ?_
 have hs1 : St H0 rb bv p H1 := hH1 ▸ hs.appN hc _
 have ht1 : AgX [rb] H H1 := hH1 ▸ AgX.app [rb] _ _
 have hb1 : H1[H.length]? = some ⟨[nilS,nilS],0,0,false,true⟩ := hH1 ▸ get_new0 _ _
 have hn1 : H1.length = H.length + 1 := by rw [hH1,List.length_append]; rfl
 clear hH1
 refine seq_reg ?_
 simp only [go_sem,binC]
 obtain ⟨v2,H2,p2,k2,x2,s2,c2,lv,sv,ls,l,rfl,hV2⟩ := gpr H1 p lo hs1 hp hp2 hlo
 refine op_callN (by simp only [go_sem,binC]; exact k2) ?_
 have olv : one lv = true := by obtain ⟨⟨_,a,rfl,_⟩,_⟩ := hV2; rfl
 have osv : one sv = true := by obtain ⟨_,⟨_,a,rfl,_⟩,_⟩ := hV2; rfl
 have hl2 := x2.1
 simp only [go_sem,binC,olv,osv]
 refine ⟨by omega,?_⟩
 refine wpc_gen fun H3 hH3 => ?_
 have hne : H.length ≠ rb := by omega
 have hs3 : St H0 rb bv p2 H3 := hH3 ▸ s2.appN hc _
 have ht3 : AgX [rb] H H3 := hH3 ▸ (ht1.tr x2).appN _
 have hb3 : H3[H.length]? = some ⟨[nilS,nilS],0,0,false,true⟩ := by
  have := x2.get hb1 (by simpa using hne)
  rw [hH3,List.getElem?_append_left (List.getElem?_eq_some_iff.1 this).1]
  exact this
 have hbx : H3[H2.length]? = some ⟨[lv,sv],0,0,false,true⟩ := hH3 ▸ get_new0 _ _
 have hV3 : ProgV 3 (vwl H.length [H2.length,H.length] H3) lv sv ls l := by
  subst hH3
  exact hV2.mono (vwl_sub (AgX.app [] H2 _) (by omega) fun b' h1 h2 _ => ⟨by simp,by simp; omega⟩)
 clear hH3 hV2
 refine seq_assoc (seq_reg ?_)
 simp only [go_sem,binC]
 refine seq_block (wpc_loop ?_)
 suffices h : ∀ (k i : Nat) (e : Env) (Hc : Heap) (sv : Value) (l : List (TStep 3)),i + k = 6 -> St H0 rb bv p2 Hc -> AgX [rb] H Hc -> Hc[H.length]? = some ⟨[nilS,nilS],0,0,false,true⟩ -> Hc[H2.length]? = some ⟨[lv,sv],0,0,false,true⟩ -> ProgV 3 (vwl H.length [H2.length,H.length] Hc) lv sv ls l ->
   e 2 = ptr H.length 0 -> e 3 = ptr H2.length 0 -> e 4 = .int .i64 i -> W F lo _ e Hc _ from
  h 6 0 _ H3 sv l rfl hs3 ht3 hb3 hbx hV3 (by simp only [go_sem,binC]) (by simp only [go_sem,binC]) (by (simp only [go_sem,binC]) <;> rfl)
 intro k
 induction k with
 | zero =>
   intro i e Hc sv l hik hsc htc htwo hbox hV e2 e3 e4
   refine lp_step ?_
   refine seq_assoc (seq_reg ?_)
   simp only [go_sem,binC,e4]
   refine seq_cond (t := false) (by simp only [go_sem,binC]; rw [decide_eq_false (by omega)]) ?_
   simp only [go_sem,binC]
   refine seq_exit ?_
   simp only [go_sem,binC,thenX_e,out_e,thenX_n]
   refine seq_reg ?_
   have osv : one sv = true := by obtain ⟨_,⟨_,a,rfl,_⟩,_⟩ := hV; rfl
   simp only [go_sem,binC,e2,e3,gc_of hbox,inBlk_some,htwo,olv,osv]
   refine ⟨by omega,?_⟩
   have h2l := (List.getElem?_eq_some_iff.1 htwo).1
   exact wpc_ret ⟨Or.inr rfl,_,(by (simp only [go_sem,binC,e2,gc_set h2l]) <;> rfl),p2,htc.setN (Nat.le_refl _) _,hsc.setN hc hl _,by omega,_,_,ls,l,rfl,hV.mono (vwl_sub (AgX.set _ _ _) (Nat.le_refl _) fun b' _ h5 h6 => ⟨by simp only [List.mem_cons,not_or,List.not_mem_nil,not_false_eq_true,and_true] at h6 ⊢; exact h6.2,by simp⟩)⟩
 | succ k ih =>
   intro i e Hc sv l hik hsc htc htwo hbox hV e2 e3 e4
   have osv : one sv = true := by obtain ⟨_,⟨_,a,rfl,_⟩,_⟩ := hV; rfl
   have hV0 : ProgV 3 (vw 0 Hc) lv sv ls l := hV.mono (vwl0 _ _ _)
   have hw1 : IntKind.i64.wrap ((i : Int) + 1) = ((i + 1 : Nat) : Int) := by rw [wrap_id (by omega) (by omega)]; omega
   refine lp_step ?_
   refine seq_assoc (seq_reg ?_)
   simp only [go_sem,binC,e4]
   refine seq_cond (t := true) (by simp only [go_sem,binC]; rw [decide_eq_true (by omega)]) ?_
   simp only [go_sem,binC]
   refine seq_skip (seq_block ?_)
   refine seq_reg ?_
   simp only [go_sem,binC,e3,gc_of hbox,inBlk_some]
   obtain ⟨wi,wt,kw⟩ := gwh Hc 3 lv sv ls l hV0.1 hV0.2.1 hV0.2.2.1
   refine op_callQ (by simp only [go_sem,binC]; exact kw) ?_
   simp only [go_sem,binC]
   refine seq_assoc (seq_reg ?_)
   simp only [go_sem,binC]
   cases wt with
   | false =>
     refine seq_cond (t := true) rfl ?_
     simp only [go_sem,binC]
     refine seq_assoc (seq_reg ?_)
     simp only [go_sem,binC,e2,e3,gc_of hbox,inBlk_some,htwo,olv,osv]
     refine ⟨by omega,?_⟩
     refine seq_ret ?_
     simp only [go_sem,binC,out_r,thenX_r]
     have h2l := (List.getElem?_eq_some_iff.1 htwo).1
     exact ⟨Or.inr rfl,_,(by (simp only [go_sem,binC,e2,gc_set h2l]) <;> rfl),p2,htc.setN (Nat.le_refl _) _,hsc.setN hc hl _,by omega,_,_,ls,l,rfl,hV.mono (vwl_sub (AgX.set _ _ _) (Nat.le_refl _) fun b' _ h5 h6 => ⟨by simp only [List.mem_cons,not_or,List.not_mem_nil,not_false_eq_true,and_true] at h6 ⊢; exact h6.2,by simp⟩)⟩
   | true =>
     refine seq_cond (t := false) rfl ?_
     simp only [go_sem,binC]
     refine seq_skip (wpc_reg ?_)
     simp only [go_sem,binC,e3,gc_of hbox,inBlk_some]
     have hbl := (List.getElem?_eq_some_iff.1 hbox).1
     have hHl := htc.1
     obtain ⟨b5,so5,l5,H5,k5,x5,o5,m5,n5⟩ := gwo 3 Hc sv l wi H.length [H2.length,H.length] (by
      intro b' hb'
      simp only [List.mem_cons,List.not_mem_nil,or_false] at hb'
      rcases hb' with rfl | rfl
      ·exact hbl
      ·have := (List.getElem?_eq_some_iff.1 htwo).1; omega) hHl hV.2.1 hV.2.2.1.2
     refine op_callK (by simp only [go_sem,binC]; exact k5) ?_
     have hbox5 := x5.get hbox (by simp)
     simp only [go_sem,binC,e3,hbox5]
     refine ⟨by omega,?_⟩
     simp only [go_sem,binC,out_n,thenX_n]
     refine wpc_reg ?_
     simp only [go_sem,binC,e4,hw1]
     simp only [go_sem,binC,thenX_n]
     have hb5l := o5.1
     have h2l := (List.getElem?_eq_some_iff.1 htwo).1
     have ht5 : AgX [rb] H H5 := htc.trans x5 (fun _ h _ => h) (fun b' h1 _ => by cases h1)
     have hview : Sub (vwl H.length [H2.length,H.length] H5) (vwl H.length [H2.length,H.length] (H5.set H2.length ⟨[lv,sli b5 0 l5.length],0,0,false,true⟩)) := vwl_sub (AgX.set _ _ _) (Nat.le_refl _) fun b' _ h5 h6 => ⟨by simp only [List.mem_cons,not_or,List.not_mem_nil,not_false_eq_true,and_true] at h6 ⊢; exact h6.1,h6⟩
     have hsv5 := (o5.slR (step_w 3) (by simp; omega)).mono hview
     have hlv5 := (hV.1.mono (vwl_sub x5 (Nat.le_refl _) fun b' _ _ h => ⟨by simp,h⟩ : Sub (vwl H.length [H2.length,H.length] Hc) (vwl H.length [H2.length,H.length] H5))).mono hview
     exact ih (i + 1) _ _ (sli b5 0 l5.length) l5 (by omega) ((hsc.mono hc x5 (fun _ h => by cases h)).setN hc (by omega) _) (ht5.setN (by omega) _) (by rw [List.getElem?_set_ne (by omega)]; exact x5.get htwo (by simp)) (List.getElem?_set_self (List.getElem?_eq_some_iff.1 hbox5).1) ⟨hlv5,hsv5,⟨hV.2.2.1.1,m5⟩,hV.2.2.2.1,hV.2.2.2.2.1,by have := hV.2.2.2.2.2; omega⟩ (by simp only [go_sem,binC,e2]) (by simp only [go_sem,binC,e3]) (by simp only [go_sem,binC])
end Go.Proofs.YtbjeldblaclpnaaGreatI
end
section
set_option linter.unusedVariables false
set_option linter.unusedSimpArgs false
namespace Go.Proofs.YtbjeldblaclpnaaGreatI
open Go Go.RowKit
structure Be (H0 : Heap) (rb : Nat) (bv : Value) (H : Heap) (d bl bs : Nat) (sol sos : Bool) (ls : List (Int × Int)) (l : List (TStep (d + 1))) (b5 : Nat) (p : Int) (Hc : Heap) : Prop where
 st : St H0 rb bv p Hc
 ag : AgX [rb] H Hc
 two : Hc[H.length + 1]? = some ⟨[nilS,nilS],0,0,false,true⟩
 box : Hc[b5]? = some ⟨[sli bl 0 ls.length,sli bs 0 l.length],0,0,false,true⟩
 lab : OwnL Co.p2 2 57 H.length [] Hc bl sol ls
 stp : OwnL (Co.step (d + 1)) 8 54 H.length [bl,b5,H.length + 1] Hc bs sos l
 sm : ∀ a ∈ l,(Co.step (d + 1)).sm a
 ne : ls ≠ []
 len : ls.length <= 500 /\ l.length <= 500
 lo : H.length + 1 < bl /\ H.length + 1 < b5 /\ H.length + 1 < bs /\ bl ≠ b5 /\ bs ≠ b5 /\ bs ≠ bl
 rbl : rb < H.length
theorem OwnG.p2 {es et lo vl vl' : Nat} {xs xs' ys : List Nat} {H H' : Heap} {b : Nat} {so : Bool} {l : List (Int × Int)} (h : OwnG Co.p2 es et lo vl xs H b so l) (hx : AgX ys H H') (hb : b ∉ ys) : OwnG Co.p2 es et lo vl' xs' H' b so l := by
 obtain ⟨h3,h4,cs,h5,h6,h7⟩ := h
 exact ⟨h3,h4,cs,hx.get h5 hb,h6,h7⟩
section
variable {H0 : Heap} {rb : Nat} {bv : Value} {code : List Int} {H : Heap} {d bl bs : Nat} {sol sos so' : Bool} {ls : List (Int × Int)} {l : List (TStep (d + 1))} {b5 : Nat} {p q : Int} {Hc Hc' H' : Heap}
theorem Be.lts (h : Be H0 rb bv H d bl bs sol sos ls l b5 p Hc) : bl < Hc.length /\ bs < Hc.length /\ b5 < Hc.length := by
 refine ⟨?_,?_,(List.getElem?_eq_some_iff.1 h.box).1⟩
 ·obtain ⟨_,_,cs,h,_⟩ := h.lab; exact (List.getElem?_eq_some_iff.1 h).1
 ·obtain ⟨_,_,cs,h,_⟩ := h.stp; exact (List.getElem?_eq_some_iff.1 h).1
theorem Be.draw (h : Be H0 rb bv H d bl bs sol sos ls l b5 p Hc) (hx : AgX [rb] Hc Hc') (hs : St H0 rb bv q Hc') : Be H0 rb bv H d bl bs sol sos ls l b5 q Hc' := by
 have h1 := h.rbl
 obtain ⟨l1,l2,l3,l4,l5,l6⟩ := h.lo
 exact ⟨hs,h.ag.tr hx,hx.get h.two (by simp; omega),hx.get h.box (by simp; omega),h.lab.sub hx (by simp; omega) (fun b' _ h5 _ _ => ⟨by simp; omega,by simp⟩),h.stp.sub hx (by simp; omega) (fun b' _ h5 _ h7 => ⟨by simp; omega,h7⟩),h.sm,h.ne,h.len,h.lo,h1⟩
theorem Be.grow (hc : RdC H0 rb bv code) (h : Be H0 rb bv H d bl bs sol sos ls l b5 p Hc) (L : Heap) : Be H0 rb bv H d bl bs sol sos ls l b5 p (Hc ++ L) :=
 h.draw (AgX.app [rb] _ _) (h.st.appN hc _)
theorem Be.step (hc : RdC H0 rb bv code) (h : Be H0 rb bv H d bl bs sol sos ls l b5 p Hc) {a : TStep (d + 1)} (hx : AgX [bs] Hc H') (ho : OwnL (Co.step (d + 1)) 8 54 H.length [bl,b5,H.length + 1] H' (Hc.length + 1) so' (l ++ [a])) (ha : (Co.step (d + 1)).sm a) (hl : l.length < 400) :
  Be H0 rb bv H d bl (Hc.length + 1) sol so' ls (l ++ [a]) b5 p (H'.set b5 ⟨[sli bl 0 ls.length,sli (Hc.length + 1) 0 (l.length + 1)],0,0,false,true⟩) := by
 have h1 := h.rbl
 obtain ⟨l1,l2,l3,l4,l5,l6⟩ := h.lo
 obtain ⟨t1,t2,t3⟩ := h.lts
 have hbox := hx.get h.box (by simp; omega)
 have hs' : St H0 rb bv p H' := h.st.mono hc hx (fun b' hm => by simp only [List.mem_singleton] at hm; omega)
 refine ⟨hs'.setN hc (by omega) _,(h.ag.trans hx (fun _ h _ => h) (fun b' h2 h3 => by simp only [List.mem_singleton] at h2; omega)).setN (by omega) _,?_,?_,?_,?_,?_,h.ne,?_,?_,h1⟩
 ·rw [List.getElem?_set_ne (by omega)]
  exact hx.get h.two (by simp; omega)
 ·rw [List.getElem?_set_self (List.getElem?_eq_some_iff.1 hbox).1,List.length_append]
  rfl
 ·have hl1 : OwnL Co.p2 2 57 H.length [] H' bl sol ls := h.lab.p2 hx (by simp; omega)
  exact hl1.p2 (AgX.set _ _ _) (by simp; omega)
 ·exact ho.sub (AgX.set _ _ _) (by simp; omega) (fun b' h2 h3 h4 h5 => ⟨by simp only [List.mem_cons,not_or,List.not_mem_nil,not_false_eq_true,and_true] at h5 ⊢; exact h5.2.1,h5⟩)
 ·intro x hx
  rcases List.mem_append.1 hx with hx | hx
  ·exact h.sm x hx
  ·simp only [List.mem_singleton] at hx; subst hx; exact ha
 ·rw [List.length_append,List.length_singleton]
  have := h.len
  omega
 ·exact ⟨l1,l2,by omega,l4,by omega,by omega⟩
end
end Go.Proofs.YtbjeldblaclpnaaGreatI
end
section
set_option linter.unusedVariables false
set_option linter.unusedSimpArgs false
namespace Go.Proofs.YtbjeldblaclpnaaGreatI
open Go Go.RowKit
theorem rg0 : Rg 0 := by unfold Rg; omega
theorem rgk {k : Int} (h : 0 <= k /\ k <= 100 := by omega) : Rg k := by unfold Rg; omega
def mkSt (d : Nat) (k x a b c h : Int) (tl el : List (TStep d)) : TStep (d + 1) := (k,x,(a,b,c),h,tl,el)
theorem mkSt_rd {d : Nat} {V : Vw} {k x a b c h : Int} {tv ev : Value} {tl el : List (TStep d)} (rk : Rg k) (rx : Rg x) (ra : Rg a) (rb : Rg b) (rc : Rg c) (rh : Rg h) (htl : SlR (Co.step d) V tv tl) (hel : SlR (Co.step d) V ev el) :
  (Co.step (d + 1)).rd V [.int .i64 k,.int .i64 x,.int .i64 a,.int .i64 b,.int .i64 c,.int .i64 h,tv,ev] (mkSt d k x a b c h tl el) := step_rd rk rx ra rb rc rh htl hel
theorem mkSt_sm {d : Nat} {k x a b c h : Int} {tl el : List (TStep d)} (mtl : (Co.sl (Co.step d)).sm tl) (mel : (Co.sl (Co.step d)).sm el) : (Co.step (d + 1)).sm (mkSt d k x a b c h tl el) := step_smM mtl mel
end Go.Proofs.YtbjeldblaclpnaaGreatI
end
section
set_option linter.unusedVariables false
set_option linter.unusedSimpArgs false
namespace Go.Proofs.YtbjeldblaclpnaaGreatI
open Go Go.RowKit
section
variable {H0 : Heap} {rb : Nat} {bv : Value} {code : List Int} {H : Heap} {d bl bs : Nat} {sol sos so' : Bool} {ls : List (Int × Int)} {l : List (TStep (d + 1))} {b5 : Nat} {p q : Int} {Hc Hc' H' : Heap}
theorem Be.wrap (hc : RdC H0 rb bv code) (h : Be H0 rb bv H d bl bs sol sos ls l b5 p Hc) :
  Be H0 rb bv H (d + 1) bl Hc.length sol true ls [mkSt (d + 1) 2 0 0 0 0 0 l []] b5 p ((Hc ++ ([⟨[.int .i64 2,.int .i64 0,.int .i64 0,.int .i64 0,.int .i64 0,.int .i64 0,sli bs 0 l.length,nilS],8,54,true,true⟩] : Heap)).set b5 ⟨[sli bl 0 ls.length,sli Hc.length 0 1],0,0,false,true⟩) := by
 have h1 := h.rbl
 obtain ⟨l1,l2,l3,l4,l5,l6⟩ := h.lo
 obtain ⟨t1,t2,t3⟩ := h.lts
 have hg := h.grow hc ([⟨[.int .i64 2,.int .i64 0,.int .i64 0,.int .i64 0,.int .i64 0,.int .i64 0,sli bs 0 l.length,nilS],8,54,true,true⟩] : Heap)
 have hbl := (List.getElem?_eq_some_iff.1 hg.box).1
 have hsl := (h.stp.slR (step_w _) (by simp; omega)).mono (vwl_sub (AgX.app [] Hc ([⟨[.int .i64 2,.int .i64 0,.int .i64 0,.int .i64 0,.int .i64 0,.int .i64 0,sli bs 0 l.length,nilS],8,54,true,true⟩] : Heap)) (Nat.le_refl _) (xs' := [Hc.length,bl,b5,H.length + 1]) fun b' h2 h3 h4 => ⟨by simp,by simp only [List.mem_cons,not_or] at h4 ⊢; exact ⟨by omega,h4⟩⟩)
 have hsm := h.sm
 have hlen := h.len
 refine ⟨hg.st.setN hc (by omega) _,hg.ag.setN (by omega) _,?_,List.getElem?_set_self hbl,hg.lab.p2 (AgX.set _ _ _) (by simp; omega),?_,?_,h.ne,⟨hlen.1,by simp⟩,⟨l1,l2,by omega,l4,by omega,by omega⟩,h1⟩
 ·rw [List.getElem?_set_ne (by omega)]
  exact hg.two
 ·refine OwnG.sub (xs := [bl,b5,H.length + 1]) (H := Hc ++ ([⟨[.int .i64 2,.int .i64 0,.int .i64 0,.int .i64 0,.int .i64 0,.int .i64 0,sli bs 0 l.length,nilS],8,54,true,true⟩] : Heap)) ⟨by omega,by simp,_,get_new0 _ _,by simp,fun i hi => ?_⟩ (AgX.set _ _ _) (by simp; omega) (fun b' h2 h3 h4 h5 => ⟨by simp only [List.mem_cons,not_or,List.not_mem_nil,not_false_eq_true,and_true] at h5 ⊢; exact h5.2.1,h5⟩)
  obtain rfl : i = 0 := by simpa using hi
  exact mkSt_rd (rgk (k := 2)) rg0 rg0 rg0 rg0 rg0 hsl (slr_nil _ _)
 ·intro a ha
  simp only [List.mem_singleton] at ha
  subst ha
  exact mkSt_sm ⟨by omega,hsm⟩ (sm_nil _)
theorem Be.first (hc : RdC H0 rb bv code) (h : Be H0 rb bv H d bl bs sol sos ls l b5 p Hc) : ∃ cs es et,Hc[bl]? = some ⟨cs,es,et,true,sol⟩ /\ 1 <= cs.length /\ ∃ ls',ls'.length = ls.length /\ Be H0 rb bv H d bl bs sol sos ls' l b5 p (Hc.set bl ⟨cs.set 0 (.int .i64 8),es,et,true,sol⟩) := by
 have h1 := h.rbl
 have hag := h.ag
 obtain ⟨l1,l2,l3,l4,l5,l6⟩ := h.lo
 obtain ⟨t1,t2,t3⟩ := h.lts
 obtain ⟨q1,q2,cs,q3,q4,q5⟩ := h.lab
 obtain ⟨a,r,rfl⟩ : ∃ a r,ls = a :: r := by
  cases ls with
  | nil => exact absurd rfl h.ne
  | cons a r => exact ⟨a,r,rfl⟩
 have hcl : 2 <= cs.length := by rw [q4,List.length_cons]; omega
 have hlen := h.len
 refine ⟨cs,2,57,q3,by omega,(8,a.2) :: r,by simp,?_⟩
 refine ⟨h.st.setN hc (by omega) _,h.ag.setN (by omega) _,?_,?_,⟨q1,by simpa using q2,cs.set 0 (.int .i64 8),List.getElem?_set_self t1,by simpa using q4,?_⟩,h.stp.sub (AgX.set _ _ _) (by simp; omega) (fun c h3 h4 h5 h6 => ⟨by simp only [List.mem_cons,not_or,List.not_mem_nil,not_false_eq_true,and_true] at h6 ⊢; exact h6.1,h6⟩),h.sm,by simp,⟨by simpa using hlen.1,hlen.2⟩,h.lo,h1⟩
 ·rw [List.getElem?_set_ne (by omega)]; exact h.two
 ·rw [List.getElem?_set_ne (by omega)]
  exact h.box
 ·intro i hi
  cases i with
  | zero =>
    obtain ⟨x1,y1,e1,⟨rfl,_⟩,⟨rfl,hy⟩⟩ := q5 0 (by simp)
    obtain ⟨c0,c1,cr,rfl⟩ : ∃ c0 c1 cr,cs = c0 :: c1 :: cr := by
     match cs,hcl with
     | c0 :: c1 :: cr,_ => exact ⟨c0,c1,cr,rfl⟩
    simp only [Nat.zero_mul,List.drop_zero,List.take_succ_cons,List.take_zero,List.cons_append,List.nil_append,List.cons.injEq,and_true,List.getElem_cons_zero] at e1
    obtain ⟨_,e2⟩ := e1
    refine ⟨[.int .i64 8],[.int .i64 a.2],?_,⟨rfl,by simp⟩,⟨rfl,hy⟩⟩
    simp [e2]
  | succ i =>
    have hq := q5 (i + 1) (by simpa using hi)
    have e1 : (cs.set 0 (.int .i64 8)).drop ((i + 1) * 2) = cs.drop ((i + 1) * 2) := by
     rw [List.drop_set_of_lt]
     omega
    rw [e1]
    exact hq
end
end Go.Proofs.YtbjeldblaclpnaaGreatI
end
section
set_option linter.unusedVariables false
set_option linter.unusedSimpArgs false
namespace Go.Proofs.YtbjeldblaclpnaaGreatI
open Go Go.RowKit
end Go.Proofs.YtbjeldblaclpnaaGreatI
end
section
set_option linter.unusedVariables false
set_option linter.unusedSimpArgs false
namespace Go.Proofs.YtbjeldblaclpnaaGreatI
open Go Go.RowKit
end Go.Proofs.YtbjeldblaclpnaaGreatI
end
section
set_option linter.unusedVariables false
set_option linter.unusedSimpArgs false
namespace Go.Proofs.YtbjeldblaclpnaaGreatI
open Go Go.RowKit
section
variable (F : Nat -> Option IFn) (lo : Nat) (e : Env) (H : Heap)
theorem runs_undef {d : Option Nat} {op : IOp} {g : Nat} {w : Bool} (hg : e g = undef) : IOper.runs ⟨d,some (g,w),op⟩ e = false := by
 simp [IOper.runs,hg,undef]
@[go_sem] theorem wpo_offU (d : Option Nat) (op : IOp) (r : List IOper) (K : Env -> Heap -> Prop) (g : Nat) (w : Bool) (hg : e g = undef) : wpo F lo (⟨d,some (g,w),op⟩ :: r) e H K = wpo F lo r (putE e d undef) H K :=
 propext ⟨fun h => h.2 (runs_undef e hg),fun h => ⟨fun h' => (by rw [runs_undef e hg] at h'; cases h'),fun _ => h⟩⟩
@[go_sem] theorem wpp_offU (p : Nat) (d : Option Nat) (op : IOp) (r : List IOper) (K : Env -> Heap -> Prop) (g : Nat) (w : Bool) (hg : e g = undef) : wpp F lo (p + 1) (⟨d,some (g,w),op⟩ :: r) e H K = wpp F lo p r (putE e d undef) H K :=
 propext ⟨fun h => h.2 (runs_undef e hg),fun h => ⟨fun h' => (by rw [runs_undef e hg] at h'; cases h'),fun _ => h⟩⟩
end
end Go.Proofs.YtbjeldblaclpnaaGreatI
end
section
set_option linter.unusedVariables false
set_option linter.unusedSimpArgs false
namespace Go.Proofs.YtbjeldblaclpnaaGreatI
open Go Go.RowKit
attribute [local irreducible] optP wpo wpp wpc binI Kc Kp wpOp thenX eqsV
def Same (e e1 : Env) : Prop := e1 2 = e 2 /\ e1 3 = e 3 /\ e1 8 = e 8 /\ e1 10 = e 10 /\ e1 11 = e 11 /\ e1 12 = e 12
theorem Same.refl (e : Env) : Same e e := ⟨rfl,rfl,rfl,rfl,rfl,rfl⟩
theorem Same.trans {e e1 e2 : Env} (h : Same e e1) (h' : Same e1 e2) : Same e e2 :=
 ⟨h'.1.trans h.1,h'.2.1.trans h.2.1,h'.2.2.1.trans h.2.2.1,h'.2.2.2.1.trans h.2.2.2.1,h'.2.2.2.2.1.trans h.2.2.2.2.1,h'.2.2.2.2.2.trans h.2.2.2.2.2⟩
theorem seg1 {F : Nat -> Option IFn} {lo : Nat} {H : Heap} {e : Env} {r : List IOper} {K : Env -> Heap -> Prop} {c : Nat}  {m : Nat} (g1 : VarOk F 89) {v0 v1 : Value} {p : TProg m} {b : Nat} {d a1 : Int} (hp : Rd (Co.prog m) true (vw 0 H) (.agg #[v0,v1]) p) (e2 : e 2 = .int .i64 d) (e3 : e 3 = ptr b 0) (e8 : e 8 = ptr c 0) (gb : getCells H b 0 2 = some [v0,v1]) (gc1 : getCells H c 1 1 = some [.int .i64 a1]) (hK : ∀ e1,Same e e1 -> e1 24 = .bool (decide (d < 1) || !varB p.1.length a1) -> wpo F lo r e1 H K) : wpo F lo (⟨some 16,none,.mov (.t 2)⟩ :: ⟨some 17,none,.bin .lss (.t 16) (.c (.int .i64 1))⟩ :: ⟨some 18,none,.mov (.t 17)⟩ :: ⟨some 19,some (18,false),.load true 2 (.t 3)⟩ :: ⟨some 20,some (18,false),.fad 1 (.t 8)⟩ :: ⟨some 21,some (18,false),.load false 1 (.t 20)⟩ :: ⟨some 22,some (18,false),.call .q (.f 89) [.t 19,.t 21]⟩ :: ⟨some 23,some (18,false),.un .not (.t 22)⟩ :: ⟨some 24,none,.pick (.t 18) (.c (.bool true)) (.t 23)⟩ :: r) e H K := by
 repeat' (first
  | refine seq_assoc ?_
  | refine seq_reg ?_
  | refine seq_skip ?_
  | refine seq_regD ?_
  | refine seq_cond (t := true) rfl ?_
  | refine seq_cond (t := false) rfl ?_
  | refine wpc_cond (t := true) rfl ?_
  | refine wpc_cond (t := false) rfl ?_
  | refine seq_block ?_
  | refine wpc_block ?_
  | refine seq_ret ?_
  | refine wpc_ret ?_
  | refine wpc_reg ?_
  | refine wpc_regD ?_
  | refine wpc_skip ?_
  | refine fin_t rfl ?_
  | refine seq_exit ?_
  | refine wpc_exit ?_
  | refine eqs_rule (fun _ => ?_) (fun _ => ?_)
  | refine cmp_lss (fun _ => ?_) (fun _ => ?_)
  | refine cmp_leq (fun _ => ?_) (fun _ => ?_)
  | refine cmp_gtr (fun _ => ?_) (fun _ => ?_)
  | refine cmp_geq (fun _ => ?_) (fun _ => ?_)
  | refine cmp_eql (fun _ => ?_) (fun _ => ?_)
  | refine cmp_neq (fun _ => ?_) (fun _ => ?_)
  | (refine op_callB (by simp only [go_sem,out_n,out_r,out_e,thenX_n,thenX_r,thenX_e,e2,e3,e8,gb,gc1]; exact g1 _ m _ p _ hp) (fun _ => ?_) (fun _ => ?_))
  | simp only [go_sem,out_n,out_r,out_e,thenX_n,thenX_r,thenX_e,e2,e3,e8,gb,gc1]
  )
 all_goals (refine hK _ ?_ ?_ <;> first | exact ⟨by simp only [go_sem,binC],by simp only [go_sem,binC],by simp only [go_sem,binC],by simp only [go_sem,binC],by simp only [go_sem,binC],by simp only [go_sem,binC]⟩ | (simp only [go_sem,binC]; simp [*]; done) | (simp only [go_sem,binC]; simp_all; done))
theorem seg2 {F : Nat -> Option IFn} {lo : Nat} {H : Heap} {e : Env} {r : List IOper} {K : Env -> Heap -> Prop} {c : Nat}  {t : Bool} {a0 a2 a3 a4 : Int} (e24 : e 24 = .bool t) (e8 : e 8 = ptr c 0) (gc0 : getCells H c 0 1 = some [.int .i64 a0]) (gc2 : getCells H c 2 3 = some [.int .i64 a2,.int .i64 a3,.int .i64 a4]) (hK : ∀ e1,Same e e1 -> e1 35 = .bool (t || (!decide (a0 = 1) && !decide ((a2,a3,a4) = (0,0,0)))) -> wpo F lo r e1 H K) : wpo F lo (⟨some 25,none,.mov (.t 24)⟩ :: ⟨some 26,some (25,false),.fad 0 (.t 8)⟩ :: ⟨some 27,some (25,false),.load false 1 (.t 26)⟩ :: ⟨some 28,some (25,false),.bin .neq (.t 27) (.c (.int .i64 1))⟩ :: ⟨some 29,some (25,false),.mov (.t 28)⟩ :: ⟨some 30,some (29,true),.fad 2 (.t 8)⟩ :: ⟨some 31,some (29,true),.load true 3 (.t 30)⟩ :: ⟨some 32,some (29,true),.build [(.int .i64 0),(.int .i64 0),(.int .i64 0)] []⟩ :: ⟨some 33,some (29,true),.eqs true 3 (.t 31) (.t 32)⟩ :: ⟨some 34,some (25,false),.pick (.t 29) (.t 33) (.c (.bool false))⟩ :: ⟨some 35,none,.pick (.t 25) (.c (.bool true)) (.t 34)⟩ :: r) e H K := by
 cases t
 all_goals skip
 repeat' (first
  | refine seq_assoc ?_
  | refine seq_reg ?_
  | refine seq_skip ?_
  | refine seq_regD ?_
  | refine seq_cond (t := true) rfl ?_
  | refine seq_cond (t := false) rfl ?_
  | refine wpc_cond (t := true) rfl ?_
  | refine wpc_cond (t := false) rfl ?_
  | refine seq_block ?_
  | refine wpc_block ?_
  | refine seq_ret ?_
  | refine wpc_ret ?_
  | refine wpc_reg ?_
  | refine wpc_regD ?_
  | refine wpc_skip ?_
  | refine fin_t rfl ?_
  | refine seq_exit ?_
  | refine wpc_exit ?_
  | refine eqs_rule (fun _ => ?_) (fun _ => ?_)
  | refine cmp_lss (fun _ => ?_) (fun _ => ?_)
  | refine cmp_leq (fun _ => ?_) (fun _ => ?_)
  | refine cmp_gtr (fun _ => ?_) (fun _ => ?_)
  | refine cmp_geq (fun _ => ?_) (fun _ => ?_)
  | refine cmp_eql (fun _ => ?_) (fun _ => ?_)
  | refine cmp_neq (fun _ => ?_) (fun _ => ?_)
  | simp only [go_sem,out_n,out_r,out_e,thenX_n,thenX_r,thenX_e,e24,e8,gc0,gc2]
  )
 all_goals (refine hK _ ?_ ?_ <;> first | exact ⟨by simp only [go_sem,binC],by simp only [go_sem,binC],by simp only [go_sem,binC],by simp only [go_sem,binC],by simp only [go_sem,binC],by simp only [go_sem,binC]⟩ | (simp only [go_sem,binC]; simp [*]; done) | (simp only [go_sem,binC]; simp_all; done))
theorem seg3 {F : Nat -> Option IFn} {lo : Nat} {H : Heap} {e : Env} {r : List IOper} {K : Env -> Heap -> Prop} {c : Nat}  {t : Bool} {a0 a5 : Int} (e35 : e 35 = .bool t) (e8 : e 8 = ptr c 0) (gc0 : getCells H c 0 1 = some [.int .i64 a0]) (gc5 : getCells H c 5 1 = some [.int .i64 a5]) (hK : ∀ e1,Same e e1 -> e1 45 = .bool (t || (!decide (a0 = 3) && !decide (a5 = 0))) -> wpo F lo r e1 H K) : wpo F lo (⟨some 36,none,.mov (.t 35)⟩ :: ⟨some 37,some (36,false),.fad 0 (.t 8)⟩ :: ⟨some 38,some (36,false),.load false 1 (.t 37)⟩ :: ⟨some 39,some (36,false),.bin .neq (.t 38) (.c (.int .i64 3))⟩ :: ⟨some 40,some (36,false),.mov (.t 39)⟩ :: ⟨some 41,some (40,true),.fad 5 (.t 8)⟩ :: ⟨some 42,some (40,true),.load false 1 (.t 41)⟩ :: ⟨some 43,some (40,true),.bin .neq (.t 42) (.c (.int .i64 0))⟩ :: ⟨some 44,some (36,false),.pick (.t 40) (.t 43) (.c (.bool false))⟩ :: ⟨some 45,none,.pick (.t 36) (.c (.bool true)) (.t 44)⟩ :: r) e H K := by
 cases t
 all_goals skip
 repeat' (first
  | refine seq_assoc ?_
  | refine seq_reg ?_
  | refine seq_skip ?_
  | refine seq_regD ?_
  | refine seq_cond (t := true) rfl ?_
  | refine seq_cond (t := false) rfl ?_
  | refine wpc_cond (t := true) rfl ?_
  | refine wpc_cond (t := false) rfl ?_
  | refine seq_block ?_
  | refine wpc_block ?_
  | refine seq_ret ?_
  | refine wpc_ret ?_
  | refine wpc_reg ?_
  | refine wpc_regD ?_
  | refine wpc_skip ?_
  | refine fin_t rfl ?_
  | refine seq_exit ?_
  | refine wpc_exit ?_
  | refine eqs_rule (fun _ => ?_) (fun _ => ?_)
  | refine cmp_lss (fun _ => ?_) (fun _ => ?_)
  | refine cmp_leq (fun _ => ?_) (fun _ => ?_)
  | refine cmp_gtr (fun _ => ?_) (fun _ => ?_)
  | refine cmp_geq (fun _ => ?_) (fun _ => ?_)
  | refine cmp_eql (fun _ => ?_) (fun _ => ?_)
  | refine cmp_neq (fun _ => ?_) (fun _ => ?_)
  | simp only [go_sem,out_n,out_r,out_e,thenX_n,thenX_r,thenX_e,e35,e8,gc0,gc5]
  )
 all_goals (refine hK _ ?_ ?_ <;> first | exact ⟨by simp only [go_sem,binC],by simp only [go_sem,binC],by simp only [go_sem,binC],by simp only [go_sem,binC],by simp only [go_sem,binC],by simp only [go_sem,binC]⟩ | (simp only [go_sem,binC]; simp [*]; done) | (simp only [go_sem,binC]; simp_all; done))
theorem seg4 {F : Nat -> Option IFn} {lo : Nat} {H : Heap} {e : Env} {r : List IOper} {K : Env -> Heap -> Prop} {c : Nat}  {t : Bool} {a0 : Int} {u6 u7 : Option Addr} {n6 n7 : Nat} (e45 : e 45 = .bool t) (e8 : e 8 = ptr c 0) (gc0 : getCells H c 0 1 = some [.int .i64 a0]) (gc6 : getCells H c 6 1 = some [.slice u6 n6 n6]) (gc7 : getCells H c 7 1 = some [.slice u7 n7 n7]) (ha : IntKind.i64.wrap ((n6 : Int) + (n7 : Int)) = (n6 : Int) + (n7 : Int)) (hK : ∀ e1,Same e e1 -> e1 60 = .bool (t || (!decide (a0 = 2) && decide (0 < (n6 : Int) + n7))) -> wpo F lo r e1 H K) : wpo F lo (⟨some 46,none,.mov (.t 45)⟩ :: ⟨some 47,some (46,false),.fad 0 (.t 8)⟩ :: ⟨some 48,some (46,false),.load false 1 (.t 47)⟩ :: ⟨some 49,some (46,false),.bin .neq (.t 48) (.c (.int .i64 2))⟩ :: ⟨some 50,some (46,false),.mov (.t 49)⟩ :: ⟨some 51,some (50,true),.fad 6 (.t 8)⟩ :: ⟨some 52,some (50,true),.load false 1 (.t 51)⟩ :: ⟨some 53,some (50,true),.len (.t 52)⟩ :: ⟨some 54,some (50,true),.fad 7 (.t 8)⟩ :: ⟨some 55,some (50,true),.load false 1 (.t 54)⟩ :: ⟨some 56,some (50,true),.len (.t 55)⟩ :: ⟨some 57,some (50,true),.bin .add (.t 53) (.t 56)⟩ :: ⟨some 58,some (50,true),.bin .gtr (.t 57) (.c (.int .i64 0))⟩ :: ⟨some 59,some (46,false),.pick (.t 50) (.t 58) (.c (.bool false))⟩ :: ⟨some 60,none,.pick (.t 46) (.c (.bool true)) (.t 59)⟩ :: r) e H K := by
 cases t
 all_goals skip
 repeat' (first
  | refine seq_assoc ?_
  | refine seq_reg ?_
  | refine seq_skip ?_
  | refine seq_regD ?_
  | refine seq_cond (t := true) rfl ?_
  | refine seq_cond (t := false) rfl ?_
  | refine wpc_cond (t := true) rfl ?_
  | refine wpc_cond (t := false) rfl ?_
  | refine seq_block ?_
  | refine wpc_block ?_
  | refine seq_ret ?_
  | refine wpc_ret ?_
  | refine wpc_reg ?_
  | refine wpc_regD ?_
  | refine wpc_skip ?_
  | refine fin_t rfl ?_
  | refine seq_exit ?_
  | refine wpc_exit ?_
  | refine eqs_rule (fun _ => ?_) (fun _ => ?_)
  | refine cmp_lss (fun _ => ?_) (fun _ => ?_)
  | refine cmp_leq (fun _ => ?_) (fun _ => ?_)
  | refine cmp_gtr (fun _ => ?_) (fun _ => ?_)
  | refine cmp_geq (fun _ => ?_) (fun _ => ?_)
  | refine cmp_eql (fun _ => ?_) (fun _ => ?_)
  | refine cmp_neq (fun _ => ?_) (fun _ => ?_)
  | simp only [go_sem,out_n,out_r,out_e,thenX_n,thenX_r,thenX_e,e45,e8,gc0,gc6,gc7,ha]
  )
 all_goals (refine hK _ ?_ ?_ <;> first | exact ⟨by simp only [go_sem,binC],by simp only [go_sem,binC],by simp only [go_sem,binC],by simp only [go_sem,binC],by simp only [go_sem,binC],by simp only [go_sem,binC]⟩ | (simp only [go_sem,binC]; simp [*]; done) | (simp only [go_sem,binC]; simp_all; done))
end Go.Proofs.YtbjeldblaclpnaaGreatI
end
section
set_option linter.unusedVariables false
set_option linter.unusedSimpArgs false
namespace Go.Proofs.YtbjeldblaclpnaaGreatI
open Go Go.RowKit
attribute [local irreducible] optP wpo wpp wpc binI Kc Kp wpOp thenX eqsV
def c_tests : List IOper := [
     ⟨some 16,none,.mov (.t 2)⟩,⟨some 17,none,.bin .lss (.t 16) (.c (.int .i64 1))⟩,⟨some 18,none,.mov (.t 17)⟩,⟨some 19,some (18,false),.load true 2 (.t 3)⟩,
     ⟨some 20,some (18,false),.fad 1 (.t 8)⟩,⟨some 21,some (18,false),.load false 1 (.t 20)⟩,⟨some 22,some (18,false),.call .q (.f 89) [.t 19,.t 21]⟩,
     ⟨some 23,some (18,false),.un .not (.t 22)⟩,⟨some 24,none,.pick (.t 18) (.c (.bool true)) (.t 23)⟩,⟨some 25,none,.mov (.t 24)⟩,
     ⟨some 26,some (25,false),.fad 0 (.t 8)⟩,⟨some 27,some (25,false),.load false 1 (.t 26)⟩,⟨some 28,some (25,false),.bin .neq (.t 27) (.c (.int .i64 1))⟩,
     ⟨some 29,some (25,false),.mov (.t 28)⟩,⟨some 30,some (29,true),.fad 2 (.t 8)⟩,⟨some 31,some (29,true),.load true 3 (.t 30)⟩,
     ⟨some 32,some (29,true),.build [(.int .i64 0),(.int .i64 0),(.int .i64 0)] []⟩,⟨some 33,some (29,true),.eqs true 3 (.t 31) (.t 32)⟩,
     ⟨some 34,some (25,false),.pick (.t 29) (.t 33) (.c (.bool false))⟩,⟨some 35,none,.pick (.t 25) (.c (.bool true)) (.t 34)⟩,⟨some 36,none,.mov (.t 35)⟩,
     ⟨some 37,some (36,false),.fad 0 (.t 8)⟩,⟨some 38,some (36,false),.load false 1 (.t 37)⟩,⟨some 39,some (36,false),.bin .neq (.t 38) (.c (.int .i64 3))⟩,
     ⟨some 40,some (36,false),.mov (.t 39)⟩,⟨some 41,some (40,true),.fad 5 (.t 8)⟩,⟨some 42,some (40,true),.load false 1 (.t 41)⟩,
     ⟨some 43,some (40,true),.bin .neq (.t 42) (.c (.int .i64 0))⟩,⟨some 44,some (36,false),.pick (.t 40) (.t 43) (.c (.bool false))⟩,
     ⟨some 45,none,.pick (.t 36) (.c (.bool true)) (.t 44)⟩,⟨some 46,none,.mov (.t 45)⟩,⟨some 47,some (46,false),.fad 0 (.t 8)⟩,
     ⟨some 48,some (46,false),.load false 1 (.t 47)⟩,⟨some 49,some (46,false),.bin .neq (.t 48) (.c (.int .i64 2))⟩,⟨some 50,some (46,false),.mov (.t 49)⟩,
     ⟨some 51,some (50,true),.fad 6 (.t 8)⟩,⟨some 52,some (50,true),.load false 1 (.t 51)⟩,⟨some 53,some (50,true),.len (.t 52)⟩,
     ⟨some 54,some (50,true),.fad 7 (.t 8)⟩,⟨some 55,some (50,true),.load false 1 (.t 54)⟩,⟨some 56,some (50,true),.len (.t 55)⟩,
     ⟨some 57,some (50,true),.bin .add (.t 53) (.t 56)⟩,⟨some 58,some (50,true),.bin .gtr (.t 57) (.c (.int .i64 0))⟩,
     ⟨some 59,some (46,false),.pick (.t 50) (.t 58) (.c (.bool false))⟩,⟨some 60,none,.pick (.t 46) (.c (.bool true)) (.t 59)⟩]
def c_rest : ICode := (.seq (.reg none [⟨some 9,none,.mov (.c (.bool false))⟩])
   (.seq (.seq (.reg none [⟨some 61,none,.fad 0 (.t 8)⟩,⟨some 62,none,.load false 1 (.t 61)⟩])
    (.block 2 (.seq (.reg none [⟨some 64,none,.bin .eql (.t 62) (.c (.int .i64 1))⟩,⟨some 63,none,.mov (.t 64)⟩])
     (.cond (.t 63) (.reg none [⟨some 65,none,.load true 2 (.t 3)⟩,⟨some 66,none,.fad 2 (.t 8)⟩,⟨some 67,none,.load true 3 (.t 66)⟩,
       ⟨some 68,none,.call .q (.f 90) [.t 65,.t 67]⟩,⟨some 9,none,.mov (.t 68)⟩]) (.seq (.reg none [⟨some 70,none,.bin .eql (.t 62) (.c (.int .i64 2))⟩,
        ⟨some 69,none,.mov (.t 70)⟩])
      (.cond (.t 69) (.reg none [⟨some 71,none,.load true 2 (.t 3)⟩,⟨some 72,none,.fad 6 (.t 8)⟩,⟨some 73,none,.load false 1 (.t 72)⟩,
        ⟨some 74,none,.mov (.t 2)⟩,⟨some 75,none,.bin .sub (.t 74) (.c (.int .i64 1))⟩,⟨some 76,none,.call .q (.f 70) [.t 71,.t 73,.t 75]⟩,
        ⟨some 77,none,.mov (.t 76)⟩,⟨some 78,some (77,true),.load true 2 (.t 3)⟩,⟨some 79,some (77,true),.fad 7 (.t 8)⟩,
        ⟨some 80,some (77,true),.load false 1 (.t 79)⟩,⟨some 81,some (77,true),.mov (.t 2)⟩,⟨some 82,some (77,true),.bin .sub (.t 81) (.c (.int .i64 1))⟩,
        ⟨some 83,some (77,true),.call .q (.f 70) [.t 78,.t 80,.t 82]⟩,⟨some 84,none,.pick (.t 77) (.t 83) (.c (.bool false))⟩,
        ⟨some 9,none,.mov (.t 84)⟩]) (.seq (.reg none [⟨some 86,none,.bin .eql (.t 62) (.c (.int .i64 3))⟩,⟨some 85,none,.mov (.t 86)⟩])
       (.cond (.t 85) (.reg none [⟨some 87,none,.fad 5 (.t 8)⟩,⟨some 88,none,.load false 1 (.t 87)⟩,⟨some 89,none,.call .q (.f 48) [.t 88]⟩,
         ⟨some 9,none,.mov (.t 89)⟩]) (.skip)))))))))
   (.seq (.reg none [⟨some 90,none,.mov (.t 9)⟩,⟨some 91,none,.un .not (.t 90)⟩])
   (.cond (.t 91) (.seq (.reg none [⟨some 6,none,.mov (.c (.bool false))⟩])
    (.ret)) (.skip)))))
def c_iStepsB : ICode := (.seq (.reg none [⟨some 13,none,.bin .lss (.t 12) (.t 11)⟩])
  (.seq (.cond (.t 13) (.skip) (.exit 0))
  (.seq (.block 1 (.seq (.reg none [⟨some 14,none,.iad 8 (.t 10) (.t 12)⟩,⟨some 15,none,.load true 8 (.t 14)⟩,
     ⟨some 8,none,.new [(.int .i64 0),(.int .i64 0),(.int .i64 0),(.int .i64 0),(.int .i64 0),(.int .i64 0),(.slice none 0 0),(.slice none 0 0)]⟩,
     ⟨none,none,.store 8 (.t 8) (.t 15)⟩])
   (.seq (.seq (.reg none c_tests)
    (.cond (.t 60) (.seq (.reg none [⟨some 6,none,.mov (.c (.bool false))⟩])
     (.ret)) (.skip)))
   c_rest)))
  (.reg none [⟨some 92,none,.bin .add (.t 12) (.c (.int .i64 1))⟩,⟨some 12,none,.mov (.t 92)⟩]))))
theorem rest_ok {F : Nat -> Option IFn} {lo m n : Nat} {H : Heap} {e : Env} {K : X -> Env -> Heap -> Prop} {b c : Nat} {v0 v1 : Value} {p : TProg m} {d a0 a1 a2 a3 a4 a5 : Int} {a6 a7 : List (TStep n)} {u6 u7 : Option Addr} (g2 : ValOk F 90) (g4 : ∀ (H : Heap) (a : Int),QC F 48 [.int .i64 a] H (.bool (inB a 0 2))) (g3 : StepsOk F 70 n)
  (hp : Rd (Co.prog m) true (vw 0 H) (.agg #[v0,v1]) p) (hv : Rd Co.val true (vw 0 H) (.agg #[.int .i64 a2,.int .i64 a3,.int .i64 a4]) (a2,a3,a4)) (r6 : SlR (Co.step n) (vw 0 H) (.slice u6 a6.length a6.length) a6) (r7 : SlR (Co.step n) (vw 0 H) (.slice u7 a7.length a7.length) a7) (s6 : (Co.sl (Co.step n)).sm a6) (s7 : (Co.sl (Co.step n)).sm a7)
  (hd1 : 1 <= d) (hd3 : d <= 3) (hd : IntKind.i64.wrap (d - 1) = d - 1)
  (e2 : e 2 = .int .i64 d) (e3 : e 3 = ptr b 0) (e8 : e 8 = ptr c 0) (gb : getCells H b 0 2 = some [v0,v1]) (gc0 : getCells H c 0 1 = some [.int .i64 a0]) (gc2 : getCells H c 2 3 = some [.int .i64 a2,.int .i64 a3,.int .i64 a4]) (gc5 : getCells H c 5 1 = some [.int .i64 a5]) (gc6 : getCells H c 6 1 = some [.slice u6 a6.length a6.length]) (gc7 : getCells H c 7 1 = some [.slice u7 a7.length a7.length])
  (hK1 : ∀ e1,Same e e1 -> (if a0 = 1 then valB p.1.length (a2,a3,a4) else if a0 = 2 then a6.all (stepB p.1.length n (d - 1)) && a7.all (stepB p.1.length n (d - 1)) else if a0 = 3 then inB a5 0 2 else false) = true -> K .n e1 H)
  (hK2 : ∀ e1,e1 6 = .bool false -> (if a0 = 1 then valB p.1.length (a2,a3,a4) else if a0 = 2 then a6.all (stepB p.1.length n (d - 1)) && a7.all (stepB p.1.length n (d - 1)) else if a0 = 3 then inB a5 0 2 else false) = false -> K .r e1 H) : wpc F lo c_rest e H K := by
 generalize hA6 : a6.all (stepB p.1.length n (d - 1)) = A6 at hK1 hK2
 generalize hA7 : a7.all (stepB p.1.length n (d - 1)) = A7 at hK1 hK2
 have q6 := g3 H m _ _ p a6 (d - 1) hp r6 s6 (by omega) (by omega)
 have q7 := g3 H m _ _ p a7 (d - 1) hp r7 s7 (by omega) (by omega)
 rw [hA6] at q6
 rw [hA7] at q7
 unfold c_rest
 repeat' (first
  | refine seq_assoc ?_
  | refine seq_reg ?_
  | refine seq_skip ?_
  | refine seq_regD ?_
  | refine seq_cond (t := true) rfl ?_
  | refine seq_cond (t := false) rfl ?_
  | refine wpc_cond (t := true) rfl ?_
  | refine wpc_cond (t := false) rfl ?_
  | refine seq_block ?_
  | refine wpc_block ?_
  | refine seq_ret ?_
  | refine wpc_ret ?_
  | refine wpc_reg ?_
  | refine wpc_regD ?_
  | refine wpc_skip ?_
  | refine fin_t rfl ?_
  | refine seq_exit ?_
  | refine wpc_exit ?_
  | refine cmp_lss (fun _ => ?_) (fun _ => ?_)
  | refine cmp_leq (fun _ => ?_) (fun _ => ?_)
  | refine cmp_gtr (fun _ => ?_) (fun _ => ?_)
  | refine cmp_geq (fun _ => ?_) (fun _ => ?_)
  | refine cmp_eql (fun _ => ?_) (fun _ => ?_)
  | refine cmp_neq (fun _ => ?_) (fun _ => ?_)
  | (refine op_callB (by simp only [go_sem,out_n,out_r,out_e,thenX_n,thenX_r,thenX_e,hd,e2,e3,e8,gb,gc0,gc2,gc5,gc6,gc7,Bool.not_true,Bool.not_false]; exact g2 _ m _ _ p (a2,a3,a4) hp hv) (fun _ => ?_) (fun _ => ?_))
  | (refine op_callB (by simp only [go_sem,out_n,out_r,out_e,thenX_n,thenX_r,thenX_e,hd,e2,e3,e8,gb,gc0,gc2,gc5,gc6,gc7,Bool.not_true,Bool.not_false]; exact g4 _ _) (fun _ => ?_) (fun _ => ?_))
  | (refine op_callB (by simp only [go_sem,out_n,out_r,out_e,thenX_n,thenX_r,thenX_e,hd,e2,e3,e8,gb,gc0,gc2,gc5,gc6,gc7,Bool.not_true,Bool.not_false]; exact q6) (fun _ => ?_) (fun _ => ?_))
  | (refine op_callB (by simp only [go_sem,out_n,out_r,out_e,thenX_n,thenX_r,thenX_e,hd,e2,e3,e8,gb,gc0,gc2,gc5,gc6,gc7,Bool.not_true,Bool.not_false]; exact q7) (fun _ => ?_) (fun _ => ?_))
  | simp only [go_sem,out_n,out_r,out_e,thenX_n,thenX_r,thenX_e,hd,e2,e3,e8,gb,gc0,gc2,gc5,gc6,gc7,Bool.not_true,Bool.not_false]
  )
 all_goals first
  | (refine hK2 _ ?_ ?_ <;> first | (simp only [go_sem,binC]; done) | (simp [*]; done) | (simp_all; done))
  | (refine hK1 _ ?_ ?_ <;> first | exact ⟨by simp only [go_sem,binC],by simp only [go_sem,binC],by simp only [go_sem,binC],by simp only [go_sem,binC],by simp only [go_sem,binC],by simp only [go_sem,binC]⟩ | (simp [*]; done) | (simp_all; done))
end Go.Proofs.YtbjeldblaclpnaaGreatI
end
end
section
section
set_option linter.unusedVariables false
set_option linter.unusedSimpArgs false
namespace Go.Proofs.YtbjeldblaclpnaaGreatI
open Go Go.RowKit
attribute [local irreducible] optP wpo wpp wpc binI Kc Kp wpOp thenX eqsV
theorem step_bad {k n : Nat} {d a0 a1 a2 a3 a4 a5 : Int} {a6 a7 : List (TStep n)} (h : (decide (d < 1) || !varB k a1 || (!decide (a0 = 1) && !decide ((a2,a3,a4) = (0,0,0))) || (!decide (a0 = 3) && !decide (a5 = 0)) || (!decide (a0 = 2) && decide (0 < (a6.length : Int) + a7.length))) = true) : stepB k (n + 1) d (a0,a1,(a2,a3,a4),a5,a6,a7) = false := by
 simp only [stepB]
 generalize (a6.length : Int) + (a7.length : Int) = X at *
 generalize List.all a6 (stepB k n (d - 1)) = A6 at *
 generalize List.all a7 (stepB k n (d - 1)) = A7 at *
 by_cases h1 : d < 1
 ·rw [decide_eq_false (show ¬ 1 <= d by omega)]; rfl
 cases hv : varB k a1 with
 | false => simp
 | true =>
   by_cases hX : 0 < X
   ·have hX0 : ¬ X = 0 := by omega
    by_cases k1 : a0 = 1 <;> by_cases k3 : a0 = 3 <;> by_cases k2 : a0 = 2 <;> simp_all <;> (intros; simp_all) <;> (try omega)
   ·by_cases k1 : a0 = 1 <;> by_cases k3 : a0 = 3 <;> by_cases k2 : a0 = 2 <;> simp_all <;> (intros; simp_all) <;> (try omega)
theorem step_bad2 {k n : Nat} {d a0 a1 a2 a3 a4 a5 : Int} {a6 a7 : List (TStep n)} (h : (if a0 = 1 then valB k (a2,a3,a4) else if a0 = 2 then a6.all (stepB k n (d - 1)) && a7.all (stepB k n (d - 1)) else if a0 = 3 then inB a5 0 2 else false) = false) : stepB k (n + 1) d (a0,a1,(a2,a3,a4),a5,a6,a7) = false := by
 simp only [stepB]
 generalize List.all a6 (stepB k n (d - 1)) = A6 at *
 generalize List.all a7 (stepB k n (d - 1)) = A7 at *
 by_cases k1 : a0 = 1 <;> by_cases k3 : a0 = 3 <;> by_cases k2 : a0 = 2 <;> simp_all <;> (intros; simp_all)
theorem step_good {k n : Nat} {d a0 a1 a2 a3 a4 a5 : Int} {a6 a7 : List (TStep n)} (ht : (decide (d < 1) || !varB k a1 || (!decide (a0 = 1) && !decide ((a2,a3,a4) = (0,0,0))) || (!decide (a0 = 3) && !decide (a5 = 0)) || (!decide (a0 = 2) && decide (0 < (a6.length : Int) + a7.length))) = false) (h : (if a0 = 1 then valB k (a2,a3,a4) else if a0 = 2 then a6.all (stepB k n (d - 1)) && a7.all (stepB k n (d - 1)) else if a0 = 3 then inB a5 0 2 else false) = true) : stepB k (n + 1) d (a0,a1,(a2,a3,a4),a5,a6,a7) = true := by
 have hX : (0 : Int) <= (a6.length : Int) + (a7.length : Int) := by omega
 simp only [stepB]
 generalize (a6.length : Int) + (a7.length : Int) = X at *
 generalize List.all a6 (stepB k n (d - 1)) = A6 at *
 generalize List.all a7 (stepB k n (d - 1)) = A7 at *
 by_cases k1 : a0 = 1 <;> by_cases k3 : a0 = 3 <;> by_cases k2 : a0 = 2 <;> simp_all <;> omega
set_option maxHeartbeats 4000000 in
theorem iSteps_lp {F : Nat -> Option IFn} {n m : Nat} (g1 : VarOk F 89) (g2 : ValOk F 90) (g4 : ∀ (H : Heap) (a : Int),QC F 48 [.int .i64 a] H (.bool (inB a 0 2))) (g3 : StepsOk F 70 n) {H : Heap} {v0 v1 : Value} {p0 : List (Int × Int)} {p1 : List (TStep m)} {d : Int}
  (hp : ∀ L,Rd (Co.prog m) true (vw 0 (H ++ L)) (.agg #[v0,v1]) (p0,p1)) {l : List (TStep (n + 1))} {a : Option Addr} (hu : SlR (Co.step (n + 1)) (vw 0 H) (.slice a l.length l.length) l) (hs : (Co.sl (Co.step (n + 1))).sm l) (hd0 : 0 <= d) (hd3 : d <= 3)
  {K : X -> Env -> Heap -> Prop} (hK1 : ∀ e1 M,l.all (stepB p0.length (n + 1) d) = true -> K (.e 0) e1 (H ++ ⟨[v0,v1],0,0,false,true⟩ :: M)) (hK2 : ∀ e1 M,e1 6 = .bool false -> l.all (stepB p0.length (n + 1) d) = false -> K .r e1 (H ++ ⟨[v0,v1],0,0,false,true⟩ :: M)) :
  ∀ (k i : Nat) (e : Env) (M : Heap),i + k = l.length -> e 2 = .int .i64 d -> e 3 = ptr H.length 0 -> e 10 = .slice a l.length l.length -> e 11 = .int .i64 l.length -> e 12 = .int .i64 i -> l.all (stepB p0.length (n + 1) d) = (l.drop i).all (stepB p0.length (n + 1) d) ->
   W F H.length (.lp c_iStepsB) e (H ++ ⟨[v0,v1],0,0,false,true⟩ :: M) K := by
 obtain ⟨h0,a',ha',h2⟩ := hu
 cases ha'
 have hd : IntKind.i64.wrap (d - 1) = d - 1 := wrap_id (by omega) (by omega)
 intro k
 induction k with
 | zero =>
   intro i e M hi e2 e3 e10 e11 e12 hall
   refine lp_step ?_
   refine seq_reg ?_
   simp only [go_sem,binC,e11,e12]
   refine seq_cond (t := false) (by simp only [go_sem,binC]; rw [decide_eq_false (by omega)]) ?_
   simp only [go_sem,binC]
   refine seq_exit ?_
   simp only [go_sem,binC,thenX_e]
   refine hK1 _ _ ?_
   rw [hall,List.drop_of_length_le (by omega)]
   rfl
 | succ k ih =>
   intro i e M hi e2 e3 e10 e11 e12 hall
   have hil : i < l.length := by omega
   rcases h2 with h2 | ⟨b,o,hab,h2⟩
   ·rw [h2] at hil; simp at hil
   subst hab
   obtain ⟨cs,h3,h4⟩ := h2 i hil
   have hsm := hs.2 _ (List.getElem_mem hil)
   rw [List.drop_eq_getElem_cons hil,List.all_cons] at hall
   generalize l[i] = x at h4 hsm hall
   obtain ⟨a0,a1,⟨a2,a3,a4⟩,a5,a6,a7⟩ := x
   obtain ⟨_,_,rfl,⟨rfl,b0⟩,_,_,rfl,⟨rfl,b1⟩,_,_,rfl,⟨_,_,rfl,⟨rfl,b2⟩,_,_,rfl,⟨rfl,b3⟩,⟨rfl,b4⟩⟩,_,_,rfl,⟨rfl,b5⟩,_,_,rfl,⟨v6,rfl,r6⟩,⟨v7,rfl,r7⟩⟩ := h4
   obtain ⟨s0,s1,s2,s3,s6,s7⟩ := hsm
   have r6c := r6
   have r7c := r7
   obtain ⟨u6,x6⟩ := r6.shape
   subst x6
   obtain ⟨u7,x7⟩ := r7.shape
   subst x7
   have ha : IntKind.i64.wrap ((a6.length : Int) + (a7.length : Int)) = (a6.length : Int) + (a7.length : Int) := by
    have h6 : a6.length <= 1048576 := s6.1
    have h7 : a7.length <= 1048576 := s7.1
    exact wrap_id (by omega) (by omega)
   have g3c := fun L => rng_gc (rng_sub (vw_app 0 H L) h3)
   rw [step_w] at g3c
   simp only [go_sem,binC] at g3c
   have hw1 : IntKind.i64.wrap ((i : Int) + 1) = ((i + 1 : Nat) : Int) := by rw [wrap_id (by omega) (by omega)]; omega
   refine lp_step ?_
   refine seq_reg ?_
   simp only [go_sem,binC,e11,e12]
   refine seq_cond (t := true) (by simp only [go_sem,binC]; rw [decide_eq_true (by omega)]) ?_
   simp only [go_sem,binC]
   refine seq_skip (seq_block (seq_reg ?_))
   simp only [go_sem,binC,e10,e12,g3c]
   refine ⟨⟨by omega,by omega⟩,?_⟩
   have hE : ∀ L,getCells (H ++ L) H.length 0 2 = inBlk L[0]? 0 2 := fun L => gc_new0 H L 0 2
   refine seq_assoc (seq_reg ?_)
   unfold c_tests
   refine seg1 (c := H.length + (M.length + 1)) (b := H.length) (m := m) (d := d) (a1 := a1) g1 (hp _) (by simp only [go_sem,binC,e2]) (by simp only [go_sem,binC,e3]) (by simp only [go_sem,binC]) (by simp only [go_sem,binC]) (by simp only [go_sem,binC]) (fun x1 m1 t1 => ?_)
   refine seg2 (c := H.length + (M.length + 1)) (a0 := a0) (a2 := a2) (a3 := a3) (a4 := a4) t1 (by rw [m1.2.2.1]; simp only [go_sem,binC]) (by simp only [go_sem,binC]) (by simp only [go_sem,binC]) (fun x2 m2 t2 => ?_)
   refine seg3 (c := H.length + (M.length + 1)) (a0 := a0) (a5 := a5) t2 (by rw [m2.2.2.1,m1.2.2.1]; simp only [go_sem,binC]) (by simp only [go_sem,binC]) (by simp only [go_sem,binC]) (fun x3 m3 t3 => ?_)
   refine seg4 (c := H.length + (M.length + 1)) (a0 := a0) (n6 := a6.length) (n7 := a7.length) (u6 := u6) (u7 := u7) t3 (by rw [m3.2.2.1,m2.2.2.1,m1.2.2.1]; simp only [go_sem,binC]) (by simp only [go_sem,binC]) (by simp only [go_sem,binC]) (by simp only [go_sem,binC]) ha (fun x4 m4 t4 => ?_)
   have mm := (m1.trans m2).trans (m3.trans m4)
   obtain ⟨y2,y3,y8,y10,y11,y12⟩ := mm
   simp only [go_sem,binC] at y2 y3 y8 y10 y11 y12
   rw [e2] at y2
   rw [e3] at y3
   rw [e10] at y10
   rw [e11] at y11
   rw [e12] at y12
   simp only [go_sem,binC]
   obtain ⟨T,hT,t5⟩ : ∃ T,T = _ /\ x4 60 = .bool T := ⟨_,rfl,t4⟩
   cases T with
   | true =>
     refine seq_cond (t := true) (by simp only [go_sem,binC,t5]) ?_
     simp only [go_sem,binC]
     refine seq_assoc (seq_reg ?_)
     simp only [go_sem,binC]
     refine seq_ret ?_
     simp only [go_sem,binC,out_r,thenX_r]
     refine hK2 _ _ (by simp only [go_sem,binC]) ?_
     rw [hall,step_bad hT.symm,Bool.false_and]
   | false =>
     refine seq_cond (t := false) (by simp only [go_sem,binC,t5]) ?_
     simp only [go_sem,binC]
     refine seq_skip ?_
     have hd1 : 1 <= d := by
      by_cases h1 : d < 1
      ·rw [decide_eq_true h1] at hT; simp at hT
      ·omega
     refine rest_ok (m := m) (p := (p0,p1)) (b := H.length) (c := H.length + (M.length + 1)) (d := d) (a0 := a0) (a1 := a1) (a2 := a2) (a3 := a3) (a4 := a4) (a5 := a5) (a6 := a6) (a7 := a7) g2 g4 g3 (hp _) ⟨_,rfl,_,_,rfl,⟨rfl,b2⟩,_,_,rfl,⟨rfl,b3⟩,⟨rfl,b4⟩⟩ (r6c.mono (vw_app 0 H _)) (r7c.mono (vw_app 0 H _)) s6 s7 hd1 hd3 hd y2 y3 y8 (by simp only [go_sem,binC]) (by simp only [go_sem,binC]) (by simp only [go_sem,binC]) (by simp only [go_sem,binC]) (by simp only [go_sem,binC]) (by simp only [go_sem,binC]) ?_ ?_
     ·intro e5 m5 hg
      obtain ⟨z2,z3,z8,z10,z11,z12⟩ := m5
      simp only [go_sem,binC,out_n,thenX_n]
      refine wpc_reg ?_
      simp only [go_sem,binC,z12,y12,hw1,thenX_n]
      refine ih (i + 1) _ _ (by omega) ?_ ?_ ?_ ?_ ?_ ?_
      ·simp only [go_sem,binC,z2,y2]
      ·simp only [go_sem,binC,z3,y3]
      ·simp only [go_sem,binC,z10,y10]
      ·simp only [go_sem,binC,z11,y11]
      ·simp only [go_sem,binC]
      ·rw [hall,step_good hT.symm hg,Bool.true_and]
     ·intro e5 h6 hg
      simp only [go_sem,binC,out_r,thenX_r]
      refine hK2 _ _ h6 ?_
      rw [hall,step_bad2 hg,Bool.false_and]
end Go.Proofs.YtbjeldblaclpnaaGreatI
end
section
set_option linter.unusedVariables false
set_option linter.unusedSimpArgs false
namespace Go.Proofs.YtbjeldblaclpnaaGreatI
open Go Go.RowKit
theorem iSteps_succ {F : Nat -> Option IFn} {f n : Nat} (hf : F f = some c_iSteps) (g1 : VarOk F 89) (g2 : ValOk F 90) (g4 : ∀ (H : Heap) (a : Int),QC F 48 [.int .i64 a] H (.bool (inB a 0 2))) (g3 : StepsOk F 70 n) : StepsOk F f (n + 1) := by
 rintro H m v u ⟨p0,p1⟩ l d hp0 hu hs hd0 hd3
 obtain ⟨pc,hpc,_,_,rfl,⟨v0,rfl,r0⟩,⟨v1,rfl,r1⟩⟩ := hp0
 have hp : ∀ L,Rd (Co.prog m) true (vw 0 (H ++ L)) (.agg #[v0,v1]) (p0,p1) := fun L => ⟨_,rfl,_,_,rfl,⟨_,rfl,r0.mono (vw_app 0 H L)⟩,⟨_,rfl,r1.mono (vw_app 0 H L)⟩⟩
 simp only [go_sem,binC,Option.some.injEq] at hpc
 subst hpc
 have r0c := r0
 have r1c := r1
 obtain ⟨_,x0⟩ := r0.shape
 subst x0
 obtain ⟨_,x1⟩ := r1.shape
 subst x1
 obtain ⟨a,xa⟩ := hu.shape
 subst xa
 refine QC.mk hf rfl ?_
 refine seq_reg ?_
 simp only [go_sem,binC]
 refine seq_assoc (seq_reg ?_)
 simp only [go_sem,binC]
 refine seq_block (wpc_loop ?_)
 refine iSteps_lp g1 g2 g4 g3 hp hu hs hd0 hd3 ?_ ?_ l.length 0 _ [] (by omega) (by simp only [go_sem,binC]) (by simp only [go_sem,binC]) (by simp only [go_sem,binC]) (by simp only [go_sem,binC]) (by simp only [go_sem,binC]; rfl) rfl
 ·intro e1 M hall
  simp only [go_sem,binC,out_e,thenX_n]
  refine seq_reg ?_
  simp only [go_sem,binC]
  exact wpc_ret ⟨Or.inr rfl,.bool true,by simp only [go_sem,binC],by rw [hall],rfl⟩
 ·intro e1 M h6 hall
  simp only [go_sem,binC,out_r,thenX_r]
  exact ⟨Or.inr rfl,.bool false,by simp only [go_sem,binC,h6],by rw [hall],rfl⟩
theorem iSteps_z {F : Nat -> Option IFn} {f : Nat} (hf : F f = some c_iSteps) : StepsOk F f 0 := by
 rintro H m v u ⟨p0,p1⟩ l d hp0 hu hs hd0 hd3
 obtain ⟨pc,hpc,_,_,rfl,⟨v0,rfl,r0⟩,⟨v1,rfl,r1⟩⟩ := hp0
 have hp : ∀ L,Rd (Co.prog m) true (vw 0 (H ++ L)) (.agg #[v0,v1]) (p0,p1) := fun L => ⟨_,rfl,_,_,rfl,⟨_,rfl,r0.mono (vw_app 0 H L)⟩,⟨_,rfl,r1.mono (vw_app 0 H L)⟩⟩
 simp only [go_sem,binC,Option.some.injEq] at hpc
 subst hpc
 have r0c := r0
 have r1c := r1
 obtain ⟨_,x0⟩ := r0.shape
 subst x0
 obtain ⟨_,x1⟩ := r1.shape
 subst x1
 obtain ⟨a,xa⟩ := hu.shape
 subst xa
 have hl : l = [] := by
  cases l with
  | nil => rfl
  | cons x r => exact x.elim
 subst hl
 refine QC.mk hf rfl ?_
 refine seq_reg ?_
 simp only [go_sem,binC]
 refine seq_assoc (seq_reg ?_)
 simp only [go_sem,binC]
 refine seq_block (wpc_loop (lp_step ?_))
 refine seq_reg ?_
 simp only [go_sem,binC]
 refine seq_cond (t := false) (by simp only [go_sem,binC]; rw [decide_eq_false (by simp)]) ?_
 simp only [go_sem,binC]
 refine seq_exit ?_
 simp only [go_sem,binC,thenX_e,out_e,thenX_n]
 refine seq_reg ?_
 simp only [go_sem,binC]
 exact wpc_ret ⟨Or.inr rfl,.bool true,by simp only [go_sem,binC],rfl,rfl⟩
theorem iSteps_all {F : Nat -> Option IFn} (hf : F 70 = some c_iSteps) (g1 : VarOk F 89) (g2 : ValOk F 90) (g4 : ∀ (H : Heap) (a : Int),QC F 48 [.int .i64 a] H (.bool (inB a 0 2))) : ∀ n,StepsOk F 70 n := by
 intro n
 induction n with
 | zero => exact iSteps_z hf
 | succ n ih => exact iSteps_succ hf g1 g2 g4 ih
end Go.Proofs.YtbjeldblaclpnaaGreatI
end
section
set_option linter.unusedVariables false
set_option linter.unusedSimpArgs false
namespace Go.Proofs.YtbjeldblaclpnaaGreatI
open Go Go.RowKit Go.ChangeShapes
section
variable {T : Type} {enc : TypeId × Value -> T} {P : Program} {w : World} {spare : Nat -> Bool} {held : Bool}
end
end Go.Proofs.YtbjeldblaclpnaaGreatI
end
section
set_option linter.unusedVariables false
set_option linter.unusedSimpArgs false
namespace Go.Proofs.YtbjeldblaclpnaaGreatI
open Go Go.RowKit
theorem sSteps_ok {F : Nat -> Option IFn} {f n : Nat} (hf : F f = some c_sSteps) (g0 : StepOk F 98 n) : StepsOk F f n := by
 rintro H m v u ⟨p0,p1⟩ l d hp0 hu hs hd0 hd3
 obtain ⟨pc,hpc,_,_,rfl,⟨v0,rfl,r0⟩,⟨v1,rfl,r1⟩⟩ := hp0
 have hp : ∀ L,Rd (Co.prog m) true (vw 0 (H ++ L)) (.agg #[v0,v1]) (p0,p1) := fun L => ⟨_,rfl,_,_,rfl,⟨_,rfl,r0.mono (vw_app 0 H L)⟩,⟨_,rfl,r1.mono (vw_app 0 H L)⟩⟩
 simp only [go_sem,binC,Option.some.injEq] at hpc
 subst hpc
 obtain ⟨_,x0⟩ := r0.shape
 subst x0
 obtain ⟨_,x1⟩ := r1.shape
 subst x1
 have hu' := hu
 obtain ⟨h0,a,rfl,h2⟩ := hu
 refine QC.mk hf rfl ?_
 refine seq_reg ?_
 simp only [go_sem,binC]
 refine seq_assoc (seq_reg ?_)
 simp only [go_sem,binC]
 refine seq_block (wpc_loop ?_)
 suffices h : ∀ (k i : Nat) (e : Env),i + k = l.length -> e 1 = .slice a l.length l.length -> e 2 = .int .i64 d -> e 3 = ptr H.length 0 -> e 7 = .int .i64 i -> l.all (stepB p0.length n d) = (l.drop i).all (stepB p0.length n d) -> W F H.length _ e _ _ from
  h l.length 0 _ (by omega) (by simp only [go_sem,binC]) (by simp only [go_sem,binC]) (by simp only [go_sem,binC]) (by simp only [go_sem,binC]; rfl) rfl
 intro k
 induction k with
 | zero =>
   intro i e hi e1 e2 e3 e7 hall
   refine lp_step ?_
   refine seq_assoc (seq_reg ?_)
   simp only [go_sem,binC,e1,e7]
   refine seq_cond (t := false) (by simp only [go_sem,binC]; rw [decide_eq_false (by omega)]) ?_
   simp only [go_sem,binC]
   refine seq_exit ?_
   simp only [go_sem,binC,thenX_e,out_e,thenX_n]
   refine seq_reg ?_
   simp only [go_sem,binC]
   refine wpc_ret ⟨Or.inr rfl,.bool true,by simp only [go_sem,binC],?_,rfl⟩
   rw [hall,List.drop_of_length_le (by omega)]
   rfl
 | succ k ih =>
   intro i e hi e1 e2 e3 e7 hall
   have hil : i < l.length := by omega
   rcases h2 with h2 | ⟨b,o,rfl,h2⟩
   ·rw [h2] at hil; simp at hil
   obtain ⟨cs,h3,h4⟩ := h2 i hil
   have g3 := fun L => rng_gc (rng_sub (vw_app 0 H L) h3)
   rw [step_w] at g3
   refine lp_step ?_
   refine seq_assoc (seq_reg ?_)
   simp only [go_sem,binC,e1,e7]
   refine seq_cond (t := true) (by simp only [go_sem,binC]; rw [decide_eq_true (by omega)]) ?_
   simp only [go_sem,binC]
   refine seq_skip (seq_block (seq_regD ?_))
   simp only [go_sem,binC,e1,e2,e3,e7,g3]
   refine ⟨⟨by omega,by omega⟩,?_⟩
   refine op_callB (by simp only [go_sem,binC,e2]; exact g0 _ m _ _ (p0,p1) l[i] d (hp _) ⟨cs,rfl,(Co.step n).mono (vw_app 0 H _) h4⟩ (hs.2 _ (List.getElem_mem _)) hd0 hd3) (fun hb => ?_) (fun hb => ?_)
   ·simp only [go_sem,binC]
    refine wpc_cond (t := false) (by simp only [go_sem,binC]) ?_
    simp only [go_sem,binC]
    refine wpc_skip ?_
    simp only [go_sem,binC,out_n,thenX_n]
    refine wpc_reg ?_
    simp only [go_sem,binC,e7]
    have hw1 : IntKind.i64.wrap ((i : Int) + 1) = ((i + 1 : Nat) : Int) := by rw [wrap_id (by omega) (by omega)]; omega
    rw [hw1]
    refine ih (i + 1) _ (by omega) (by simp only [go_sem,binC,e1]) (by simp only [go_sem,binC,e2]) (by simp only [go_sem,binC,e3]) (by simp only [go_sem,binC]) ?_
    rw [hall,List.drop_eq_getElem_cons hil,List.all_cons,hb,Bool.true_and]
   ·simp only [go_sem,binC]
    refine wpc_cond (t := true) (by simp only [go_sem,binC]) ?_
    simp only [go_sem,binC]
    refine seq_reg ?_
    simp only [go_sem,binC]
    refine wpc_ret ?_
    simp only [go_sem,binC,out_r,thenX_r]
    refine ⟨Or.inr rfl,.bool false,by simp only [go_sem,binC],?_,rfl⟩
    rw [hall,List.drop_eq_getElem_cons hil,List.all_cons,hb,Bool.false_and]
theorem sSteps_all {F : Nat -> Option IFn} (hf : F 98 = some c_sStep) (hfs : F 83 = some c_sSteps) (g0 : InOk F 30) (g1 : VarOk F 103) (g2 : ValOk F 104) : ∀ n,StepsOk F 83 n /\ StepOk F 98 n := by
 intro n
 induction n with
 | zero =>
   have z : StepOk F 98 0 := by
    rintro H m v u p a d _ ⟨_,_,h⟩
    exact h.elim
   exact ⟨sSteps_ok hfs z,z⟩
 | succ n ih =>
   have z := sStep_ok hf g0 g1 g2 ih.1
   exact ⟨sSteps_ok hfs z,z⟩
end Go.Proofs.YtbjeldblaclpnaaGreatI
end
end
section
end
section
set_option linter.unusedVariables false
set_option linter.unusedSimpArgs false
namespace Go.Proofs.YtbjeldblaclpnaaGreatI
open Go Go.RowKit
theorem gcI {H : Heap} {v : Value} {l : List Int} (h : SlR Co.int (vw 0 H) v l) {i : Nat} (hi : i < l.length) : ∃ b o,v = .slice (some ⟨b,o,none⟩) l.length l.length /\ getCells H b (o + i) 1 = some [.int .i64 l[i]] := by
 obtain ⟨_,a,rfl,h2⟩ := h
 rcases h2 with h2 | ⟨b,o,rfl,h2⟩
 ·rw [h2] at hi; simp at hi
 ·obtain ⟨cs,h3,h4,_⟩ := h2 i hi
  have h5 := rng_gc h3
  rw [show Co.int.w = 1 from rfl,Nat.mul_one,h4] at h5
  exact ⟨b,o,rfl,h5⟩
end Go.Proofs.YtbjeldblaclpnaaGreatI
end
section
set_option linter.unusedVariables false
set_option linter.unusedSimpArgs false
namespace Go.Proofs.YtbjeldblaclpnaaGreatI
open Go Go.RowKit
def c_vars : IFn := ⟨1,18,[.t 2],
 .seq (.reg none [⟨some 1,none,.box (.t 0)⟩,⟨some 2,none,.mov (.c (.slice none 0 0))⟩])
 (.seq (.seq (.reg none [⟨some 3,none,.fad 0 (.t 1)⟩,⟨some 4,none,.load false 1 (.t 3)⟩])
  (.block 0 (.seq (.reg none [⟨some 6,none,.bin .eql (.t 4) (.c (.int .i64 2))⟩,⟨some 5,none,.mov (.t 6)⟩])
   (.cond (.t 5) (.seq (.reg none [⟨some 7,none,.fad 1 (.t 1)⟩,⟨some 8,none,.load false 1 (.t 7)⟩,⟨some 9,none,.lit 1 3 1 [(.int .i64 0)] [(0,1,(.t 8))]⟩,
     ⟨some 2,none,.mov (.t 9)⟩])
    (.ret)) (.seq (.seq (.reg none [⟨some 11,none,.bin .eql (.t 4) (.c (.int .i64 3))⟩,⟨some 10,none,.mov (.t 11)⟩])
     (.cond (.t 10) (.skip) (.reg none [⟨some 12,none,.bin .eql (.t 4) (.c (.int .i64 4))⟩,⟨some 10,none,.mov (.t 12)⟩])))
    (.cond (.t 10) (.seq (.reg none [⟨some 13,none,.fad 1 (.t 1)⟩,⟨some 14,none,.load false 1 (.t 13)⟩,⟨some 15,none,.fad 2 (.t 1)⟩,
      ⟨some 16,none,.load false 1 (.t 15)⟩,⟨some 17,none,.lit 1 3 2 [(.int .i64 0),(.int .i64 0)] [(0,1,(.t 14)),(1,1,(.t 16))]⟩,⟨some 2,none,.mov (.t 17)⟩])
     (.ret)) (.skip)))))))
 (.seq (.reg none [⟨some 2,none,.mov (.c (.slice none 0 0))⟩])
 (.ret)))⟩
def varsL (v : Int × Int × Int) : List Int := if v.1 = 2 then [v.2.1] else if v.1 = 3 \/ v.1 = 4 then [v.2.1,v.2.2] else []
def ints (l : List Int) : List Value := l.map (fun n => .int .i64 n)
theorem ints_sl {H : Heap} {b o es et lo : Nat} {ap so : Bool} {xs : List Nat} {l : List Int} (h : H[b]? = some ⟨ints l,es,et,ap,so⟩) (hlo : lo <= b) (hb : b ∉ xs) (hr : ∀ x ∈ l,RgI x) (ho : o <= l.length) (hl : l.length <= 9223372036854775807) : SlR Co.int (vwl lo xs H) (.slice (some ⟨b,o,none⟩) (l.drop o).length (l.drop o).length) (l.drop o) := by
 refine ⟨by rw [List.length_drop]; omega,_,rfl,.inr ⟨b,o,rfl,fun i hi => ⟨[.int .i64 (l.drop o)[i]],?_,rfl,hr _ (List.mem_of_mem_drop (List.getElem_mem hi))⟩⟩⟩
 rw [List.length_drop] at hi
 unfold rng vwl
 rw [if_pos ⟨hlo,hb⟩,h]
 simp only [Option.map_some,Co.int,ints,List.length_map]
 rw [if_pos (by omega)]
 have h1 : ((l.map (fun n => Value.int .i64 n)).drop (o + i * 1)).head? = some (.int .i64 (l.drop o)[i]) := by
  rw [List.head?_drop,List.getElem?_map,List.getElem?_eq_getElem (by omega),List.getElem_drop]
  simp
 cases hd : (l.map (fun n => Value.int .i64 n)).drop (o + i * 1) with
 | nil => rw [hd] at h1; cases h1
 | cons c r => rw [hd] at h1; simp only [List.head?_cons,Option.some.injEq] at h1; subst h1; rfl
theorem ints_sl0 {H : Heap} {b es et : Nat} {ap so : Bool} {l : List Int} (h : H[b]? = some ⟨ints l,es,et,ap,so⟩) (hr : ∀ x ∈ l,RgI x) (hl : l.length <= 9223372036854775807) : SlR Co.int (vw 0 H) (sli b 0 l.length) l :=
 (ints_sl (lo := 0) (xs := []) (o := 0) h (Nat.zero_le _) (by simp) hr (Nat.zero_le _) hl).mono (vwl0 _ _ _)
theorem vars_okV {F : Nat -> Option IFn} {f : Nat} (hf : F f = some c_vars) : ∀ (H : Heap) (k a b : Int),RgI a -> RgI b -> ∃ w L,KC F f [.agg #[.int .i64 k,.int .i64 a,.int .i64 b]] H w (H ++ L) /\ SlR Co.int (vwl H.length [] (H ++ L)) w (varsL (k,a,b)) := by
 intro H k a b ha hb
 suffices h : ∃ w H',KC F f [.agg #[.int .i64 k,.int .i64 a,.int .i64 b]] H w H' /\ (∃ L,H' = H ++ L /\ SlR Co.int (vwl H.length [] H') w (varsL (k,a,b))) by
  obtain ⟨w,_,h1,L,rfl,h2⟩ := h
  exact ⟨w,L,h1,h2⟩
 refine KC.mk hf rfl ?_
 refine seq_reg ?_
 simp only [go_sem,binC]
 refine seq_assoc (seq_reg ?_)
 simp only [go_sem,binC]
 refine seq_block (seq_reg ?_)
 simp only [go_sem,binC]
 by_cases h2 : k = 2
 ·simp only [go_sem,binC,beq_t h2]
  refine wpc_cond (t := true) rfl ?_
  simp only [go_sem,binC]
  refine seq_reg ?_
  simp only [go_sem,binC]
  refine wpc_ret ?_
  simp only [go_sem,binC,out_r,thenX_r]
  refine ⟨Or.inr rfl,_,(by (simp only [go_sem,binC]) <;> rfl),_,rfl,?_⟩
  have h1 : varsL (k,a,b) = [a] := by simp [varsL,h2]
  rw [h1]
  exact ints_sl (o := 0) (lo := H.length) (xs := []) (l := [a]) (get_new _ _ 1) (by omega) (by simp) (by intro x hx; simp at hx; subst hx; exact ha) (Nat.zero_le _) (by simp)
 simp only [go_sem,binC,beq_f h2]
 refine wpc_cond (t := false) rfl ?_
 simp only [go_sem,binC]
 refine seq_assoc (seq_reg ?_)
 simp only [go_sem,binC]
 have two : ∀ (e : Env) (K : X -> Env -> Heap -> Prop),True := fun _ _ => trivial
 by_cases h3 : k = 3
 ·simp only [go_sem,binC,beq_t h3]
  refine seq_cond (t := true) rfl ?_
  simp only [go_sem,binC]
  refine seq_skip (wpc_cond (t := true) rfl ?_)
  simp only [go_sem,binC]
  refine seq_reg ?_
  simp only [go_sem,binC]
  refine wpc_ret ?_
  simp only [go_sem,binC,out_r,thenX_r]
  refine ⟨Or.inr rfl,_,(by (simp only [go_sem,binC]) <;> rfl),_,rfl,?_⟩
  have h1 : varsL (k,a,b) = [a,b] := by simp [varsL,h3]
  rw [h1]
  exact ints_sl (o := 0) (lo := H.length) (xs := []) (l := [a,b]) (get_new _ _ 1) (by omega) (by simp) (by intro x hx; simp at hx; rcases hx with rfl | rfl; exact ha; exact hb) (Nat.zero_le _) (by simp)
 simp only [go_sem,binC,beq_f h3]
 refine seq_cond (t := false) rfl ?_
 simp only [go_sem,binC]
 by_cases h4 : k = 4
 ·refine seq_reg ?_
  simp only [go_sem,binC,beq_t h4]
  refine wpc_cond (t := true) rfl ?_
  simp only [go_sem,binC]
  refine seq_reg ?_
  simp only [go_sem,binC]
  refine wpc_ret ?_
  simp only [go_sem,binC,out_r,thenX_r]
  refine ⟨Or.inr rfl,_,(by (simp only [go_sem,binC]) <;> rfl),_,rfl,?_⟩
  have h1 : varsL (k,a,b) = [a,b] := by simp [varsL,h4]
  rw [h1]
  exact ints_sl (o := 0) (lo := H.length) (xs := []) (l := [a,b]) (get_new _ _ 1) (by omega) (by simp) (by intro x hx; simp at hx; rcases hx with rfl | rfl; exact ha; exact hb) (Nat.zero_le _) (by simp)
 refine seq_reg ?_
 simp only [go_sem,binC,beq_f h4]
 refine wpc_cond (t := false) rfl ?_
 simp only [go_sem,binC]
 refine wpc_skip ?_
 simp only [go_sem,binC,out_n,thenX_n]
 refine seq_reg ?_
 simp only [go_sem,binC]
 refine wpc_ret ⟨Or.inr rfl,_,(by (simp only [go_sem,binC]) <;> rfl),_,rfl,?_⟩
 have h1 : varsL (k,a,b) = [] := by simp [varsL,h2,h3,h4]
 rw [h1]
 exact ⟨by simp,none,rfl,.inl rfl⟩
theorem gcI0 {H : Heap} {v : Value} {l : List Int} (h : SlR Co.int (vw 0 H) v l) {i : Nat} (hi : i < l.length) : ∃ b o,v = .slice (some ⟨b,o,none⟩) l.length l.length /\ getCells H b (o + i) 1 = some [.int .i64 l[i]] := by
 obtain ⟨_,a,rfl,h2⟩ := h
 rcases h2 with h2 | ⟨b,o,rfl,h2⟩
 ·rw [h2] at hi; simp at hi
 ·obtain ⟨cs,h3,h4,_⟩ := h2 i hi
  have h5 := rng_gc h3
  rw [show Co.int.w = 1 from rfl,Nat.mul_one,h4] at h5
  exact ⟨b,o,rfl,h5⟩
theorem gcI2 {H : Heap} {b o n : Nat} {l : List Int} (h : SlR Co.int (vw 0 H) (.slice (some ⟨b,o,none⟩) n n) l) {i : Nat} (hi : i < l.length) : getCells H b (o + i) 1 = some [.int .i64 l[i]] := by
 obtain ⟨b',o',h1,h2⟩ := gcI0 h hi
 simp only [Value.slice.injEq,Option.some.injEq,Addr.mk.injEq,and_true] at h1
 obtain ⟨⟨rfl,rfl⟩,_⟩ := h1
 exact h2
end Go.Proofs.YtbjeldblaclpnaaGreatI
end
section
set_option linter.unusedVariables false
set_option linter.unusedSimpArgs false
namespace Go.Proofs.YtbjeldblaclpnaaGreatI
open Go Go.RowKit
def fp (p : Int × Int) : List Value := [.int .i64 p.1,.int .i64 p.2]
theorem flat_len {α : Type} {fl : α -> List Value} {w : Nat} (hw : ∀ a,(fl a).length = w) (l : List α) : (l.flatMap fl).length = l.length * w := by
 induction l with
 | nil => simp
 | cons a l ih => rw [List.flatMap_cons,List.length_append,ih,hw,List.length_cons,Nat.succ_mul,Nat.add_comm]
def GLi {α : Type} (fl : α -> List Value) (es et lo : Nat) (H : Heap) (v : Value) (l : List α) : Prop := (v = nilS /\ l = []) \/ ∃ b so,lo <= b /\ v = sli b 0 l.length /\ l ≠ [] /\ H[b]? = some ⟨l.flatMap fl,es,et,true,so⟩
def blkOf : Value -> List Nat
 | .slice (some a) _ _ => [a.block]
 | _ => []
theorem GLi.one {α : Type} {fl : α -> List Value} {es et lo : Nat} {H : Heap} {v : Value} {l : List α} (h : GLi fl es et lo H v l) : one v = true := by
 rcases h with ⟨rfl,_⟩ | ⟨b,so,_,rfl,_⟩ <;> rfl
abbrev RunS := List Int × List (Int × Int) × List (Int × Int)
def NumV (lo : Nat) (H : Heap) (nv : Value) (nums : List Int) : Prop := (∃ a,nv = .slice a 0 0 /\ nums = []) \/ ∃ nb,lo <= nb /\ nv = sli nb 0 nums.length /\ nums ≠ [] /\ H[nb]? = some ⟨ints nums,1,3,true,true⟩
theorem NumV.one {lo : Nat} {H : Heap} {v : Value} {l : List Int} (h : NumV lo H v l) : one v = true := by
 rcases h with ⟨_,rfl,_⟩ | ⟨b,_,rfl,_⟩ <;> rfl
structure RunI (Hb : Heap) (rb : Nat) (r : RunS) (M : Nat) (H : Heap) : Prop where
 ag : AgX [] Hb H
 lo : Hb.length <= rb
 ex : ∃ nv wv sv,H[rb]? = some ⟨[nv,wv,sv],0,0,false,true⟩ /\ NumV Hb.length H nv r.1 /\ GLi fp 2 109 Hb.length H wv r.2.1 /\ GLi fp 2 81 Hb.length H sv r.2.2
 rg : ∀ x ∈ r.1,0 <= x /\ x <= 9
 pr : ∀ p,p ∈ r.2.1 \/ p ∈ r.2.2 -> RgI p.1 /\ RgI p.2
 sm : r.2.1.length + r.2.2.length <= M
 ln : r.1.length <= 1000
theorem ints_set {l : List Int} (i : Nat) (x : Int) : (ints l).set i (.int .i64 x) = ints (l.set i x) := List.map_set.symm
theorem wpc_genH {F : Nat -> Option IFn} {lo : Nat} {c : ICode} {e : Env} {H : Heap} {K : X -> Env -> Heap -> Prop} (h : ∀ Hb,Hb = H -> wpc F lo c e Hb K) : wpc F lo c e H K := h _ rfl
end Go.Proofs.YtbjeldblaclpnaaGreatI
end
section
set_option linter.unusedVariables false
set_option linter.unusedSimpArgs false
namespace Go.Proofs.YtbjeldblaclpnaaGreatI
open Go Go.RowKit
theorem inB_iff' {a l h : Int} : inB a l h = true ↔ l <= a /\ a <= h := by simp [inB]
theorem varsL_in {k : Nat} {v : Int × Int × Int} (hv : valB k v = true) : ∀ i ∈ varsL v,0 <= i /\ i < k := by
 obtain ⟨a,b,c⟩ := v
 unfold valB at hv
 simp only [varsL]
 intro i hi
 split at hv
 ·rename_i q; simp only at q; subst q; simp at hi
 ·split at hv
  ·rename_i q; simp only at q; subst q
   simp only [if_true,List.mem_singleton,Bool.and_eq_true,varB,inB_iff'] at hi hv
   subst hi; omega
  ·split at hv
   ·rename_i q1 q2 q3
    simp only at q1 q2 q3
    rw [if_neg q2,if_pos q3] at hi
    simp only [Bool.and_eq_true,varB,inB_iff'] at hv
    simp only [List.mem_cons,List.not_mem_nil,or_false] at hi
    rcases hi with rfl | rfl <;> omega
   ·cases hv
theorem RunI.mono {Hb : Heap} {rb : Nat} {r : RunS} {M M' : Nat} {H : Heap} (h : RunI Hb rb r M H) (hM : M <= M') : RunI Hb rb r M' H := ⟨h.ag,h.lo,h.ex,h.rg,h.pr,Nat.le_trans h.sm hM,h.ln⟩
end Go.Proofs.YtbjeldblaclpnaaGreatI
end
section
set_option linter.unusedVariables false
set_option linter.unusedSimpArgs false
namespace Go.Proofs.YtbjeldblaclpnaaGreatI
open Go Go.RowKit
theorem GLi.slPV {es et lo : Nat} {H : Heap} {v : Value} {l : List (Int × Int)} (h : GLi fp 2 et lo H v l) (hr : ∀ p ∈ l,RgI p.1 /\ RgI p.2) (hl : l.length <= 1000) : SlR Co.p2 (vwl lo [] H) v l := by
 rcases h with ⟨rfl,rfl⟩ | ⟨b,so,hlo,rfl,_,h⟩
 ·exact ⟨by simp,none,rfl,.inl rfl⟩
 ·have hfl := flat_len (fl := fp) (w := 2) (fun _ => rfl) l
  refine ⟨by omega,_,rfl,.inr ⟨b,0,rfl,fun i hi => ⟨fp l[i],?_,⟨[.int .i64 l[i].1],[.int .i64 l[i].2],rfl,⟨rfl,(hr _ (List.getElem_mem hi)).1⟩,⟨rfl,(hr _ (List.getElem_mem hi)).2⟩⟩⟩⟩⟩
  unfold rng vwl
  rw [if_pos ⟨hlo,by simp⟩,h]
  simp only [Option.map_some,Nat.zero_add,show Co.p2.w = 2 from rfl]
  rw [if_pos (by omega)]
  congr 1
  have : l.flatMap fp = (l.take i).flatMap fp ++ (fp l[i] ++ (l.drop (i + 1)).flatMap fp) := by
   conv => lhs; rw [<- List.take_append_drop i l,List.drop_eq_getElem_cons hi]
   rw [List.flatMap_append,List.flatMap_cons]
  rw [this]
  have hlt : ((l.take i).flatMap fp).length = i * 2 := by rw [flat_len (fl := fp) (w := 2) (fun _ => rfl),List.length_take]; omega
  rw [List.drop_append,List.drop_of_length_le (by omega),hlt,Nat.sub_self,List.nil_append,List.drop_zero]
  rfl
theorem GLi.slP {es et lo : Nat} {H : Heap} {v : Value} {l : List (Int × Int)} (h : GLi fp 2 et lo H v l) (hr : ∀ p ∈ l,RgI p.1 /\ RgI p.2) (hl : l.length <= 1000) : SlR Co.p2 (vw 0 H) v l := (h.slPV (es := 2) hr hl).mono (vwl0 _ _ _)
end Go.Proofs.YtbjeldblaclpnaaGreatI
end
section
set_option linter.unusedVariables false
set_option linter.unusedSimpArgs false
namespace Go.Proofs.YtbjeldblaclpnaaGreatI
open Go Go.RowKit
theorem frees_cons {lo : Nat} {H Hm : Heap} {k : Nat} {d : Option Nat} {op : IOp} {r : List IOper} {e e1 : Env} (v : Value) (h1 : iop lo op e H = some (v,H)) (h2 : iop lo op e Hm = some (v,Hm)) (h3 : frees lo H Hm k r (putE e d v) e1) : frees lo H Hm (k + 1) (⟨d,none,op⟩ :: r) e e1 := ⟨rfl,v,h1,h2,h3⟩
theorem iop_load {lo n : Nat} {x : Opd} {e : Env} {H : Heap} {b o : Nat} {cs : List Value} (hx : x.ev e = ptr b o) (hg : getCells H b o n = some cs) : iop lo (.load true n x) e H = some (.agg cs.toArray,H) := by
 simp only [iop,hx,ptr,hg,Option.bind_some,valOf,if_true,Option.map_some]
theorem wpc_genE {F : Nat -> Option IFn} {lo : Nat} {c : ICode} {e : Env} {H : Heap} {K : X -> Env -> Heap -> Prop} (h : ∀ e0,e0 = e -> wpc F lo c e0 H K) : wpc F lo c e H K := h _ rfl
def LawB2 (F : Nat -> Option IFn) (f : Nat) : Prop := ∀ (H : Heap) (v w : Value) (code more : List Int),SlR Co.byte (vw 0 H) v code -> SlR Co.byte (vw 0 H) w more -> QC F f [v,w] H (.bool true)
theorem gcP {H : Heap} {v : Value} {l : List (Int × Int)} (h : SlR Co.p2 (vw 0 H) v l) {i : Nat} (hi : i < l.length) : ∃ b o,v = .slice (some ⟨b,o,none⟩) l.length l.length /\ getCells H b (o + i * 2) 2 = some [.int .i64 l[i].1,.int .i64 l[i].2] := by
 obtain ⟨_,a,rfl,h2⟩ := h
 rcases h2 with h2 | ⟨b,o,rfl,h2⟩
 ·rw [h2] at hi; simp at hi
 ·obtain ⟨cs,h3,h4⟩ := h2 i hi
  have h5 := rng_gc h3
  rw [show Co.p2.w = 2 from rfl] at h5
  obtain ⟨_,_,rfl,⟨rfl,_⟩,⟨rfl,_⟩⟩ := h4
  exact ⟨b,o,rfl,h5⟩
theorem wpo_app {F : Nat -> Option IFn} {lo : Nat} {K : Env -> Heap -> Prop} {l2 : List IOper} : ∀ (l1 : List IOper) (e : Env) (H : Heap),wpo F lo l1 e H (fun e1 H1 => wpo F lo l2 e1 H1 K) -> wpo F lo (l1 ++ l2) e H K
 | [],e,H,h => h
 | o :: r,e,H,h => ⟨fun hr => wpOp_mono (h.1 hr) fun v H1 h1 => wpo_app r _ _ h1,fun hr => wpo_app r _ _ (h.2 hr)⟩
theorem wpo_cut {F : Nat -> Option IFn} {lo : Nat} {K : Env -> Heap -> Prop} {l : List IOper} {e : Env} {H : Heap} (a : Nat)
  (h : ∀ Kc : Env -> Heap -> Prop,(∀ e1 H1,wpo F lo (l.drop a) e1 H1 K -> Kc e1 H1) -> wpo F lo (l.take a) e H Kc) : wpo F lo l e H K := by
 have h3 := wpo_app (l2 := l.drop a) (l.take a) e H (h (fun e1 H1 => wpo F lo (l.drop a) e1 H1 K) fun _ _ h => h)
 rwa [List.take_append_drop] at h3
def c_l6Open : IFn := ⟨1,11,[.t 2],
 .seq (.reg none [⟨some 2,none,.mov (.c (.pointer none))⟩])
 (.seq (.seq (.reg none [⟨some 3,none,.mov (.t 0)⟩,⟨some 4,none,.len (.t 3)⟩,⟨some 5,none,.bin .gtr (.t 4) (.c (.int .i64 2000))⟩])
  (.cond (.t 5) (.reg none [⟨some 6,none,.mov (.t 0)⟩,⟨some 7,none,.sub 1 (.t 6) none (some (.c (.int .i64 2000)))⟩,⟨some 0,none,.mov (.t 7)⟩]) (.skip)))
 (.seq (.reg none [⟨some 8,none,.mov (.t 0)⟩,⟨some 9,none,.build [(.slice none 0 0),(.int .i64 0)] [(0,1,(.t 8))]⟩,⟨some 10,none,.box (.t 9)⟩,
   ⟨some 2,none,.mov (.t 10)⟩])
 (.ret)))⟩
theorem l6Open_ok {F : Nat -> Option IFn} {f : Nat} (hf : F f = some c_l6Open) {H : Heap} {v : Value} {code : List Int} (hv : SlR Co.byte (vw 0 H) v code) (lo : Nat) (hlo : lo <= H.length) : ∃ bv code',NC F lo f [v] H (ptr H.length 0) (H ++ [rBlk bv 0]) /\ RdC H H.length bv code' /\ St H H.length bv 0 (H ++ [rBlk bv 0]) := by
 have hv0 := hv
 obtain ⟨h0,a,rfl,h1⟩ := hv
 have hst : ∀ bv,St H H.length bv 0 (H ++ [rBlk bv 0]) := fun bv => ⟨fun b _ hb => List.getElem?_append_left hb,get_new0 _ _⟩
 by_cases hl : 2000 < (code.length : Int)
 ·obtain ⟨b,o,rfl,h2⟩ := h1.resolve_left (fun h => by rw [h] at hl; simp at hl)
  refine ⟨sli b o 2000,code.take 2000,?_,⟨Nat.le_refl _,⟨by rw [List.length_take]; omega,some ⟨b,o,none⟩,by rw [List.length_take,Nat.min_eq_left (by omega)]; rfl,.inr ⟨b,o,rfl,fun i hi => ?_⟩⟩,by rw [List.length_take]; omega⟩,hst _⟩
  ·refine NC.mkE hf rfl ?_
   refine seq_reg ?_
   simp only [go_sem,binC]
   refine seq_assoc (seq_reg ?_)
   simp only [go_sem,binC]
   refine seq_cond (t := true) (by simp only [go_sem,binC]; rw [decide_eq_true hl]) ?_
   simp only [go_sem,binC]
   refine seq_reg ?_
   have hsub : ∀ e' : Env,subV 1 (.slice (some ⟨b,o,none⟩) code.length code.length) e' none (some (.c (.int .i64 2000))) = some (sli b o 2000) := fun e' => by
    have h3 : (2000 : Int) <= code.length := by omega
    simp [subV,sli,subB,Opd.ev,h3]
   simp only [go_sem,binC,hsub]
   refine seq_reg ?_
   simp only [go_sem,binC]
   exact wpc_ret ⟨Or.inr rfl,_,(by (simp only [go_sem,binC]) <;> rfl),rfl,rfl⟩
  ·rw [List.length_take] at hi
   obtain ⟨cs,h3,h4⟩ := h2 i (by omega)
   refine ⟨cs,h3,?_⟩
   rw [List.getElem_take]
   exact h4
 ·refine ⟨.slice a code.length code.length,code,?_,⟨Nat.le_refl _,hv0,by omega⟩,hst _⟩
  refine NC.mkE hf rfl ?_
  refine seq_reg ?_
  simp only [go_sem,binC]
  refine seq_assoc (seq_reg ?_)
  simp only [go_sem,binC]
  refine seq_cond (t := false) (by simp only [go_sem,binC]; rw [decide_eq_false hl]) ?_
  simp only [go_sem,binC]
  refine seq_skip (seq_reg ?_)
  simp only [go_sem,binC]
  exact wpc_ret ⟨Or.inr rfl,_,(by (simp only [go_sem,binC]) <;> rfl),rfl,rfl⟩
end Go.Proofs.YtbjeldblaclpnaaGreatI
end
section
set_option linter.unusedVariables false
set_option linter.unusedSimpArgs false
namespace Go.Proofs.YtbjeldblaclpnaaGreatI
open Go Go.RowKit
def shOf {n : Nat} (s : TStep (n + 1)) : Shal := (s.1,s.2.1,s.2.2.1,s.2.2.2.1)
def thOf {n : Nat} (s : TStep (n + 1)) : List (TStep n) := s.2.2.2.2.1
def elOf {n : Nat} (s : TStep (n + 1)) : List (TStep n) := s.2.2.2.2.2
def shV (s : Shal) (tv ev : Value) : List Value := [.int .i64 s.1,.int .i64 s.2.1,.int .i64 s.2.2.1.1,.int .i64 s.2.2.1.2.1,.int .i64 s.2.2.1.2.2,.int .i64 s.2.2.2,tv,ev]
def shRg (s : Shal) : Prop := RgI s.1 /\ RgI s.2.1 /\ RgI s.2.2.1.1 /\ RgI s.2.2.1.2.1 /\ RgI s.2.2.1.2.2 /\ RgI s.2.2.2
def EltT {n : Nat} (P : Value -> List (TStep n) -> List Nat -> Prop) (a : TStep (n + 1)) (cs : List Value) (B : List Nat) : Prop := ∃ tv ev B1 B2,cs = shV (shOf a) tv ev /\ shRg (shOf a) /\ P tv (thOf a) B1 /\ P ev (elOf a) B2 /\ B = B1 ++ B2
def BodyT {n : Nat} (P : Value -> List (TStep n) -> List Nat -> Prop) (l : List (TStep (n + 1))) (cs : List Value) (Bs : List (List Nat)) : Prop := l.length <= 1048576 /\ cs.length = l.length * 8 /\ Bs.length = l.length /\ Bs.flatten.Nodup /\
 ∀ (i : Nat) (h : i < l.length) (h' : i < Bs.length),EltT P l[i] ((cs.drop (i * 8)).take 8) Bs[i]
def OwnT (lo : Nat) (H : Heap) : (n : Nat) -> Value -> List (TStep n) -> List Nat -> Prop
 | 0,v,l,B => v = nilS /\ l = [] /\ B = []
 | n + 1,v,l,B => (v = nilS /\ l = [] /\ B = []) \/ ∃ b cs Bs,lo <= b /\ v = sli b 0 l.length /\ l ≠ [] /\ H[b]? = some ⟨cs,8,54,true,true⟩ /\ B = b :: Bs.flatten /\ b ∉ Bs.flatten /\ BodyT (OwnT lo H n) l cs Bs
theorem OwnT.nil {lo : Nat} {H : Heap} : ∀ {n : Nat},OwnT lo H n nilS [] []
 | 0 => ⟨rfl,rfl,rfl⟩
 | n + 1 => .inl ⟨rfl,rfl,rfl⟩
theorem OwnT.one {lo : Nat} {H : Heap} : ∀ {n : Nat} {v : Value} {l : List (TStep n)} {B : List Nat},OwnT lo H n v l B -> one v = true
 | 0,v,l,B,⟨h,_⟩ => by rw [h]; rfl
 | n + 1,v,l,B,.inl ⟨h,_⟩ => by rw [h]; rfl
 | n + 1,v,l,B,.inr ⟨b,cs,Bs,_,h,_⟩ => by rw [h]; rfl
theorem EltT.imp {n : Nat} {P P' : Value -> List (TStep n) -> List Nat -> Prop} {a : TStep (n + 1)} {cs : List Value} {B : List Nat} (h : EltT P a cs B) (h1 : ∀ v l B1,(∀ b ∈ B1,b ∈ B) -> P v l B1 -> P' v l B1) : EltT P' a cs B := by
 obtain ⟨tv,ev,B1,B2,e1,e2,e3,e4,rfl⟩ := h
 exact ⟨tv,ev,B1,B2,e1,e2,h1 _ _ _ (fun b hb => List.mem_append_left _ hb) e3,h1 _ _ _ (fun b hb => List.mem_append_right _ hb) e4,rfl⟩
theorem mem_flat {Bs : List (List Nat)} {i : Nat} (hi : i < Bs.length) {b : Nat} (hb : b ∈ Bs[i]) : b ∈ Bs.flatten := List.mem_flatten.2 ⟨_,List.getElem_mem hi,hb⟩
theorem BodyT.imp {n : Nat} {P P' : Value -> List (TStep n) -> List Nat -> Prop} {l : List (TStep (n + 1))} {cs : List Value} {Bs : List (List Nat)} (h : BodyT P l cs Bs) (h1 : ∀ v l B1,(∀ b ∈ B1,b ∈ Bs.flatten) -> P v l B1 -> P' v l B1) : BodyT P' l cs Bs := by
 obtain ⟨a0,a1,a2,a3,a4⟩ := h
 exact ⟨a0,a1,a2,a3,fun i h h' => (a4 i h h').imp fun v l B1 hs hp => h1 v l B1 (fun b hb => mem_flat h' (hs b hb)) hp⟩
theorem BodyT.nil {n : Nat} {P : Value -> List (TStep n) -> List Nat -> Prop} : BodyT P [] [] [] := ⟨by simp,rfl,rfl,by simp,fun i h => by simp at h⟩
theorem OwnT.keep {lo lo' : Nat} {H H' : Heap} : ∀ {n : Nat} {v : Value} {l : List (TStep n)} {B : List Nat},OwnT lo H n v l B -> lo' <= lo -> (∀ b ∈ B,H'[b]? = H[b]?) -> OwnT lo' H' n v l B
 | 0,v,l,B,h,_,_ => h
 | n + 1,v,l,B,.inl h,_,_ => .inl h
 | n + 1,v,l,B,.inr ⟨b,cs,Bs,h1,h2,h3,h5,h8,h9,h10⟩,hlo,hk => by
   refine .inr ⟨b,cs,Bs,by omega,h2,h3,?_,h8,h9,h10.imp fun v l B1 hs h => OwnT.keep h hlo fun b' hb' => hk b' (by rw [h8]; exact List.mem_cons_of_mem _ (hs b' hb'))⟩
   rw [hk b (by rw [h8]; exact List.mem_cons_self)]; exact h5
theorem OwnT.ge {lo : Nat} {H : Heap} : ∀ {n : Nat} {v : Value} {l : List (TStep n)} {B : List Nat},OwnT lo H n v l B -> ∀ b ∈ B,lo <= b /\ b < H.length /\ ∃ cs,H[b]? = some ⟨cs,8,54,true,true⟩
 | 0,v,l,B,⟨_,_,h⟩,b,hb => by rw [h] at hb; cases hb
 | n + 1,v,l,B,.inl ⟨_,_,h⟩,b,hb => by rw [h] at hb; cases hb
 | n + 1,v,l,B,.inr ⟨b0,cs,Bs,h1,h2,h3,h5,h8,h9,⟨a0,a1,a2,a3,a4⟩⟩,b,hb => by
   rw [h8,List.mem_cons] at hb
   rcases hb with rfl | hb
   ·exact ⟨h1,(List.getElem?_eq_some_iff.1 h5).1,cs,h5⟩
   ·obtain ⟨X,hX,hbX⟩ := List.mem_flatten.1 hb
    obtain ⟨i,hi,rfl⟩ := List.getElem_of_mem hX
    obtain ⟨tv,ev,B1,B2,_,_,e3,e4,e5⟩ := a4 i (by omega) hi
    rw [e5,List.mem_append] at hbX
    rcases hbX with h | h
    ·exact OwnT.ge e3 b h
    ·exact OwnT.ge e4 b h
theorem OwnT.nodup {lo : Nat} {H : Heap} : ∀ {n : Nat} {v : Value} {l : List (TStep n)} {B : List Nat},OwnT lo H n v l B -> B.Nodup
 | 0,v,l,B,⟨_,_,h⟩ => by rw [h]; exact List.nodup_nil
 | n + 1,v,l,B,.inl ⟨_,_,h⟩ => by rw [h]; exact List.nodup_nil
 | n + 1,v,l,B,.inr ⟨b0,cs,Bs,h1,h2,h3,h5,h8,h9,⟨a0,a1,a2,a3,a4⟩⟩ => by rw [h8]; exact List.nodup_cons.2 ⟨h9,a3⟩
theorem OwnT.len {lo : Nat} {H : Heap} : ∀ {n : Nat} {v : Value} {l : List (TStep n)} {B : List Nat},OwnT lo H n v l B -> l.length <= 1048576 /\ ∃ a,v = .slice a l.length l.length
 | 0,v,l,B,⟨h,h2,_⟩ => by rw [h,h2]; exact ⟨by simp,none,rfl⟩
 | n + 1,v,l,B,.inl ⟨h,h2,_⟩ => by rw [h,h2]; exact ⟨by simp,none,rfl⟩
 | n + 1,v,l,B,.inr ⟨b,cs,Bs,_,h,_,_,_,_,⟨a0,_⟩⟩ => ⟨a0,_,h⟩
theorem OwnT.sl {lo : Nat} {H : Heap} : ∀ {n : Nat} {v : Value} {l : List (TStep n)} {B : List Nat},OwnT lo H n v l B -> SlR (Co.step n) (vws lo H) v l
 | 0,v,l,B,⟨h,h2,_⟩ => by rw [h,h2]; exact ⟨by simp,none,rfl,.inl rfl⟩
 | n + 1,v,l,B,.inl ⟨h,h2,_⟩ => by rw [h,h2]; exact ⟨by simp,none,rfl,.inl rfl⟩
 | n + 1,v,l,B,.inr ⟨b,cs,Bs,h1,h2,h3,h5,h8,h9,⟨a0,a1,a2,a3,a4⟩⟩ => by
   refine ⟨by omega,_,h2,.inr ⟨b,0,rfl,fun i hi => ?_⟩⟩
   obtain ⟨tv,ev,B1,B2,e1,e2,e3,e4,e5⟩ := a4 i hi (by omega)
   have hr := step_rd e2.1 e2.2.1 e2.2.2.1 e2.2.2.2.1 e2.2.2.2.2.1 e2.2.2.2.2.2 (OwnT.sl e3) (OwnT.sl e4)
   refine ⟨shV (shOf l[i]) tv ev,?_,hr⟩
   unfold rng vws
   rw [if_pos h1,h5]
   simp only [Option.bind_some,if_true,Nat.zero_add,step_w]
   rw [if_pos (by have : i * 8 + 8 <= l.length * 8 := by omega
                  omega),<- e1]
theorem flat_apart {Bs : List (List Nat)} (h : Bs.flatten.Nodup) {i j : Nat} (hi : i < Bs.length) (hj : j < Bs.length) (hij : i ≠ j) {b : Nat} (hb : b ∈ Bs[i]) : b ∉ Bs[j] := by
 have hp := (List.pairwise_flatten.1 h).2
 intro hb2
 rcases Nat.lt_or_ge i j with hlt | hge
 ·exact (List.pairwise_iff_getElem.1 hp i j hi hj hlt) b hb b hb2 rfl
 ·exact (List.pairwise_iff_getElem.1 hp j i hj hi (by omega)) b hb2 b hb rfl
theorem flat_in {Bs : List (List Nat)} (h : Bs.flatten.Nodup) {i : Nat} (hi : i < Bs.length) : Bs[i].Nodup := (List.pairwise_flatten.1 h).1 _ (List.getElem_mem hi)
theorem BodyT.snoc {n : Nat} {P P' : Value -> List (TStep n) -> List Nat -> Prop} {l : List (TStep (n + 1))} {cs cs8 : List Value} {Bs : List (List Nat)} {a : TStep (n + 1)} {B : List Nat} (h : BodyT P l cs Bs) (h1 : ∀ v l B1,(∀ b ∈ B1,b ∈ Bs.flatten) -> P v l B1 -> P' v l B1) (ha : EltT P' a cs8 B) (hB : B.Nodup) (hap : ∀ b ∈ B,b ∉ Bs.flatten) (hl : l.length < 1048576) : BodyT P' (l ++ [a]) (cs ++ cs8) (Bs ++ [B]) := by
 obtain ⟨a0,a1,a2,a3,a4⟩ := h
 have h8 : cs8.length = 8 := by obtain ⟨tv,ev,B1,B2,e1,_⟩ := ha; rw [e1]; rfl
 refine ⟨by rw [List.length_append,List.length_singleton]; omega,by rw [List.length_append,List.length_append,a1,h8,List.length_singleton]; omega,by rw [List.length_append,List.length_append,a2]; rfl,?_,fun i hi hi' => ?_⟩
 ·rw [List.flatten_append,List.nodup_append]
  refine ⟨a3,by simpa using hB,fun x hx y hy => ?_⟩
  simp only [List.flatten_cons,List.flatten_nil,List.append_nil] at hy
  intro he
  subst he
  exact hap x hy hx
 ·rcases Nat.lt_or_ge i l.length with hlt | hge
  ·rw [List.getElem_append_left hlt,List.getElem_append_left (by omega : i < Bs.length)]
   have := (a4 i hlt (by omega)).imp fun v l B1 hs hp => h1 v l B1 (fun b hb => mem_flat (by omega) (hs b hb)) hp
   have hd : ((cs ++ cs8).drop (i * 8)).take 8 = (cs.drop (i * 8)).take 8 := by
    rw [List.drop_append_of_le_length (by omega),List.take_append_of_le_length (by rw [List.length_drop]; omega)]
   rw [hd]
   exact this
  ·have hil : i = l.length := by rw [List.length_append,List.length_singleton] at hi; omega
   subst hil
   have e1 : (l ++ [a])[l.length]'hi = a := by simp
   have e2 : (Bs ++ [B])[l.length]'hi' = B := by
    rw [List.getElem_append_right (by omega)]; simp
   rw [e1,e2,List.drop_append,List.drop_of_length_le (by omega),a1,Nat.sub_self,List.nil_append,List.drop_zero,List.take_of_length_le (by omega)]
   exact ha
def mapT (T : Shal -> Shal) : (n : Nat) -> TStep n -> TStep n
 | 0,s => s
 | n + 1,(k,x,v,g,th,el) => ((T (k,x,v,g)).1,(T (k,x,v,g)).2.1,(T (k,x,v,g)).2.2.1,(T (k,x,v,g)).2.2.2,th.map (mapT T n),el.map (mapT T n))
end Go.Proofs.YtbjeldblaclpnaaGreatI
end
