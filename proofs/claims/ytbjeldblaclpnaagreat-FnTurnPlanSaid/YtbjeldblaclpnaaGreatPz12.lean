/- Texts of this proof, merged: K11, K12, K19, K20, K18, K22. -/
import Derived.Test.YtbjeldblaclpnaaGreatPz9
import Derived.Test.YtbjeldblaclpnaaGreatPz10
import Derived.Test.YtbjeldblaclpnaaGreatPz11
section
set_option linter.unusedVariables false
set_option linter.unusedSimpArgs false
namespace Go.Proofs.YtbjeldblaclpnaaGreatI
open Go Go.RowKit
def c_sTypeOk : IFn := ⟨1,16,[.t 2],
 .seq (.reg none [⟨some 1,none,.box (.t 0)⟩,⟨some 2,none,.mov (.c (.bool false))⟩])
 (.seq (.reg none [⟨some 6,none,.load true 2 (.t 1)⟩,⟨some 7,none,.call .q (.f 55) [.t 6]⟩,⟨some 5,none,.mov (.t 7)⟩,⟨some 8,none,.ext (.t 5) 0⟩,
   ⟨some 9,none,.ext (.t 5) 1⟩,⟨some 3,none,.mov (.t 8)⟩,⟨some 4,none,.mov (.t 9)⟩])
 (.seq (.reg none [⟨some 10,none,.load true 2 (.t 1)⟩,⟨some 11,none,.call .q (.f 56) [.t 10]⟩,⟨some 12,none,.mov (.t 11)⟩,⟨some 13,some (12,true),.mov (.t 4)⟩,
   ⟨some 14,some (12,true),.un .not (.t 13)⟩,⟨some 15,none,.pick (.t 12) (.t 14) (.c (.bool false))⟩,⟨some 2,none,.mov (.t 15)⟩])
 (.ret)))⟩
def c_lFind : IFn := ⟨2,59,[.cell true 3 4,.t 5],
 .seq (.reg none [⟨some 4,none,.new [(.slice none 0 0),(.slice none 0 0),(.slice none 0 0)]⟩,⟨some 5,none,.mov (.c (.bool false))⟩])
 (.seq (.seq (.reg none [⟨some 11,none,.mov (.t 1)⟩,⟨some 12,none,.len (.t 11)⟩,⟨some 13,none,.mov (.t 0)⟩,⟨some 14,none,.nilck (.t 13)⟩,
   ⟨some 15,none,.fad 0 (.t 14)⟩,⟨some 16,none,.fad 0 (.t 15)⟩,⟨some 17,none,.load false 1 (.t 16)⟩,⟨some 18,none,.len (.t 17)⟩,
   ⟨some 19,none,.bin .eql (.t 12) (.t 18)⟩])
  (.cond (.t 19) (.seq (.reg none [⟨some 21,none,.mov (.t 0)⟩,⟨some 22,none,.mov (.t 1)⟩,⟨some 23,none,.call .k (.f 102) [.t 21,.t 22]⟩,
    ⟨some 20,none,.mov (.t 23)⟩,⟨some 24,none,.ext (.t 20) 0⟩,⟨some 25,none,.ext (.t 20) 1⟩,⟨some 6,none,.mov (.t 24)⟩,⟨some 7,none,.mov (.t 25)⟩])
   (.seq (.reg none [⟨some 26,none,.lit 1 3 0 [] []⟩,⟨some 27,none,.mov (.t 0)⟩,⟨some 28,none,.nilck (.t 27)⟩,⟨some 29,none,.fad 2 (.t 28)⟩,
     ⟨some 30,none,.load false 1 (.t 29)⟩,⟨some 31,none,.app 1 3 8 true (.t 26) (.t 30)⟩,⟨some 32,none,.mov (.t 1)⟩,⟨some 33,none,.mov (.t 6)⟩,
     ⟨some 34,none,.build [(.slice none 0 0),(.slice none 0 0),(.slice none 0 0)] [(0,1,(.t 31)),(1,1,(.t 32)),(2,1,(.t 33))]⟩,⟨some 35,none,.mov (.t 7)⟩,
     ⟨none,none,.store 3 (.t 4) (.t 34)⟩,⟨some 5,none,.mov (.t 35)⟩])
   (.ret))) (.skip)))
 (.seq (.seq (.reg none [⟨some 8,none,.mov (.c (.int .i64 0))⟩])
  (.block 0 (.loop (.seq (.seq (.reg none [⟨some 36,none,.mov (.t 8)⟩,⟨some 37,none,.bin .lss (.t 36) (.c (.int .i64 3))⟩])
    (.cond (.t 37) (.skip) (.exit 0)))
   (.seq (.block 1 (.seq (.reg none [⟨some 40,none,.mov (.t 0)⟩,⟨some 41,none,.mov (.t 1)⟩,⟨some 42,none,.len (.t 41)⟩,⟨some 43,none,.mov (.t 8)⟩,
      ⟨some 44,none,.call .q (.f 29) [.t 40,.t 42,.t 43]⟩])
    (.cond (.t 44) (.seq (.reg none [⟨some 46,none,.mov (.t 0)⟩,⟨some 47,none,.lit 1 3 0 [] []⟩,⟨some 48,none,.mov (.t 1)⟩,
      ⟨some 49,none,.app 1 3 8 true (.t 47) (.t 48)⟩,⟨some 50,none,.mov (.t 8)⟩,⟨some 51,none,.lit 1 3 1 [(.int .i64 0)] [(0,1,(.t 50))]⟩,
      ⟨some 52,none,.app 1 3 8 true (.t 49) (.t 51)⟩,⟨some 53,none,.call .k (.f 93) [.t 46,.t 52]⟩,⟨some 45,none,.mov (.t 53)⟩,⟨some 54,none,.ext (.t 45) 0⟩,
      ⟨some 55,none,.ext (.t 45) 1⟩,⟨some 9,none,.new [(.slice none 0 0),(.slice none 0 0),(.slice none 0 0)]⟩,⟨none,none,.store 3 (.t 9) (.t 54)⟩,
      ⟨some 10,none,.mov (.t 55)⟩])
     (.seq (.reg none [⟨some 56,none,.mov (.t 10)⟩])
     (.cond (.t 56) (.seq (.reg none [⟨some 57,none,.load true 3 (.t 9)⟩,⟨none,none,.store 3 (.t 4) (.t 57)⟩,⟨some 5,none,.mov (.c (.bool true))⟩])
      (.ret)) (.skip)))) (.skip))))
   (.reg none [⟨some 38,none,.mov (.t 8)⟩,⟨some 39,none,.bin .add (.t 38) (.c (.int .i64 1))⟩,⟨some 8,none,.mov (.t 39)⟩]))))))
 (.seq (.reg none [⟨some 58,none,.build [(.slice none 0 0),(.slice none 0 0),(.slice none 0 0)] []⟩,⟨none,none,.store 3 (.t 4) (.t 58)⟩,
   ⟨some 5,none,.mov (.c (.bool false))⟩])
 (.ret))))⟩
def c_sPlanFind : IFn := ⟨2,29,[.cell true 3 4,.t 5],
 .seq (.reg none [⟨some 2,none,.box (.t 0)⟩,⟨some 4,none,.new [(.slice none 0 0),(.slice none 0 0),(.slice none 0 0)]⟩,⟨some 5,none,.mov (.c (.bool false))⟩])
 (.seq (.seq (.reg none [⟨some 8,none,.load true 2 (.t 2)⟩,⟨some 9,none,.call .q (.f 24) [.t 8]⟩,⟨some 10,none,.un .not (.t 9)⟩,⟨some 11,none,.mov (.t 10)⟩,
   ⟨some 12,some (11,false),.mov (.t 1)⟩,⟨some 13,some (11,false),.call .q (.f 25) [.t 12]⟩,⟨some 14,some (11,false),.un .not (.t 13)⟩,
   ⟨some 15,none,.pick (.t 11) (.c (.bool true)) (.t 14)⟩])
  (.cond (.t 15) (.seq (.reg none [⟨some 16,none,.build [(.slice none 0 0),(.slice none 0 0),(.slice none 0 0)] []⟩,⟨none,none,.store 3 (.t 4) (.t 16)⟩,
    ⟨some 5,none,.mov (.c (.bool false))⟩])
   (.ret)) (.skip)))
 (.seq (.reg none [⟨some 18,none,.load true 2 (.t 2)⟩,⟨some 19,none,.mov (.t 1)⟩,⟨some 20,none,.call .n (.f 28) [.t 18,.t 19]⟩,⟨some 21,none,.lit 1 3 0 [] []⟩,
   ⟨some 22,none,.call .k (.f 93) [.t 20,.t 21]⟩,⟨some 17,none,.mov (.t 22)⟩,⟨some 23,none,.ext (.t 17) 0⟩,⟨some 24,none,.ext (.t 17) 1⟩,
   ⟨some 6,none,.new [(.slice none 0 0),(.slice none 0 0),(.slice none 0 0)]⟩,⟨none,none,.store 3 (.t 6) (.t 23)⟩,⟨some 7,none,.mov (.t 24)⟩])
 (.seq (.seq (.reg none [⟨some 25,none,.mov (.t 7)⟩,⟨some 26,none,.un .not (.t 25)⟩])
  (.cond (.t 26) (.seq (.reg none [⟨some 27,none,.build [(.slice none 0 0),(.slice none 0 0),(.slice none 0 0)] []⟩,⟨none,none,.store 3 (.t 4) (.t 27)⟩,
    ⟨some 5,none,.mov (.c (.bool false))⟩])
   (.ret)) (.skip)))
 (.seq (.reg none [⟨some 28,none,.load true 3 (.t 6)⟩,⟨none,none,.store 3 (.t 4) (.t 28)⟩,⟨some 5,none,.mov (.c (.bool true))⟩])
 (.ret)))))⟩
theorem sTypeOk_ok {F : Nat -> Option IFn} {f : Nat} (hf : F f = some c_sTypeOk) (gw : WhyV F 55) (gp : ProgOk F 56) : TypeP F f := by
 intro H n lv sv ls l r1 r2 hsm
 have olv : one lv = true := by obtain ⟨_,a,rfl,_⟩ := r1; rfl
 have osv : one sv = true := by obtain ⟨_,a,rfl,_⟩ := r2; rfl
 refine QC.mk hf rfl ?_
 refine seq_reg ?_
 simp only [go_sem,binC,olv,osv]
 refine wpc_gen fun H1 hH1 => ?_
 have hx1 : AgX [] H H1 := hH1 ▸ AgX.app [] _ _
 have hb : H1[H.length]? = some ⟨[lv,sv],0,0,false,true⟩ := hH1 ▸ get_new0 _ _
 clear hH1
 have hS := agx_sub hx1
 refine seq_reg ?_
 simp only [go_sem,binC,gc_of hb,inBlk_some,olv,osv]
 refine op_callQ (by simp only [go_sem,binC]; exact gw H1 n _ _ ls l (r1.mono hS) (r2.mono hS) hsm) ?_
 simp only [go_sem,binC]
 refine seq_reg ?_
 simp only [go_sem,binC,gc_of hb,inBlk_some,olv,osv]
 refine op_callQ (by simp only [go_sem,binC]; exact gp H1 n _ (ls,l) (prog_rd (r1.mono hS) (r2.mono hS)) hsm) ?_
 cases hP : progB n (ls,l) with
 | false =>
   simp only [go_sem,binC]
   refine wpc_ret ⟨Or.inr rfl,.bool false,(by (simp only [go_sem,binC]) <;> rfl),?_,rfl⟩
   refine congrArg _ ?_
   show _ = typeP n (ls,l)
   unfold typeP
   rw [hP]
   rfl
 | true =>
   simp only [go_sem,binC]
   refine wpc_ret ⟨Or.inr rfl,.bool (!(whyV n (ls,l)).2),(by (simp only [go_sem,binC]) <;> rfl),?_,rfl⟩
   refine congrArg _ ?_
   show _ = typeP n (ls,l)
   unfold typeP
   rw [hP]
   rfl
def extL (ls : List (Int × Int)) (ts : List Int) : Nat -> List Int -> List (List Int)
 | 0,homes => [homes]
 | m + 1,homes => (hostsL (hmB ls ts homes.length) 3).flatMap fun h => extL ls ts m (homes ++ [h])
theorem flatMap_same {α β : Type} {f g : α -> List β} : ∀ l : List α,(∀ a ∈ l,f a = g a) -> l.flatMap f = l.flatMap g
 | [],_ => rfl
 | a :: l,h => by rw [List.flatMap_cons,List.flatMap_cons,h a List.mem_cons_self,flatMap_same l fun a ha => h a (List.mem_cons_of_mem _ ha)]
theorem extL_hm {ls : List (Int × Int)} {ts : List Int} : ∀ (m v : Nat),(hmL ls ts v).flatMap (extL ls ts m) = hmL ls ts (v + m)
 | 0,v => by
   show (hmL ls ts v).flatMap (fun l => [l]) = _
   rw [List.flatMap_singleton']
   rfl
 | m + 1,v => by
   have h1 : (hmL ls ts v).flatMap (extL ls ts (m + 1)) = (hmL ls ts v).flatMap fun l => ((hostsL (hmB ls ts v) 3).map fun h => l ++ [h]).flatMap (extL ls ts m) := flatMap_same _ fun l hl => by
    have := (hmL_el v l hl).1
    show (hostsL (hmB ls ts l.length) 3).flatMap (fun h => extL ls ts m (l ++ [h])) = _
    rw [this,List.flatMap_map]
   rw [h1,<- List.flatMap_assoc]
   have := extL_hm (ls := ls) (ts := ts) m (v + 1)
   rw [show v + (m + 1) = v + 1 + m by omega,<- this]
   rfl
theorem extL_nil {ls : List (Int × Int)} {ts : List Int} (m : Nat) : extL ls ts m [] = hmL ls ts m := by
 have := extL_hm (ls := ls) (ts := ts) m 0
 rw [Nat.zero_add] at this
 rw [<- this]
 simp [hmL]
def PlanX (lo b : Nat) (H : Heap) (tv hv dv : Value) (ts : List Int) (o : Option (List Int)) (d : List Int -> List Int) : Prop := match o with
 | none => one tv = true /\ one hv = true /\ one dv = true
 | some homes => ∃ b1 b2 b3,tv = sli b1 0 ts.length /\ hv = sli b2 0 homes.length /\ dv = sli b3 0 (d homes).length /\ IntsO 3 lo H b1 true ts /\ IntsO 3 0 H b2 true homes /\ IntsO 3 lo H b3 true (d homes) /\ (b2 = b \/ lo <= b2) /\ b1 ≠ b2 /\ b1 ≠ b3 /\ b2 ≠ b3
theorem PlanX.one {lo b : Nat} {H : Heap} {tv hv dv : Value} {ts : List Int} {o : Option (List Int)} {d : List Int -> List Int} (h : PlanX lo b H tv hv dv ts o d) : Go.Proofs.YtbjeldblaclpnaaGreatI.one tv = true /\ Go.Proofs.YtbjeldblaclpnaaGreatI.one hv = true /\ Go.Proofs.YtbjeldblaclpnaaGreatI.one dv = true := by
 cases o with
 | none => exact h
 | some homes =>
   obtain ⟨b1,b2,b3,rfl,rfl,rfl,_⟩ := h
   exact ⟨rfl,rfl,rfl⟩
theorem PlanX.keep {lo lo' b b' : Nat} {H H' : Heap} {tv hv dv : Value} {ts : List Int} {o : Option (List Int)} {d : List Int -> List Int} {xs : List Nat} (h : PlanX lo b H tv hv dv ts o d) (hl : lo' <= lo) (hx : AgX xs H H') (hn : ∀ c,c = b \/ lo <= c -> c ∉ xs) (hb : b = b' \/ lo' <= b) : PlanX lo' b' H' tv hv dv ts o d := by
 cases o with
 | none => exact h
 | some homes =>
   obtain ⟨b1,b2,b3,h1,h2,h3,q1,q2,q3,q4,q5⟩ := h
   refine ⟨b1,b2,b3,h1,h2,h3,q1.keep hl hx (hn _ (.inr q1.ge)),q2.keep (Nat.le_refl _) hx (hn _ q4),q3.keep hl hx (hn _ (.inr q3.ge)),?_,q5⟩
   rcases q4 with h | h
   ·subst h
    rcases hb with h | h
    ·exact .inl h
    ·exact .inr h
   ·exact .inr (by omega)
def LFind (F : Nat -> Option IFn) (f m : Nat) : Prop := ∀ (lo : Nat) (H : Heap) (W n : Nat) (ls : List (Int × Int)) (l : List (TStep n)) (ts : List Int) (b : Nat) (homes : List Int),m + homes.length = ls.length -> LookR H W n ls l ts -> progB n (ls,l) = true -> (Co.prog n).sm (ls,l) -> trP ts -> IntsO 3 lo H b true homes -> (∀ x ∈ homes,0 <= x /\ x <= 2) ->
 ∃ w H',KC F f [ptr W 0,sli b 0 homes.length] H w H' /\ ∃ tv hv dv,w = .tuple #[.agg #[tv,hv,dv],.bool ((extL ls ts m homes).find? (fitsB n (ls,l) ts)).isSome] /\ AgX [] H H' /\ PlanX H.length b H' tv hv dv ts ((extL ls ts m homes).find? (fitsB n (ls,l) ts)) (doesL n (ls,l) ts)
theorem lFind_ok {F : Nat -> Option IFn} {f m : Nat} (hf : F f = some c_lFind) (gh : LHome F 29) (gd : LDoes F 102) (ih : ∀ m',m = m' + 1 -> LFind F 93 m') : LFind F f m := by
 intro lo H W n ls l ts b homes hm hL hP hsm htr hI hho
 have hlab : ls.all labB = true := progB_lab hP
 have hls4 : ls.length <= 4 := progB_len hP
 have hts : ts.length = 3 := htr.1
 have hblt := hI.lt
 refine KC.mk hf rfl ?_
 refine seq_reg ?_
 simp only [go_sem,binC]
 refine wpc_gen fun H1 hH1 => ?_
 have hx1 : AgX [] H H1 := hH1 ▸ AgX.app [] _ _
 have hb4 : H1[H.length]? = some ⟨[nilS,nilS,nilS],0,0,false,true⟩ := hH1 ▸ get_new0 _ _
 clear hH1
 have hl1 := (List.getElem?_eq_some_iff.1 hb4).1
 have hL1 := hL.mono hx1
 obtain ⟨lv,sv,tw,li,la,se,bv,osv,hW,r1,r2,r3,r4,r5,r6⟩ := hL1.ex
 obtain ⟨_,lva,rfl,_⟩ := id r1
 obtain ⟨_,ta,rfl,_⟩ := id r2
 refine seq_assoc (seq_reg ?_)
 simp only [go_sem,binC,gc_of hW,inBlk_some,sli]
 cases m with
 | zero =>
   have hlen : homes.length = ls.length := by omega
   have hho' : homesP ls.length homes := ⟨hlen,hho⟩
   rw [hlen]
   refine seq_cond (t := true) (by simp only [go_sem,binC]; simp) ?_
   simp only [go_sem,binC]
   refine seq_assoc (seq_reg ?_)
   simp only [go_sem,binC]
   obtain ⟨w,H2,k2,b3,out,rfl,hx2,o3,hout⟩ := gd H1 W n ls l ts (sli b 0 homes.length) homes hL1 hP hsm (hI.sl.mono (agx_sub hx1)) hho'
   rw [hlen] at k2
   refine op_callK (by simp only [go_sem,binC]; exact k2) ?_
   simp only [go_sem,binC]
   have hx02 := hx1.tr hx2
   have hW2 := hx2.get hW (by simp)
   have hb42 := hx2.get hb4 (by simp)
   refine seq_assoc (seq_reg ?_)
   simp only [go_sem,binC,sli]
   generalize hH3 : H2 ++ [(⟨[],1,3,true,true⟩ : Blk)] = H3
   have hx3 : AgX [] H2 H3 := hH3 ▸ AgX.app [] _ _
   have oI3 : IntsO 3 H2.length H3 H2.length true [] := hH3 ▸ IntsO.nil (Nat.le_refl _)
   clear hH3
   have hW3 := hx3.get hW2 (by simp)
   have hx03 := hx02.tr hx3
   simp only [go_sem,binC,gc_of hW3,inBlk_some]
   have hl2 := hx2.1
   refine op_app_IK (kill := true) oI3 (by (simp only [go_sem,binC]) <;> rfl) (by (simp only [go_sem,binC]) <;> rfl) (r2.mono (agx_sub (hx2.tr hx3))) (by omega) (by simp; omega) (by omega) fun H4 b4 so4 hx4 hb4' hso4 o4 => ?_
   rw [hso4 rfl,List.nil_append] at o4
   have hx04 : AgX [] H H4 := hx03.trans hx4 (fun _ h _ => h) (fun b' h1 h2 => by simp only [List.mem_singleton] at h1; omega)
   have hx14 : AgX [] H1 H4 := (hx2.tr hx3).trans hx4 (fun _ h _ => h) (fun b' h1 h2 => by simp only [List.mem_singleton] at h1; omega)
   have hb44 := hx14.get hb4 (by simp)
   have hb44l := (List.getElem?_eq_some_iff.1 hb44).1
   have hl3 := hx3.1
   have hl4 := hx4.1
   have o34 : IntsO 3 H1.length H4 b3 true out := (o3.keep (Nat.le_refl _) hx3 (by simp)).keep (Nat.le_refl _) hx4 (by have := o3.lt; simp; omega)
   rw [List.nil_append]
   simp only [go_sem,binC,hb44,sli]
   have hxs : AgX [H.length] H4 (H4.set H.length ⟨[sli b4 0 ts.length,sli b 0 ls.length,sli b3 0 out.length],0,0,false,true⟩) := AgX.set _ _ _
   have hb3l := o3.lt
   have hb3g := o3.ge
   have hb4g := o4.ge
   have oIf := (hI.keep (Nat.zero_le _) hx04 (by simp)).keep (Nat.le_refl _) hxs (by simp; omega)
   refine seq_ret ⟨Or.inr rfl,.tuple #[.agg #[sli b4 0 ts.length,sli b 0 ls.length,sli b3 0 out.length],.bool (fitsB n (ls,l) ts homes)],?_,sli b4 0 ts.length,sli b 0 ls.length,sli b3 0 out.length,?_,hx04.setN (by omega) _,?_⟩
   ·simp [resV,resL,res1,putE_get,notT,ptr,gc_set hb44l,inBlk_some,valOf,sli]
   ·simp only [extL,List.find?_cons,List.find?_nil]
    cases fitsB n (ls,l) ts homes <;> rfl
   ·simp only [extL,List.find?_cons,List.find?_nil]
    cases hft : fitsB n (ls,l) ts homes with
    | false => exact ⟨rfl,rfl,rfl⟩
    | true =>
      have hd := hout hft
      subst hd
      exact ⟨b4,b,b3,rfl,by rw [hlen],rfl,(o4.keep (by omega) hxs (by simp only [List.mem_singleton]; omega)),oIf,(o34.keep (by omega) hxs (by simp only [List.mem_singleton]; omega)),.inl rfl,by omega,by omega,by omega⟩
 | succ m =>
   have hlen : homes.length < ls.length := by omega
   have hne : ¬ ((homes.length : Int) = ls.length) := by omega
   refine seq_cond (t := false) (by simp only [go_sem,binC]; rw [beq_f hne]) ?_
   simp only [go_sem,binC]
   refine seq_skip (seq_assoc (seq_reg ?_))
   simp only [go_sem,binC]
   refine seq_block (wpc_loop ?_)
   have hsucc : (extL ls ts (m + 1) homes) = (hostsL (hmB ls ts homes.length) 3).flatMap fun h => extL ls ts m (homes ++ [h]) := rfl
   generalize hPd : hmB ls ts homes.length = P at *
   rw [hsucc]
   have hrest : ∀ i : Nat,i < 3 -> ((([0,1,2] : List Int).drop i).filter P).flatMap (fun h => extL ls ts m (homes ++ [h])) = (if P i = true then extL ls ts m (homes ++ [(i : Int)]) else []) ++ ((([0,1,2] : List Int).drop (i + 1)).filter P).flatMap (fun h => extL ls ts m (homes ++ [h])) := fun i hi => by
    have hi3 : i = 0 \/ i = 1 \/ i = 2 := by omega
    rcases hi3 with rfl | rfl | rfl <;> simp only [List.drop_zero,List.drop_succ_cons,List.filter_cons,List.filter_nil] <;> split <;> simp_all
   suffices hh : ∀ (k i : Nat) (e : Env) (Hc : Heap),i + k = 3 -> AgX [] H1 Hc -> ((hostsL P 3).flatMap fun h => extL ls ts m (homes ++ [h])).find? (fitsB n (ls,l) ts) = (((([0,1,2] : List Int).drop i).filter P).flatMap (fun h => extL ls ts m (homes ++ [h]))).find? (fitsB n (ls,l) ts) -> e 0 = ptr W 0 -> e 1 = .slice (some ⟨b,0,none⟩) homes.length homes.length -> e 4 = ptr H.length 0 -> e 8 = .int .i64 i -> Go.Proofs.YtbjeldblaclpnaaGreatI.W F H.length _ e Hc _ from
    hh 3 0 _ H1 rfl (AgX.refl _ _) (by simp [hostsL]) (by simp only [go_sem,binC]) (by simp only [go_sem,binC]) (by simp only [go_sem,binC]) (by (simp only [go_sem,binC]) <;> rfl)
   intro k
   induction k with
   | zero =>
     intro i e Hc hi hxc hfd e0 e1 e4 e8
     obtain rfl : i = 3 := by omega
     have hd3 : decide (((3 : Nat) : Int) < 3) = false := rfl
     have hb4c := hxc.get hb4 (by simp)
     have hb4l := (List.getElem?_eq_some_iff.1 hb4c).1
     replace hfd : ((hostsL P 3).flatMap fun h => extL ls ts m (homes ++ [h])).find? (fitsB n (ls,l) ts) = none := by rw [hfd]; rfl
     refine lp_step ?_
     refine seq_assoc (seq_reg ?_)
     simp only [go_sem,binC,e8,hd3]
     refine seq_cond (t := false) (by simp only [go_sem,binC]) ?_
     simp only [go_sem,binC]
     refine seq_exit ?_
     simp only [go_sem,binC,thenX_e,out_e,thenX_n]
     refine seq_reg ?_
     simp only [go_sem,binC,e4,hb4c]
     refine wpc_ret ⟨Or.inr rfl,.tuple #[.agg #[nilS,nilS,nilS],.bool false],?_,nilS,nilS,nilS,?_,(hx1.tr hxc).setN (by omega) _,?_⟩
     ·simp [resV,resL,res1,putE_get,notT,ptr,gc_set hb4l,inBlk_some,valOf,e4]
     ·rw [hfd]; rfl
     ·rw [hfd]; exact ⟨rfl,rfl,rfl⟩
   | succ k ihk =>
     intro i e Hc hi hxc hfd e0 e1 e4 e8
     have hdi : decide ((i : Int) < 3) = true := decide_eq_true (by omega)
     have hw1 : IntKind.i64.wrap ((i : Int) + 1) = ((i + 1 : Nat) : Int) := by rw [wrap_id (by omega) (by omega)]; omega
     have hxH := hx1.tr hxc
     have hLc := hL.mono hxH
     have hcall := gh Hc W n ls l ts homes.length i hLc hlab (by omega) (by omega) (by omega) (by omega)
     rw [hPd] at hcall
     have hrs := hrest i (by omega)
     rw [hrs] at hfd
     refine lp_step ?_
     refine seq_assoc (seq_reg ?_)
     simp only [go_sem,binC,e8,hdi]
     refine seq_cond (t := true) (by simp only [go_sem,binC]) ?_
     simp only [go_sem,binC]
     refine seq_skip (seq_block (seq_reg ?_))
     simp only [go_sem,binC,e0,e1,e8]
     refine op_callQ (by simp only [go_sem,binC,e0,e1,e8]; exact hcall) ?_
     cases hp : P i with
     | false =>
       rw [hp,if_neg (by simp),List.nil_append] at hfd
       simp only [go_sem,binC]
       refine wpc_cond (t := false) rfl ?_
       simp only [go_sem,binC]
       refine wpc_skip ?_
       simp only [go_sem,binC,out_n,thenX_n]
       refine wpc_reg ?_
       simp only [go_sem,binC,e8,hw1]
       simp only [go_sem,binC,thenX_n]
       exact ihk (i + 1) _ Hc (by omega) hxc hfd (by simp only [go_sem,binC,e0]) (by simp only [go_sem,binC,e1]) (by simp only [go_sem,binC,e4]) (by simp only [go_sem,binC])
     | true =>
       rw [hp,if_pos rfl,List.find?_append] at hfd
       simp only [go_sem,binC]
       refine wpc_cond (t := true) rfl ?_
       simp only [go_sem,binC]
       refine seq_reg ?_
       simp only [go_sem,binC,e0,e1,e8]
       generalize hH3 : Hc ++ [(⟨[],1,3,true,true⟩ : Blk)] = H3
       have hx3 : AgX [] Hc H3 := hH3 ▸ AgX.app [] _ _
       have oI3 : IntsO 3 Hc.length H3 Hc.length true [] := hH3 ▸ IntsO.nil (Nat.le_refl _)
       clear hH3
       have hx03 := hxH.tr hx3
       have hlc := hxH.1
       have hcc := hxc.1
       have hl3 := hx3.1
       refine op_app_IK (kill := true) oI3 (by (simp only [go_sem,binC]) <;> rfl) (by (simp only [go_sem,binC]) <;> rfl) (show SlR Co.int (vw 0 H3) (.slice (some ⟨b,0,none⟩) homes.length homes.length) homes from hI.sl.mono (agx_sub hx03)) (by omega) (by simp; omega) (by omega) fun H4 b4 so4 hx4 hb4' hso4 o4 => ?_
       rw [hso4 rfl,List.nil_append] at o4
       have hx34 : AgX [] Hc H4 := hx3.trans hx4 (fun _ h _ => h) (fun b' h1 h2 => by simp only [List.mem_singleton] at h1; omega)
       rw [List.nil_append]
       simp only [go_sem,binC,e8]
       refine op_app_I1 (kill := true) (a := (i : Int)) o4 (by (simp only [go_sem,binC]) <;> rfl) (by (simp only [go_sem,binC]) <;> rfl) ⟨by omega,by omega⟩ (by omega) (by omega) (by omega) fun H5 b5 so5 hx5 hb5 hso5 o5 => ?_
       rw [hso5 rfl] at o5
       have ho4g := o4.ge
       have hx35 : AgX [] Hc H5 := hx34.trans hx5 (fun _ h _ => h) (fun b' h1 h2 => by simp only [List.mem_singleton] at h1; omega)
       have hx05 := hxH.tr hx35
       simp only [go_sem,binC,e0]
       obtain ⟨w,H6,k6,tv,hv,dv,rfl,hx6,hpx⟩ := ih m rfl Hc.length H5 W n ls l ts b5 (homes ++ [(i : Int)]) (by rw [List.length_append,List.length_singleton]; omega) (hL.mono hx05) hP hsm htr o5 (fun x hx => by
        rcases List.mem_append.1 hx with h | h
        ·exact hho x h
        ·simp only [List.mem_singleton] at h; omega)
       refine op_callK (by simp only [go_sem,binC,e0]; exact k6) ?_
       obtain ⟨q1,q2,q3⟩ := hpx.one
       have hl5 := hx35.1
       have hl6 := hx6.1
       simp only [go_sem,binC,q1,q2,q3]
       refine ⟨by omega,?_⟩
       refine wpc_gen fun H7 hH7 => ?_
       have hx7 : AgX [] H6 H7 := hH7 ▸ AgX.app [] _ _
       have hb9 : H7[H6.length]? = some ⟨[tv,hv,dv],0,0,false,true⟩ := hH7 ▸ get_new0 _ _
       clear hH7
       have hx37 := hx35.tr (hx6.tr hx7)
       have hx17 := hxc.tr hx37
       have hb47 := hx17.get hb4 (by simp)
       have hb47l := (List.getElem?_eq_some_iff.1 hb47).1
       have o5g := o5.ge
       refine seq_reg ?_
       simp only [go_sem,binC]
       cases hres : (extL ls ts m (homes ++ [(i : Int)])).find? (fitsB n (ls,l) ts) with
       | none =>
         rw [hres,Option.none_or] at hfd
         refine wpc_cond (t := false) rfl ?_
         simp only [go_sem,binC]
         refine wpc_skip ?_
         simp only [go_sem,binC,out_n,thenX_n]
         refine wpc_reg ?_
         simp only [go_sem,binC,e8,hw1]
         simp only [go_sem,binC,thenX_n]
         exact ihk (i + 1) _ H7 (by omega) hx17 hfd (by simp only [go_sem,binC,e0]) (by simp only [go_sem,binC,e1]) (by simp only [go_sem,binC,e4]) (by simp only [go_sem,binC])
       | some hm' =>
         rw [hres,Option.some_or] at hfd
         rw [hres] at hpx
         refine wpc_cond (t := true) rfl ?_
         simp only [go_sem,binC]
         refine seq_reg ?_
         simp only [go_sem,binC,gc_of hb9,inBlk_some,q1,q2,q3,e4,hb47]
         refine wpc_ret ?_
         simp only [go_sem,binC,out_r,thenX_r]
         have hxs : AgX [H.length] H7 (H7.set H.length ⟨[tv,hv,dv],0,0,false,true⟩) := AgX.set _ _ _
         refine ⟨Or.inr rfl,.tuple #[.agg #[tv,hv,dv],.bool true],?_,tv,hv,dv,?_,(hx1.tr hx17).setN (by omega) _,?_⟩
         ·simp [resV,resL,res1,putE_get,notT,ptr,gc_set hb47l,inBlk_some,valOf,e4,q1,q2,q3]
         ·rw [hfd]; rfl
         ·rw [hfd]
          refine ((hpx.keep (lo' := H5.length) (b' := b5) (Nat.le_refl _) hx7 (fun _ _ => by simp) (.inl rfl)).keep (lo' := H.length) (b' := b) (by omega) hxs (fun c hc => ?_) (.inr (by omega)))
          simp only [List.mem_singleton]
          rcases hc with h | h <;> omega
end Go.Proofs.YtbjeldblaclpnaaGreatI
end
section
set_option linter.unusedVariables false
set_option linter.unusedSimpArgs false
namespace Go.Proofs.YtbjeldblaclpnaaGreatI
open Go Go.RowKit
theorem lFind_all {F : Nat -> Option IFn} (hf : F 93 = some c_lFind) (gh : LHome F 29) (gd : LDoes F 102) : ∀ m,LFind F 93 m
 | 0 => lFind_ok hf gh gd fun m h => by omega
 | m + 1 => lFind_ok hf gh gd fun m' h => by cases h; exact lFind_all hf gh gd m
def PlanZ (lo : Nat) (H : Heap) (tv hv dv : Value) (ts : List Int) (o : Option (List Int)) (d : List Int -> List Int) : Prop := match o with
 | none => tv = nilS /\ hv = nilS /\ dv = nilS
 | some homes => ∃ b1 b2 b3,tv = sli b1 0 ts.length /\ hv = sli b2 0 homes.length /\ dv = sli b3 0 (d homes).length /\ IntsO 3 lo H b1 true ts /\ IntsO 3 lo H b2 true homes /\ IntsO 3 lo H b3 true (d homes) /\ b1 ≠ b2 /\ b1 ≠ b3 /\ b2 ≠ b3
def FindS (F : Nat -> Option IFn) (f : Nat) : Prop := ∀ (H : Heap) (n : Nat) (lv sv tw : Value) (ls : List (Int × Int)) (l : List (TStep n)) (ts : List Int),SlR Co.p2 (vw 0 H) lv ls -> SlR (Co.step n) (vw 0 H) sv l -> (Co.prog n).sm (ls,l) -> SlR Co.int (vw 0 H) tw ts ->
 ∃ w H',KC F f [.agg #[lv,sv],tw] H w H' /\ ∃ tv hv dv,w = .tuple #[.agg #[tv,hv,dv],.bool (findV n (ls,l) ts).isSome] /\ AgX [] H H' /\ PlanZ H.length H' tv hv dv ts (findV n (ls,l) ts) (doesL n (ls,l) ts)
theorem sPlanFind_ok {F : Nat -> Option IFn} {f : Nat} (hf : F f = some c_sPlanFind) (gt : TypeP F 24) (gtr : TrOk F 25) (gs : SeeOk F 28) (gf : ∀ m,LFind F 93 m) : FindS F f := by
 intro H n lv sv tw ls l ts r1 r2 hsm r3
 have olv : one lv = true := by obtain ⟨_,a,rfl,_⟩ := r1; rfl
 have osv : one sv = true := by obtain ⟨_,a,rfl,_⟩ := r2; rfl
 refine KC.mk hf rfl ?_
 refine seq_reg ?_
 simp only [go_sem,binC,olv,osv]
 refine wpc_gen fun H1 hH1 => ?_
 have hx1 : AgX [] H H1 := hH1 ▸ AgX.app [] _ _
 have hb2 : H1[H.length]? = some ⟨[lv,sv],0,0,false,true⟩ := hH1 ▸ get_new0 _ _
 have hb4 : H1[H.length + 1]? = some ⟨[nilS,nilS,nilS],0,0,false,true⟩ := hH1 ▸ get_new _ _ 1
 clear hH1
 have hl1 := (List.getElem?_eq_some_iff.1 hb4).1
 refine seq_assoc (seq_reg ?_)
 simp only [go_sem,binC,gc_of hb2,inBlk_some,olv,osv]
 refine op_callQ (by simp only [go_sem,binC]; exact gt H1 n _ _ ls l (r1.mono (agx_sub hx1)) (r2.mono (agx_sub hx1)) hsm) ?_
 have none0 : ∀ {Hc : Heap},AgX [] H1 Hc -> findV n (ls,l) ts = none -> ∃ tv hv dv,(Value.tuple #[.agg #[nilS,nilS,nilS],.bool false]) = .tuple #[.agg #[tv,hv,dv],.bool (findV n (ls,l) ts).isSome] /\ AgX [] H (Hc.set (H.length + 1) ⟨[nilS,nilS,nilS],0,0,false,true⟩) /\ PlanZ H.length (Hc.set (H.length + 1) ⟨[nilS,nilS,nilS],0,0,false,true⟩) tv hv dv ts (findV n (ls,l) ts) (doesL n (ls,l) ts) := fun {Hc} hx hn => by
  rw [hn]
  exact ⟨_,_,_,rfl,(hx1.tr hx).setN (by omega) _,rfl,rfl,rfl⟩
 cases ht : typeP n (ls,l) with
 | false =>
   have hn : findV n (ls,l) ts = none := by unfold findV; rw [ht]; rfl
   simp only [go_sem,binC]
   refine seq_cond (t := true) rfl ?_
   simp only [go_sem,binC]
   refine seq_assoc (seq_reg ?_)
   simp only [go_sem,binC,hb4]
   refine seq_ret ⟨Or.inr rfl,.tuple #[.agg #[nilS,nilS,nilS],.bool false],?_,none0 (AgX.refl _ _) hn⟩
   simp [resV,resL,res1,putE_get,notT,ptr,gc_set hl1,inBlk_some,valOf]
 | true =>
 simp only [go_sem,binC]
 refine op_callQ (by simp only [go_sem,binC]; exact gtr.k H1 _ ts (r3.mono (agx_sub hx1))) ?_
 cases hk : trK ts with
 | false =>
   have hn : findV n (ls,l) ts = none := by unfold findV; rw [hk,Bool.and_false]; rfl
   simp only [go_sem,binC]
   refine seq_cond (t := true) rfl ?_
   simp only [go_sem,binC]
   refine seq_assoc (seq_reg ?_)
   simp only [go_sem,binC,hb4]
   refine seq_ret ⟨Or.inr rfl,.tuple #[.agg #[nilS,nilS,nilS],.bool false],?_,none0 (AgX.refl _ _) hn⟩
   simp [resV,resL,res1,putE_get,notT,ptr,gc_set hl1,inBlk_some,valOf]
 | true =>
 simp only [go_sem,binC]
 refine seq_cond (t := false) rfl ?_
 simp only [go_sem,binC]
 have htr := trK_iff.1 hk
 have hP : progB n (ls,l) = true := by
  unfold typeP at ht
  simp only [Bool.and_eq_true] at ht
  exact ht.1
 have hfind : findV n (ls,l) ts = (extL ls ts ls.length []).find? (fitsB n (ls,l) ts) := by unfold findV; rw [ht,hk,extL_nil]; rfl
 refine seq_skip (seq_reg ?_)
 simp only [go_sem,binC,gc_of hb2,inBlk_some,olv,osv]
 obtain ⟨W,H2,k2,hx2,hWg,hL⟩ := gs H.length H1 n _ _ _ ls l ts (by omega) (r1.mono (agx_sub hx1)) (r2.mono (agx_sub hx1)) hsm hP (r3.mono (agx_sub hx1)) htr
 refine op_callN (by simp only [go_sem,binC]; exact k2) ?_
 simp only [go_sem,binC]
 generalize hH3 : H2 ++ [(⟨[],1,3,true,true⟩ : Blk)] = H3
 have hx3 : AgX [] H2 H3 := hH3 ▸ AgX.app [] _ _
 have oI3 : IntsO 3 H2.length H3 H2.length true [] := hH3 ▸ IntsO.nil (Nat.le_refl _)
 clear hH3
 obtain ⟨w,H4,k4,tv,hv,dv,rfl,hx4,hpx⟩ := gf ls.length H2.length H3 W n ls l ts H2.length [] (by simp) (hL.mono hx3) hP hsm htr oI3 (by simp)
 refine op_callK (by simp only [go_sem,binC]; exact k4) ?_
 obtain ⟨q1,q2,q3⟩ := hpx.one
 have hl2 := hx2.1
 have hl3 := hx3.1
 have hl4 := hx4.1
 simp only [go_sem,binC,q1,q2,q3]
 refine ⟨by omega,?_⟩
 refine wpc_gen fun H5 hH5 => ?_
 have hx5 : AgX [] H4 H5 := hH5 ▸ AgX.app [] _ _
 have hb6 : H5[H4.length]? = some ⟨[tv,hv,dv],0,0,false,true⟩ := hH5 ▸ get_new0 _ _
 clear hH5
 have hx15 := hx2.tr (hx3.tr (hx4.tr hx5))
 have hb45 := hx15.get hb4 (by simp)
 have hb45l := (List.getElem?_eq_some_iff.1 hb45).1
 refine seq_assoc (seq_reg ?_)
 simp only [go_sem,binC]
 cases hres : (extL ls ts ls.length []).find? (fitsB n (ls,l) ts) with
 | none =>
   refine seq_cond (t := true) rfl ?_
   simp only [go_sem,binC]
   refine seq_assoc (seq_reg ?_)
   simp only [go_sem,binC,hb45]
   refine seq_ret ⟨Or.inr rfl,.tuple #[.agg #[nilS,nilS,nilS],.bool false],?_,none0 hx15 (by rw [hfind,hres])⟩
   simp [resV,resL,res1,putE_get,notT,ptr,gc_set hb45l,inBlk_some,valOf]
 | some homes =>
   rw [hres] at hpx
   refine seq_cond (t := false) rfl ?_
   simp only [go_sem,binC]
   refine seq_skip (seq_reg ?_)
   simp only [go_sem,binC,gc_of hb6,inBlk_some,q1,q2,q3,hb45]
   obtain ⟨b1,b2,b3,rfl,rfl,rfl,p1,p2,p3,p4,p5⟩ := hpx
   have hxs : AgX [H.length + 1] H5 (H5.set (H.length + 1) ⟨[sli b1 0 ts.length,sli b2 0 homes.length,sli b3 0 (doesL n (ls,l) ts homes).length],0,0,false,true⟩) := AgX.set _ _ _
   have g1 := p1.ge
   have g3 := p3.ge
   have g2 : H.length + 1 < b2 := by omega
   have p2' : IntsO 3 H.length H4 b2 true homes := ⟨by omega,p2.len,p2.blk,p2.rg⟩
   refine wpc_ret ⟨Or.inr rfl,.tuple #[.agg #[sli b1 0 ts.length,sli b2 0 homes.length,sli b3 0 (doesL n (ls,l) ts homes).length],.bool true],?_,_,_,_,by rw [hfind,hres]; rfl,(hx1.tr hx15).setN (by omega) _,?_⟩
   ·simp [resV,resL,res1,putE_get,notT,ptr,gc_set hb45l,inBlk_some,valOf,sli]
   ·rw [hfind,hres]
    exact ⟨b1,b2,b3,rfl,rfl,rfl,(p1.keep (by omega) hx5 (by simp)).keep (Nat.le_refl _) hxs (by simp; omega),(p2'.keep (Nat.le_refl _) hx5 (by simp)).keep (Nat.le_refl _) hxs (by simp; omega),(p3.keep (by omega) hx5 (by simp)).keep (Nat.le_refl _) hxs (by simp; omega),p5⟩
end Go.Proofs.YtbjeldblaclpnaaGreatI
end
section
set_option linter.unusedVariables false
set_option linter.unusedSimpArgs false
namespace Go.Proofs.YtbjeldblaclpnaaGreatI
open Go Go.RowKit
def c_sProgSize : IFn := ⟨1,9,[.t 2],
 .seq (.reg none [⟨some 1,none,.box (.t 0)⟩,⟨some 2,none,.mov (.c (.int .i64 0))⟩])
 (.seq (.seq (.reg none [⟨some 3,none,.load true 2 (.t 1)⟩,⟨some 4,none,.call .q (.f 56) [.t 3]⟩,⟨some 5,none,.un .not (.t 4)⟩])
  (.cond (.t 5) (.seq (.reg none [⟨some 2,none,.mov (.c (.int .i64 (-1)))⟩])
   (.ret)) (.skip)))
 (.seq (.reg none [⟨some 6,none,.fad 1 (.t 1)⟩,⟨some 7,none,.load false 1 (.t 6)⟩,⟨some 8,none,.call .q (.f 57) [.t 7]⟩,⟨some 2,none,.mov (.t 8)⟩])
 (.ret)))⟩
def c_sHomes21 : IFn := ⟨2,24,[.t 4],
 .seq (.reg none [⟨some 2,none,.box (.t 0)⟩,⟨some 4,none,.mov (.c (.bool false))⟩])
 (.seq (.seq (.reg none [⟨some 6,none,.mov (.t 1)⟩,⟨some 7,none,.len (.t 6)⟩,⟨some 8,none,.fad 0 (.t 2)⟩,⟨some 9,none,.load false 1 (.t 8)⟩,
   ⟨some 10,none,.len (.t 9)⟩,⟨some 11,none,.bin .neq (.t 7) (.t 10)⟩])
  (.cond (.t 11) (.seq (.reg none [⟨some 4,none,.mov (.c (.bool false))⟩])
   (.ret)) (.skip)))
 (.seq (.seq (.reg none [⟨some 5,none,.mov (.c (.int .i64 0))⟩])
  (.block 0 (.loop (.seq (.seq (.reg none [⟨some 12,none,.mov (.t 5)⟩,⟨some 13,none,.mov (.t 1)⟩,⟨some 14,none,.len (.t 13)⟩,
     ⟨some 15,none,.bin .lss (.t 12) (.t 14)⟩])
    (.cond (.t 15) (.skip) (.exit 0)))
   (.seq (.block 1 (.seq (.reg none [⟨some 18,none,.mov (.t 1)⟩,⟨some 19,none,.mov (.t 5)⟩,⟨some 20,none,.iad 1 (.t 18) (.t 19)⟩,
      ⟨some 21,none,.load false 1 (.t 20)⟩,⟨some 22,none,.call .q (.f 30) [.t 21,(.c (.int .i64 0)),(.c (.int .i64 2))]⟩,⟨some 23,none,.un .not (.t 22)⟩])
    (.cond (.t 23) (.seq (.reg none [⟨some 4,none,.mov (.c (.bool false))⟩])
     (.ret)) (.skip))))
   (.reg none [⟨some 16,none,.mov (.t 5)⟩,⟨some 17,none,.bin .add (.t 16) (.c (.int .i64 1))⟩,⟨some 5,none,.mov (.t 17)⟩]))))))
 (.seq (.reg none [⟨some 4,none,.mov (.c (.bool true))⟩])
 (.ret))))⟩
def c_sPlanStep : IFn := ⟨5,45,[.t 10],
 .seq (.reg none [⟨some 5,none,.box (.t 0)⟩,⟨some 10,none,.mov (.c (.bool false))⟩])
 (.seq (.seq (.reg none [⟨some 11,none,.load true 2 (.t 5)⟩,⟨some 12,none,.call .q (.f 56) [.t 11]⟩,⟨some 13,none,.un .not (.t 12)⟩,
   ⟨some 14,none,.mov (.t 13)⟩,⟨some 15,some (14,false),.mov (.t 1)⟩,⟨some 16,some (14,false),.call .q (.f 25) [.t 15]⟩,
   ⟨some 17,some (14,false),.un .not (.t 16)⟩,⟨some 18,none,.pick (.t 14) (.c (.bool true)) (.t 17)⟩,⟨some 19,none,.mov (.t 18)⟩,
   ⟨some 20,some (19,false),.load true 2 (.t 5)⟩,⟨some 21,some (19,false),.mov (.t 2)⟩,⟨some 22,some (19,false),.call .q (.f 26) [.t 20,.t 21]⟩,
   ⟨some 23,some (19,false),.un .not (.t 22)⟩,⟨some 24,none,.pick (.t 19) (.c (.bool true)) (.t 23)⟩,⟨some 25,none,.mov (.t 24)⟩,
   ⟨some 26,some (25,false),.mov (.t 3)⟩,⟨some 27,some (25,false),.load true 2 (.t 5)⟩,⟨some 28,some (25,false),.call .q (.f 27) [.t 27]⟩,
   ⟨some 29,some (25,false),.bin .sub (.t 28) (.c (.int .i64 1))⟩,⟨some 30,some (25,false),.call .q (.f 30) [.t 26,(.c (.int .i64 0)),.t 29]⟩,
   ⟨some 31,some (25,false),.un .not (.t 30)⟩,⟨some 32,none,.pick (.t 25) (.c (.bool true)) (.t 31)⟩,⟨some 33,none,.mov (.t 32)⟩,
   ⟨some 34,some (33,false),.mov (.t 4)⟩,⟨some 35,some (33,false),.call .q (.f 30) [.t 34,(.c (.int .i64 0)),(.c (.int .i64 2))]⟩,
   ⟨some 36,some (33,false),.un .not (.t 35)⟩,⟨some 37,none,.pick (.t 33) (.c (.bool true)) (.t 36)⟩])
  (.cond (.t 37) (.seq (.reg none [⟨some 10,none,.mov (.c (.bool false))⟩])
   (.ret)) (.skip)))
 (.seq (.reg none [⟨some 38,none,.load true 2 (.t 5)⟩,⟨some 39,none,.mov (.t 1)⟩,⟨some 40,none,.call .n (.f 28) [.t 38,.t 39]⟩,⟨some 41,none,.mov (.t 2)⟩,
   ⟨some 42,none,.mov (.t 3)⟩,⟨some 43,none,.mov (.t 4)⟩,⟨some 44,none,.call .q (.f 31) [.t 40,.t 41,.t 42,.t 43]⟩,⟨some 10,none,.mov (.t 44)⟩])
 (.ret)))⟩
def c_sPlanOk : IFn := ⟨2,79,[.t 4],
 .seq (.reg none [⟨some 2,none,.box (.t 0)⟩,⟨some 3,none,.box (.t 1)⟩,⟨some 4,none,.mov (.c (.bool false))⟩])
 (.seq (.seq (.reg (some 22) [⟨some 8,none,.load true 2 (.t 2)⟩,⟨some 9,none,.call .q (.f 24) [.t 8]⟩,⟨some 10,none,.un .not (.t 9)⟩,
   ⟨some 11,none,.mov (.t 10)⟩,⟨some 12,some (11,false),.fad 0 (.t 3)⟩,⟨some 13,some (11,false),.load false 1 (.t 12)⟩,
   ⟨some 14,some (11,false),.call .q (.f 25) [.t 13]⟩,⟨some 15,some (11,false),.un .not (.t 14)⟩,⟨some 16,none,.pick (.t 11) (.c (.bool true)) (.t 15)⟩,
   ⟨some 17,none,.mov (.t 16)⟩,⟨some 18,some (17,false),.load true 2 (.t 2)⟩,⟨some 19,some (17,false),.fad 1 (.t 3)⟩,
   ⟨some 20,some (17,false),.load false 1 (.t 19)⟩,⟨some 21,some (17,false),.call .q (.f 26) [.t 18,.t 20]⟩,⟨some 22,some (17,false),.un .not (.t 21)⟩,
   ⟨some 23,none,.pick (.t 17) (.c (.bool true)) (.t 22)⟩,⟨some 24,none,.mov (.t 23)⟩,⟨some 25,some (24,false),.fad 2 (.t 3)⟩,
   ⟨some 26,some (24,false),.load false 1 (.t 25)⟩,⟨some 27,some (24,false),.len (.t 26)⟩,⟨some 28,some (24,false),.load true 2 (.t 2)⟩,
   ⟨some 29,some (24,false),.call .q (.f 27) [.t 28]⟩,⟨some 30,some (24,false),.bin .neq (.t 27) (.t 29)⟩,
   ⟨some 31,none,.pick (.t 24) (.c (.bool true)) (.t 30)⟩])
  (.cond (.t 31) (.seq (.reg none [⟨some 4,none,.mov (.c (.bool false))⟩])
   (.ret)) (.skip)))
 (.seq (.reg none [⟨some 32,none,.load true 2 (.t 2)⟩,⟨some 33,none,.fad 0 (.t 3)⟩,⟨some 34,none,.load false 1 (.t 33)⟩,
   ⟨some 35,none,.call .n (.f 28) [.t 32,.t 34]⟩,⟨some 5,none,.mov (.t 35)⟩])
 (.seq (.seq (.reg none [⟨some 6,none,.mov (.c (.int .i64 0))⟩])
  (.block 0 (.loop (.seq (.seq (.reg none [⟨some 36,none,.mov (.t 6)⟩,⟨some 37,none,.fad 0 (.t 2)⟩,⟨some 38,none,.load false 1 (.t 37)⟩,
     ⟨some 39,none,.len (.t 38)⟩,⟨some 40,none,.bin .lss (.t 36) (.t 39)⟩])
    (.cond (.t 40) (.skip) (.exit 0)))
   (.seq (.block 1 (.seq (.reg none [⟨some 43,none,.mov (.t 5)⟩,⟨some 44,none,.mov (.t 6)⟩,⟨some 45,none,.fad 1 (.t 3)⟩,⟨some 46,none,.load false 1 (.t 45)⟩,
      ⟨some 47,none,.mov (.t 6)⟩,⟨some 48,none,.iad 1 (.t 46) (.t 47)⟩,⟨some 49,none,.load false 1 (.t 48)⟩,
      ⟨some 50,none,.call .q (.f 29) [.t 43,.t 44,.t 49]⟩,⟨some 51,none,.un .not (.t 50)⟩])
    (.cond (.t 51) (.seq (.reg none [⟨some 4,none,.mov (.c (.bool false))⟩])
     (.ret)) (.skip))))
   (.reg none [⟨some 41,none,.mov (.t 6)⟩,⟨some 42,none,.bin .add (.t 41) (.c (.int .i64 1))⟩,⟨some 6,none,.mov (.t 42)⟩]))))))
 (.seq (.seq (.reg none [⟨some 7,none,.mov (.c (.int .i64 0))⟩])
  (.block 2 (.loop (.seq (.seq (.reg none [⟨some 52,none,.mov (.t 7)⟩,⟨some 53,none,.fad 2 (.t 3)⟩,⟨some 54,none,.load false 1 (.t 53)⟩,
     ⟨some 55,none,.len (.t 54)⟩,⟨some 56,none,.bin .lss (.t 52) (.t 55)⟩])
    (.cond (.t 56) (.skip) (.exit 2)))
   (.seq (.block 3 (.seq (.reg (some 17) [⟨some 59,none,.fad 2 (.t 3)⟩,⟨some 60,none,.load false 1 (.t 59)⟩,⟨some 61,none,.mov (.t 7)⟩,
      ⟨some 62,none,.iad 1 (.t 60) (.t 61)⟩,⟨some 63,none,.load false 1 (.t 62)⟩,⟨some 64,none,.call .q (.f 30) [.t 63,(.c (.int .i64 0)),(.c (.int .i64 2))]⟩,
      ⟨some 65,none,.un .not (.t 64)⟩,⟨some 66,none,.mov (.t 65)⟩,⟨some 67,some (66,false),.mov (.t 5)⟩,⟨some 68,some (66,false),.fad 1 (.t 3)⟩,
      ⟨some 69,some (66,false),.load false 1 (.t 68)⟩,⟨some 70,some (66,false),.mov (.t 7)⟩,⟨some 71,some (66,false),.fad 2 (.t 3)⟩,
      ⟨some 72,some (66,false),.load false 1 (.t 71)⟩,⟨some 73,some (66,false),.mov (.t 7)⟩,⟨some 74,some (66,false),.iad 1 (.t 72) (.t 73)⟩,
      ⟨some 75,some (66,false),.load false 1 (.t 74)⟩,⟨some 76,some (66,false),.call .q (.f 31) [.t 67,.t 69,.t 70,.t 75]⟩,
      ⟨some 77,some (66,false),.un .not (.t 76)⟩,⟨some 78,none,.pick (.t 66) (.c (.bool true)) (.t 77)⟩])
    (.cond (.t 78) (.seq (.reg none [⟨some 4,none,.mov (.c (.bool false))⟩])
     (.ret)) (.skip))))
   (.reg none [⟨some 57,none,.mov (.t 7)⟩,⟨some 58,none,.bin .add (.t 57) (.c (.int .i64 1))⟩,⟨some 7,none,.mov (.t 58)⟩]))))))
 (.seq (.reg none [⟨some 4,none,.mov (.c (.bool true))⟩])
 (.ret))))))⟩
def sizeV (n : Nat) (p : TProg n) : Int := if progB n p = true then ((allL n p.2).length : Int) else -1
def SizeV (F : Nat -> Option IFn) (f : Nat) : Prop := ∀ (H : Heap) (n : Nat) (lv sv : Value) (ls : List (Int × Int)) (l : List (TStep n)),SlR Co.p2 (vw 0 H) lv ls -> SlR (Co.step n) (vw 0 H) sv l -> (Co.prog n).sm (ls,l) -> QC F f [.agg #[lv,sv]] H (.int .i64 (sizeV n (ls,l)))
theorem sizeV_yes {n : Nat} {ls : List (Int × Int)} {l : List (TStep n)} (h : progB n (ls,l) = true) : sizeV n (ls,l) = ((allL n l).length : Int) := if_pos h
theorem sProgSizeV_ok {F : Nat -> Option IFn} {f : Nat} (hf : F f = some c_sProgSize) (gp : ProgOk F 56) (gc : ∀ n,CntOk F 57 n) : SizeV F f := by
 intro H n lv sv ls l r1 r2 hsm
 have olv : one lv = true := by obtain ⟨_,a,rfl,_⟩ := r1; rfl
 have osv : one sv = true := by obtain ⟨_,a,rfl,_⟩ := r2; rfl
 refine QC.mk hf rfl ?_
 refine seq_reg ?_
 simp only [go_sem,binC,olv,osv]
 refine wpc_gen fun H1 hH1 => ?_
 have hx1 : AgX [] H H1 := hH1 ▸ AgX.app [] _ _
 have hb : H1[H.length]? = some ⟨[lv,sv],0,0,false,true⟩ := hH1 ▸ get_new0 _ _
 clear hH1
 have hS := agx_sub hx1
 refine seq_assoc (seq_reg ?_)
 simp only [go_sem,binC,gc_of hb,inBlk_some,olv,osv]
 refine op_callQ (by simp only [go_sem,binC]; exact gp H1 n _ (ls,l) (prog_rd (r1.mono hS) (r2.mono hS)) hsm) ?_
 unfold sizeV
 cases hP : progB n (ls,l) with
 | false =>
   simp only [go_sem,binC]
   refine seq_cond (t := true) rfl ?_
   simp only [go_sem,binC]
   refine seq_assoc (seq_reg ?_)
   simp only [go_sem,binC]
   exact seq_ret ⟨Or.inr rfl,.int .i64 (-1),(by (simp only [go_sem,binC]) <;> rfl),rfl,rfl⟩
 | true =>
 simp only [go_sem,binC]
 refine seq_cond (t := false) rfl ?_
 simp only [go_sem,binC]
 refine seq_skip (seq_reg ?_)
 simp only [go_sem,binC,gc_of hb,inBlk_some]
 refine op_callQ (by simp only [go_sem,binC]; exact gc n H1 sv l (r2.mono hS)) ?_
 simp only [go_sem,binC]
 refine wpc_ret ⟨Or.inr rfl,_,(by (simp only [go_sem,binC]) <;> rfl),?_,rfl⟩
 have hc := progB_cnt hP hsm
 simp only at hc
 rw [cntL_len]
 unfold Wr
 rw [wrap_id (by omega) (by omega)]
def homesB (k : Nat) (homes : List Int) : Bool := decide (homes.length = k) && hostsB homes
theorem homesB_iff {k : Nat} {homes : List Int} : homesB k homes = true ↔ homesP k homes := by
 unfold homesB homesP hostsB
 rw [Bool.and_eq_true,decide_eq_true_eq,List.all_eq_true]
 exact and_congr_right fun _ => forall_congr' fun x => imp_congr_right fun _ => inB_iff
def Homes21 (F : Nat -> Option IFn) (f : Nat) : Prop := ∀ (H : Heap) (lv sv hw : Value) (ls : List (Int × Int)) (homes : List Int),one sv = true -> SlR Co.p2 (vw 0 H) lv ls -> SlR Co.int (vw 0 H) hw homes -> QC F f [.agg #[lv,sv],hw] H (.bool (homesB ls.length homes))
theorem sHomes21_ok {F : Nat -> Option IFn} {f : Nat} (hf : F f = some c_sHomes21) (gi : ∀ (H : Heap) (a b c : Int),QC F 30 [.int .i64 a,.int .i64 b,.int .i64 c] H (.bool (inB a b c))) : Homes21 F f := by
 intro H lv sv hw ls homes osv r1 r2
 obtain ⟨hls0,la,rfl,_⟩ := id r1
 obtain ⟨hh0,ha,rfl,_⟩ := id r2
 refine QC.mk hf rfl ?_
 refine seq_reg ?_
 simp only [go_sem,binC,osv]
 refine wpc_gen fun H1 hH1 => ?_
 have hx1 : AgX [] H H1 := hH1 ▸ AgX.app [] _ _
 have hb : H1[H.length]? = some ⟨[.slice la ls.length ls.length,sv],0,0,false,true⟩ := hH1 ▸ get_new0 _ _
 clear hH1
 have rh := r2.mono (agx_sub hx1)
 refine seq_assoc (seq_reg ?_)
 simp only [go_sem,binC,gc_of hb,inBlk_some]
 by_cases hlen : homes.length = ls.length
 ·have hl' : (homes.length : Int) = ls.length := by omega
  simp only [go_sem,binC,bne_fJ hl']
  refine seq_cond (t := false) rfl ?_
  simp only [go_sem,binC]
  refine seq_skip (seq_assoc (seq_reg ?_))
  simp only [go_sem,binC]
  refine seq_block (wpc_loop ?_)
  have hB : homesB ls.length homes = hostsB homes := by unfold homesB; rw [decide_eq_true hlen]; rfl
  rw [hB]
  suffices hh : ∀ (k i : Nat) (e : Env),i + k = homes.length -> (homes.take i).all (fun h => inB h 0 2) = true -> e 1 = .slice ha homes.length homes.length -> e 5 = .int .i64 i -> Go.Proofs.YtbjeldblaclpnaaGreatI.W F H.length _ e H1 _ from
   hh homes.length 0 _ (by omega) rfl (by simp only [go_sem,binC]) (by (simp only [go_sem,binC]) <;> rfl)
  intro k
  induction k with
  | zero =>
    intro i e hi hall e1 e5
    rw [List.take_of_length_le (by omega)] at hall
    refine lp_step ?_
    refine seq_assoc (seq_reg ?_)
    simp only [go_sem,binC,e1,e5]
    refine seq_cond (t := false) (by simp only [go_sem,binC]; rw [decide_eq_false (by omega)]) ?_
    simp only [go_sem,binC]
    refine seq_exit ?_
    simp only [go_sem,binC,thenX_e,out_e,thenX_n]
    refine seq_reg ?_
    simp only [go_sem,binC]
    exact wpc_ret ⟨Or.inr rfl,.bool true,(by (simp only [go_sem,binC]) <;> rfl),by unfold hostsB; rw [hall],rfl⟩
  | succ k ih =>
    intro i e hi hall e1 e5
    have hil : i < homes.length := by omega
    have hw1 : IntKind.i64.wrap ((i : Int) + 1) = ((i + 1 : Nat) : Int) := by rw [wrap_id (by omega) (by omega)]; omega
    obtain ⟨b,o,hv1,hg⟩ := gcJ rh hil
    simp only [Value.slice.injEq,and_true] at hv1
    subst hv1
    refine lp_step ?_
    refine seq_assoc (seq_reg ?_)
    simp only [go_sem,binC,e1,e5]
    refine seq_cond (t := true) (by simp only [go_sem,binC]; rw [decide_eq_true (by omega)]) ?_
    simp only [go_sem,binC]
    refine seq_skip (seq_block (seq_reg ?_))
    simp only [go_sem,binC,e1,e5]
    refine ⟨⟨by omega,by omega⟩,?_⟩
    simp only [go_sem,binC,Int.toNat_natCast,Nat.mul_one,hg]
    refine op_callQ (by simp only [go_sem,binC]; exact gi H1 homes[i] 0 2) ?_
    cases hp : inB homes[i] 0 2 with
    | false =>
      simp only [go_sem,binC]
      refine wpc_cond (t := true) rfl ?_
      simp only [go_sem,binC]
      refine seq_reg ?_
      simp only [go_sem,binC]
      refine wpc_ret ?_
      simp only [go_sem,binC,out_r,thenX_r]
      refine ⟨Or.inr rfl,.bool false,(by (simp only [go_sem,binC]) <;> rfl),?_,rfl⟩
      have : hostsB homes = false := by
       rw [Bool.eq_false_iff]
       intro h
       unfold hostsB at h
       rw [List.all_eq_true.1 h _ (List.getElem_mem hil)] at hp
       cases hp
      rw [this]
    | true =>
      simp only [go_sem,binC]
      refine wpc_cond (t := false) rfl ?_
      simp only [go_sem,binC]
      refine wpc_skip ?_
      simp only [go_sem,binC,out_n,thenX_n]
      refine wpc_reg ?_
      simp only [go_sem,binC,e5,hw1]
      simp only [go_sem,binC,thenX_n]
      refine ih (i + 1) _ (by omega) ?_ (by simp only [go_sem,binC,e1]) (by simp only [go_sem,binC])
      rw [List.take_add_one,List.getElem?_eq_getElem hil,List.all_append,hall]
      simp [hp]
 ·have hl' : ¬ ((homes.length : Int) = ls.length) := by omega
  simp only [go_sem,binC,bne_tJ hl']
  refine seq_cond (t := true) rfl ?_
  simp only [go_sem,binC]
  refine seq_assoc (seq_reg ?_)
  simp only [go_sem,binC]
  refine seq_ret ⟨Or.inr rfl,.bool false,(by (simp only [go_sem,binC]) <;> rfl),?_,rfl⟩
  unfold homesB
  rw [decide_eq_false hlen]
  rfl
def stepV (n : Nat) (p : TProg n) (ts homes : List Int) (j h : Int) : Bool := progB n p && (trK ts && (homesB p.1.length homes && (inB j 0 (sizeV n p - 1) && (inB h 0 2 && doN n p.1 p.2 ts homes j.toNat h))))
def StepV (F : Nat -> Option IFn) (f : Nat) : Prop := ∀ (H : Heap) (n : Nat) (lv sv tw hw : Value) (ls : List (Int × Int)) (l : List (TStep n)) (ts homes : List Int) (j h : Int),SlR Co.p2 (vw 0 H) lv ls -> SlR (Co.step n) (vw 0 H) sv l -> (Co.prog n).sm (ls,l) -> SlR Co.int (vw 0 H) tw ts -> SlR Co.int (vw 0 H) hw homes -> QC F f [.agg #[lv,sv],tw,hw,.int .i64 j,.int .i64 h] H (.bool (stepV n (ls,l) ts homes j h))
theorem sPlanStep_ok {F : Nat -> Option IFn} {f : Nat} (hf : F f = some c_sPlanStep) (gp : ProgOk F 56) (gt : TrOk F 25) (gho : Homes21 F 26) (gz : SizeV F 27) (gi : ∀ (H : Heap) (a b c : Int),QC F 30 [.int .i64 a,.int .i64 b,.int .i64 c] H (.bool (inB a b c))) (gs : SeeOk F 28) (gst : LStep F 31) : StepV F f := by
 intro H n lv sv tw hw ls l ts homes j h r1 r2 hsm r3 r4
 have olv : one lv = true := by obtain ⟨_,a,rfl,_⟩ := r1; rfl
 have osv : one sv = true := by obtain ⟨_,a,rfl,_⟩ := r2; rfl
 obtain ⟨_,ta,rfl,_⟩ := id r3
 obtain ⟨_,ha,rfl,_⟩ := id r4
 refine QC.mk hf rfl ?_
 refine seq_reg ?_
 simp only [go_sem,binC,olv,osv]
 refine wpc_gen fun H1 hH1 => ?_
 have hx1 : AgX [] H H1 := hH1 ▸ AgX.app [] _ _
 have hb : H1[H.length]? = some ⟨[lv,sv],0,0,false,true⟩ := hH1 ▸ get_new0 _ _
 clear hH1
 have hS := agx_sub hx1
 have hl1 := hx1.1
 have hcntz : progB n (ls,l) = true -> sizeV n (ls,l) = ((allL n l).length : Int) := sizeV_yes
 have hgz := gz H1 n _ _ ls l (r1.mono hS) (r2.mono hS) hsm
 unfold stepV
 show wpc F H.length _ _ _ (fin _ fun w _ => w = .bool (progB n (ls,l) && (trK ts && (homesB ls.length homes && (inB j 0 (sizeV n (ls,l) - 1) && (inB h 0 2 && doN n ls l ts homes j.toNat h))))) /\ scal w = true)
 generalize sizeV n (ls,l) = z at *
 generalize hdn : doN n ls l ts homes j.toNat h = dn
 refine seq_assoc (seq_reg ?_)
 refine wpo_cut 15 fun Kc hK => ?_
 simp only [List.take_succ_cons,List.take_zero,List.drop_succ_cons,List.drop_zero] at hK ⊢
 simp only [go_sem,binC,gc_of hb,inBlk_some,olv,osv]
 refine op_callQ (by simp only [go_sem,binC]; exact gp H1 n _ (ls,l) (prog_rd (r1.mono hS) (r2.mono hS)) hsm) ?_
 cases hP : progB n (ls,l) with
 | false =>
   simp only [go_sem,binC]
   refine hK _ _ ?_
   simp only [go_sem,binC]
   refine seq_cond (t := true) rfl ?_
   simp only [go_sem,binC]
   refine seq_assoc (seq_reg ?_)
   simp only [go_sem,binC]
   exact seq_ret ⟨Or.inr rfl,.bool false,(by (simp only [go_sem,binC]) <;> rfl),by simp [*],rfl⟩
 | true =>
 simp only [go_sem,binC]
 refine op_callQ (by simp only [go_sem,binC]; exact gt.k H1 _ ts (r3.mono hS)) ?_
 cases hk : trK ts with
 | false =>
   simp only [go_sem,binC]
   refine hK _ _ ?_
   simp only [go_sem,binC]
   refine seq_cond (t := true) rfl ?_
   simp only [go_sem,binC]
   refine seq_assoc (seq_reg ?_)
   simp only [go_sem,binC]
   exact seq_ret ⟨Or.inr rfl,.bool false,(by (simp only [go_sem,binC]) <;> rfl),by simp [*],rfl⟩
 | true =>
 simp only [go_sem,binC,gc_of hb,inBlk_some,olv,osv]
 refine op_callQ (by simp only [go_sem,binC]; exact gho H1 _ _ _ ls homes osv (r1.mono hS) (r4.mono hS)) ?_
 cases hh : homesB ls.length homes with
 | false =>
   simp only [go_sem,binC]
   refine hK _ _ ?_
   simp only [go_sem,binC]
   refine seq_cond (t := true) rfl ?_
   simp only [go_sem,binC]
   refine seq_assoc (seq_reg ?_)
   simp only [go_sem,binC]
   exact seq_ret ⟨Or.inr rfl,.bool false,(by (simp only [go_sem,binC]) <;> rfl),by simp [*],rfl⟩
 | true =>
 simp only [go_sem,binC]
 refine hK _ _ ?_
 simp only [go_sem,binC,gc_of hb,inBlk_some,olv,osv]
 have hcnt : (allL n l).length <= 8 := progB_cnt hP hsm
 have hsz := hcntz hP
 have hw1 : IntKind.i64.wrap (z - 1) = z - 1 := wrap_id (by omega) (by omega)
 refine op_callQ (by simp only [go_sem,binC]; exact hgz) ?_
 simp only [go_sem,binC,hw1]
 refine op_callQ (by simp only [go_sem,binC]; exact gi H1 j 0 _) ?_
 cases hj : inB j 0 (z - 1) with
 | false =>
   simp only [go_sem,binC]
   refine seq_cond (t := true) rfl ?_
   simp only [go_sem,binC]
   refine seq_assoc (seq_reg ?_)
   simp only [go_sem,binC]
   exact seq_ret ⟨Or.inr rfl,.bool false,(by (simp only [go_sem,binC]) <;> rfl),by simp [*],rfl⟩
 | true =>
 simp only [go_sem,binC]
 refine op_callQ (by simp only [go_sem,binC]; exact gi H1 h 0 2) ?_
 cases hi : inB h 0 2 with
 | false =>
   simp only [go_sem,binC]
   refine seq_cond (t := true) rfl ?_
   simp only [go_sem,binC]
   refine seq_assoc (seq_reg ?_)
   simp only [go_sem,binC]
   exact seq_ret ⟨Or.inr rfl,.bool false,(by (simp only [go_sem,binC]) <;> rfl),by simp [*],rfl⟩
 | true =>
 have qj := inB_iff.1 hj
 have qh := inB_iff.1 hi
 have hsl := allSL_len l
 simp only [go_sem,binC]
 refine seq_cond (t := false) rfl ?_
 simp only [go_sem,binC]
 refine seq_skip (seq_reg ?_)
 simp only [go_sem,binC,gc_of hb,inBlk_some,olv,osv]
 obtain ⟨W,H2,k2,hx2,hWg,hL⟩ := gs H.length H1 n _ _ _ ls l ts (by omega) (r1.mono hS) (r2.mono hS) hsm hP (r3.mono hS) (trK_iff.1 hk)
 refine op_callN (by simp only [go_sem,binC]; exact k2) ?_
 simp only [go_sem,binC]
 have hst := gst H2 W n ls l ts _ homes j.toNat h hL hP (r4.mono (agx_sub (hx1.tr hx2))) (homesB_iff.1 hh) (by omega) qh.1 qh.2
 rw [show ((j.toNat : Nat) : Int) = j by omega,hdn] at hst
 refine op_callQ (by simp only [go_sem,binC]; exact hst) ?_
 simp only [go_sem,binC]
 exact wpc_ret ⟨Or.inr rfl,.bool dn,(by (simp only [go_sem,binC]) <;> rfl),by simp [*],rfl⟩
end Go.Proofs.YtbjeldblaclpnaaGreatI
end
section
set_option linter.unusedVariables false
set_option linter.unusedSimpArgs false
namespace Go.Proofs.YtbjeldblaclpnaaGreatI
open Go Go.RowKit
def allHome (ls : List (Int × Int)) (ts homes : List Int) : Bool := (List.range ls.length).all fun v => hmB ls ts v (homes.getD v 0)
def allDo (n : Nat) (ls : List (Int × Int)) (l : List (TStep n)) (ts homes does : List Int) : Bool := (List.range does.length).all fun j => inB (does.getD j 0) 0 2 && doN n ls l ts homes j (does.getD j 0)
def planOkV (n : Nat) (p : TProg n) (ts homes does : List Int) : Bool := typeP n p && (trK ts && (homesB p.1.length homes && (decide ((does.length : Int) = sizeV n p) && (allHome p.1 ts homes && allDo n p.1 p.2 ts homes does))))
def PlanOkV (F : Nat -> Option IFn) (f : Nat) : Prop := ∀ (H : Heap) (n : Nat) (lv sv tw hw dw : Value) (ls : List (Int × Int)) (l : List (TStep n)) (ts homes does : List Int),SlR Co.p2 (vw 0 H) lv ls -> SlR (Co.step n) (vw 0 H) sv l -> (Co.prog n).sm (ls,l) -> SlR Co.int (vw 0 H) tw ts -> SlR Co.int (vw 0 H) hw homes -> SlR Co.int (vw 0 H) dw does -> QC F f [.agg #[lv,sv],.agg #[tw,hw,dw]] H (.bool (planOkV n (ls,l) ts homes does))
theorem all_no {P : Nat -> Bool} {k i : Nat} (hi : i < k) (h : P i = false) : (List.range k).all P = false := by
 rw [Bool.eq_false_iff]
 intro h'
 rw [List.all_eq_true.1 h' i (by simpa using hi)] at h
 cases h
theorem all_yes {P : Nat -> Bool} {k : Nat} (h : ∀ i,i < k -> P i = true) : (List.range k).all P = true := List.all_eq_true.2 fun i hi => h i (by simpa using hi)
theorem gcD {H : Heap} {v : Value} {l : List Int} (h : SlR Co.int (vw 0 H) v l) {i : Nat} (hi : i < l.length) : ∃ b o,v = .slice (some ⟨b,o,none⟩) l.length l.length /\ getCells H b (o + i) 1 = some [.int .i64 (l.getD i 0)] := by
 obtain ⟨b,o,h1,h2⟩ := gcJ h hi
 exact ⟨b,o,h1,by rw [h2]; simp [List.getD,hi]⟩
theorem sPlanOk_ok {F : Nat -> Option IFn} {f : Nat} (hf : F f = some c_sPlanOk) (gty : TypeP F 24) (gt : TrOk F 25) (gho : Homes21 F 26) (gz : SizeV F 27) (gi : ∀ (H : Heap) (a b c : Int),QC F 30 [.int .i64 a,.int .i64 b,.int .i64 c] H (.bool (inB a b c))) (gs : SeeOk F 28) (ghm : LHome F 29) (gst : LStep F 31) : PlanOkV F f := by
 intro H n lv sv tw hw dw ls l ts homes does r1 r2 hsm r3 r4 r5
 have osv : one sv = true := by obtain ⟨_,a,rfl,_⟩ := r2; rfl
 obtain ⟨_,la,rfl,_⟩ := id r1
 obtain ⟨_,ta,rfl,_⟩ := id r3
 obtain ⟨_,ha,rfl,_⟩ := id r4
 obtain ⟨hd0,da,rfl,_⟩ := id r5
 refine QC.mk hf rfl ?_
 refine seq_reg ?_
 simp only [go_sem,binC,osv]
 refine wpc_gen fun H1 hH1 => ?_
 have hx1 : AgX [] H H1 := hH1 ▸ AgX.app [] _ _
 have hb : H1[H.length]? = some ⟨[.slice la ls.length ls.length,sv],0,0,false,true⟩ := hH1 ▸ get_new0 _ _
 have hb3 : H1[H.length + 1]? = some ⟨[.slice ta ts.length ts.length,.slice ha homes.length homes.length,.slice da does.length does.length],0,0,false,true⟩ := hH1 ▸ get_new _ _ 1
 clear hH1
 have hS := agx_sub hx1
 have hl1 := hx1.1
 have hgz := gz H1 n _ _ ls l (r1.mono hS) (r2.mono hS) hsm
 have hcntz : progB n (ls,l) = true -> sizeV n (ls,l) = ((allL n l).length : Int) := sizeV_yes
 unfold planOkV
 show wpc F H.length _ _ _ (fin _ fun w _ => w = .bool (typeP n (ls,l) && (trK ts && (homesB ls.length homes && (decide ((does.length : Int) = sizeV n (ls,l)) && (allHome ls ts homes && allDo n ls l ts homes does))))) /\ scal w = true)
 generalize sizeV n (ls,l) = z at *
 refine seq_assoc (seq_regD ?_)
 simp only [go_sem,binC,gc_of hb,inBlk_some,osv]
 refine op_callQ (by simp only [go_sem,binC]; exact gty H1 n _ _ ls l (r1.mono hS) (r2.mono hS) hsm) ?_
 cases hT : typeP n (ls,l) with
 | false =>
   simp only [go_sem,binC]
   refine seq_cond (t := true) rfl ?_
   simp only [go_sem,binC]
   refine seq_assoc (seq_reg ?_)
   simp only [go_sem,binC]
   exact seq_ret ⟨Or.inr rfl,.bool false,(by (simp only [go_sem,binC]) <;> rfl),rfl,rfl⟩
 | true =>
 have hP : progB n (ls,l) = true := by
  unfold typeP at hT
  simp only [Bool.and_eq_true] at hT
  exact hT.1
 simp only [go_sem,binC,gc_of hb3,inBlk_some]
 refine op_callQ (by simp only [go_sem,binC]; exact gt.k H1 _ ts (r3.mono hS)) ?_
 cases hk : trK ts with
 | false =>
   simp only [go_sem,binC]
   refine seq_cond (t := true) rfl ?_
   simp only [go_sem,binC]
   refine seq_assoc (seq_reg ?_)
   simp only [go_sem,binC]
   exact seq_ret ⟨Or.inr rfl,.bool false,(by (simp only [go_sem,binC]) <;> rfl),rfl,rfl⟩
 | true =>
 simp only [go_sem,binC,gc_of hb,gc_of hb3,inBlk_some,osv]
 refine op_callQ (by simp only [go_sem,binC]; exact gho H1 _ _ _ ls homes osv (r1.mono hS) (r4.mono hS)) ?_
 cases hh : homesB ls.length homes with
 | false =>
   simp only [go_sem,binC]
   refine seq_cond (t := true) rfl ?_
   simp only [go_sem,binC]
   refine seq_assoc (seq_reg ?_)
   simp only [go_sem,binC]
   exact seq_ret ⟨Or.inr rfl,.bool false,(by (simp only [go_sem,binC]) <;> rfl),rfl,rfl⟩
 | true =>
 simp only [go_sem,binC,gc_of hb,gc_of hb3,inBlk_some,osv]
 refine op_callQ (by simp only [go_sem,binC]; exact hgz) ?_
 by_cases hz : (does.length : Int) = z
 case neg =>
  simp only [go_sem,binC,bne_tJ hz]
  refine seq_cond (t := true) rfl ?_
  simp only [go_sem,binC]
  refine seq_assoc (seq_reg ?_)
  simp only [go_sem,binC]
  refine seq_ret ⟨Or.inr rfl,.bool false,(by (simp only [go_sem,binC]) <;> rfl),?_,rfl⟩
  rw [decide_eq_false hz]
  rfl
 rw [decide_eq_true hz]
 simp only [go_sem,binC,bne_fJ hz]
 refine seq_cond (t := false) rfl ?_
 simp only [go_sem,binC]
 have hsz := hcntz hP
 have hlab : ls.all labB = true := progB_lab hP
 have hls4 : ls.length <= 4 := progB_len hP
 have hcnt : (allL n l).length <= 8 := progB_cnt hP hsm
 have hsl := allSL_len l
 have hho := homesB_iff.1 hh
 refine seq_skip (seq_reg ?_)
 simp only [go_sem,binC,gc_of hb,gc_of hb3,inBlk_some,osv]
 obtain ⟨W,H2,k2,hx2,hWg,hL⟩ := gs H.length H1 n _ _ _ ls l ts (by omega) (r1.mono hS) (r2.mono hS) hsm hP (r3.mono hS) (trK_iff.1 hk)
 refine op_callN (by simp only [go_sem,binC]; exact k2) ?_
 simp only [go_sem,binC]
 have hb2 := hx2.get hb (by simp)
 have hb32 := hx2.get hb3 (by simp)
 have hx02 := hx1.tr hx2
 have r42 := r4.mono (agx_sub hx02)
 have r52 := r5.mono (agx_sub hx02)
 refine seq_assoc (seq_reg ?_)
 simp only [go_sem,binC]
 refine seq_block (wpc_loop ?_)
 suffices hh : ∀ (k v : Nat) (e : Env),v + k = ls.length -> (∀ q,q < v -> hmB ls ts q (homes.getD q 0) = true) -> e 2 = ptr H.length 0 -> e 3 = ptr (H.length + 1) 0 -> e 5 = ptr W 0 -> e 6 = .int .i64 v -> Go.Proofs.YtbjeldblaclpnaaGreatI.W F H.length _ e H2 _ from
  hh ls.length 0 _ (by omega) (fun q h => by omega) (by simp only [go_sem,binC]) (by simp only [go_sem,binC]) (by simp only [go_sem,binC]) (by (simp only [go_sem,binC]) <;> rfl)
 intro k
 induction k with
 | zero =>
   intro v e hv hall e2 e3 e5 e6
   obtain rfl : v = ls.length := by omega
   have hAH : allHome ls ts homes = true := all_yes hall
   rw [hAH]
   refine lp_step ?_
   refine seq_assoc (seq_reg ?_)
   simp only [go_sem,binC,e2,e6,gc_of hb2,inBlk_some]
   refine seq_cond (t := false) (by simp only [go_sem,binC]; rw [decide_eq_false (by omega)]) ?_
   simp only [go_sem,binC]
   refine seq_exit ?_
   simp only [go_sem,binC,thenX_e,out_e,thenX_n]
   refine seq_assoc (seq_reg ?_)
   simp only [go_sem,binC]
   refine seq_block (wpc_loop ?_)
   suffices hh : ∀ (k j : Nat) (e : Env),j + k = does.length -> (∀ q,q < j -> (inB (does.getD q 0) 0 2 && doN n ls l ts homes q (does.getD q 0)) = true) -> e 2 = ptr H.length 0 -> e 3 = ptr (H.length + 1) 0 -> e 5 = ptr W 0 -> e 7 = .int .i64 j -> Go.Proofs.YtbjeldblaclpnaaGreatI.W F H.length _ e H2 _ from
    hh does.length 0 _ (by omega) (fun q h => by omega) (by simp only [go_sem,binC,e2]) (by simp only [go_sem,binC,e3]) (by simp only [go_sem,binC,e5]) (by (simp only [go_sem,binC]) <;> rfl)
   clear e2 e3 e5 e6
   intro k
   induction k with
   | zero =>
     intro j e hj hdo e2 e3 e5 e7
     obtain rfl : j = does.length := by omega
     have hAD : allDo n ls l ts homes does = true := all_yes hdo
     refine lp_step ?_
     refine seq_assoc (seq_reg ?_)
     simp only [go_sem,binC,e3,e7,gc_of hb32,inBlk_some]
     refine seq_cond (t := false) (by simp only [go_sem,binC]; rw [decide_eq_false (by omega)]) ?_
     simp only [go_sem,binC]
     refine seq_exit ?_
     simp only [go_sem,binC,thenX_e,out_e,thenX_n]
     refine seq_reg ?_
     simp only [go_sem,binC]
     rw [hAD]
     exact wpc_ret ⟨Or.inr rfl,.bool true,(by (simp only [go_sem,binC]) <;> rfl),rfl,rfl⟩
   | succ k ihj =>
     intro j e hj hdo e2 e3 e5 e7
     have hjl : j < does.length := by omega
     have hw1 : IntKind.i64.wrap ((j : Int) + 1) = ((j + 1 : Nat) : Int) := by rw [wrap_id (by omega) (by omega)]; omega
     obtain ⟨db,do_,hdv,hdg⟩ := gcD r52 hjl
     simp only [Value.slice.injEq,and_true] at hdv
     subst hdv
     have hno : (inB (does.getD j 0) 0 2 && doN n ls l ts homes j (does.getD j 0)) = false -> allDo n ls l ts homes does = false := fun h => all_no hjl h
     refine lp_step ?_
     refine seq_assoc (seq_reg ?_)
     simp only [go_sem,binC,e3,e7,gc_of hb32,inBlk_some]
     refine seq_cond (t := true) (by simp only [go_sem,binC]; rw [decide_eq_true (by omega)]) ?_
     simp only [go_sem,binC]
     refine seq_skip (seq_block (seq_regD ?_))
     simp only [go_sem,binC,e3,e7,gc_of hb32,inBlk_some]
     refine ⟨⟨by omega,by omega⟩,?_⟩
     simp only [go_sem,binC,Int.toNat_natCast,Nat.mul_one,hdg]
     refine op_callQ (by simp only [go_sem,binC]; exact gi H2 _ 0 2) ?_
     cases hin : inB (does.getD j 0) 0 2 with
     | false =>
       simp only [go_sem,binC]
       refine wpc_cond (t := true) rfl ?_
       simp only [go_sem,binC]
       refine seq_reg ?_
       simp only [go_sem,binC]
       refine wpc_ret ?_
       simp only [go_sem,binC,out_r,thenX_r]
       refine ⟨Or.inr rfl,.bool false,(by (simp only [go_sem,binC]) <;> rfl),?_,rfl⟩
       rw [hno (by rw [hin]; rfl)]
     | true =>
     have qd := inB_iff.1 hin
     simp only [go_sem,binC,e3,e5,e7,gc_of hb32,inBlk_some]
     refine ⟨⟨by omega,by omega⟩,?_⟩
     simp only [go_sem,binC,Int.toNat_natCast,Nat.mul_one,hdg]
     refine op_callQ (by simp only [go_sem,binC,e5,e7]; exact gst H2 W n ls l ts _ homes j (does.getD j 0) hL hP r42 hho (by omega) qd.1 qd.2) ?_
     cases hst : doN n ls l ts homes j (does.getD j 0) with
     | false =>
       simp only [go_sem,binC]
       refine wpc_cond (t := true) rfl ?_
       simp only [go_sem,binC]
       refine seq_reg ?_
       simp only [go_sem,binC]
       refine wpc_ret ?_
       simp only [go_sem,binC,out_r,thenX_r]
       refine ⟨Or.inr rfl,.bool false,(by (simp only [go_sem,binC]) <;> rfl),?_,rfl⟩
       rw [hno (by rw [hin,hst]; rfl)]
     | true =>
       simp only [go_sem,binC]
       refine wpc_cond (t := false) rfl ?_
       simp only [go_sem,binC]
       refine wpc_skip ?_
       simp only [go_sem,binC,out_n,thenX_n]
       refine wpc_reg ?_
       simp only [go_sem,binC,e7,hw1]
       simp only [go_sem,binC,thenX_n]
       refine ihj (j + 1) _ (by omega) (fun q hq => ?_) (by simp only [go_sem,binC,e2]) (by simp only [go_sem,binC,e3]) (by simp only [go_sem,binC,e5]) (by simp only [go_sem,binC])
       by_cases hqj : q = j
       ·subst hqj; rw [hin,hst]; rfl
       ·exact hdo q (by omega)
 | succ k ih =>
   intro v e hv hall e2 e3 e5 e6
   have hvl : v < ls.length := by omega
   have hvh : v < homes.length := by have := hho.1; omega
   have hw1 : IntKind.i64.wrap ((v : Int) + 1) = ((v + 1 : Nat) : Int) := by rw [wrap_id (by omega) (by omega)]; omega
   obtain ⟨hb',ho',hhv,hhg⟩ := gcD r42 hvh
   simp only [Value.slice.injEq,and_true] at hhv
   subst hhv
   have hrg : 0 <= homes.getD v 0 /\ homes.getD v 0 <= 2 := by
    have := hho.2 homes[v] (List.getElem_mem hvh)
    simpa [List.getD,hvh] using this
   refine lp_step ?_
   refine seq_assoc (seq_reg ?_)
   simp only [go_sem,binC,e2,e6,gc_of hb2,inBlk_some]
   refine seq_cond (t := true) (by simp only [go_sem,binC]; rw [decide_eq_true (by omega)]) ?_
   simp only [go_sem,binC]
   refine seq_skip (seq_block (seq_reg ?_))
   simp only [go_sem,binC,e3,e5,e6,gc_of hb32,inBlk_some]
   refine ⟨⟨by omega,by omega⟩,?_⟩
   simp only [go_sem,binC,Int.toNat_natCast,Nat.mul_one,hhg]
   refine op_callQ (by simp only [go_sem,binC,e5,e6]; exact ghm H2 W n ls l ts v (homes.getD v 0) hL hlab (by omega) (by omega) hrg.1 hrg.2) ?_
   cases hp : hmB ls ts v (homes.getD v 0) with
   | false =>
     have hAH : allHome ls ts homes = false := all_no hvl hp
     simp only [go_sem,binC]
     refine wpc_cond (t := true) rfl ?_
     simp only [go_sem,binC]
     refine seq_reg ?_
     simp only [go_sem,binC]
     refine wpc_ret ?_
     simp only [go_sem,binC,out_r,thenX_r]
     refine ⟨Or.inr rfl,.bool false,(by (simp only [go_sem,binC]) <;> rfl),?_,rfl⟩
     rw [hAH]
     rfl
   | true =>
     simp only [go_sem,binC]
     refine wpc_cond (t := false) rfl ?_
     simp only [go_sem,binC]
     refine wpc_skip ?_
     simp only [go_sem,binC,out_n,thenX_n]
     refine wpc_reg ?_
     simp only [go_sem,binC,e6,hw1]
     simp only [go_sem,binC,thenX_n]
     refine ih (v + 1) _ (by omega) (fun q hq => ?_) (by simp only [go_sem,binC,e2]) (by simp only [go_sem,binC,e3]) (by simp only [go_sem,binC,e5]) (by simp only [go_sem,binC])
     by_cases hqv : q = v
     ·subst hqv; exact hp
     ·exact hall q (by omega)
end Go.Proofs.YtbjeldblaclpnaaGreatI
end
section
set_option linter.unusedVariables false
set_option linter.unusedSimpArgs false
namespace Go.Proofs.YtbjeldblaclpnaaGreatI
open Go Go.RowKit
def c_drTrusts : IFn := ⟨1,37,[.t 2],
 .seq (.reg none [⟨some 2,none,.mov (.c (.slice none 0 0))⟩])
 (.seq (.reg none [⟨some 5,none,.lit 1 3 0 [] []⟩,⟨some 3,none,.mov (.t 5)⟩])
 (.seq (.seq (.reg none [⟨some 4,none,.mov (.c (.int .i64 0))⟩])
  (.block 0 (.loop (.seq (.seq (.reg none [⟨some 6,none,.mov (.t 4)⟩,⟨some 7,none,.bin .lss (.t 6) (.c (.int .i64 3))⟩])
    (.cond (.t 7) (.skip) (.exit 0)))
   (.seq (.block 1 (.reg (some 10) [⟨some 10,none,.mov (.t 3)⟩,⟨some 11,none,.mov (.t 4)⟩,⟨some 12,none,.bin .shl (.c (.int .i64 1)) (.t 11)⟩,
     ⟨some 13,none,.lit 1 3 9 [(.int .i64 0),(.int .i64 0),(.int .i64 0),(.int .i64 0),(.int .i64 0),(.int .i64 0),(.int .i64 0),(.int .i64 0),(.int .i64 0)] [(0,1,(.c (.int .i64 7))),(1,1,(.c (.int .i64 7))),(2,1,(.c (.int .i64 3))),(3,1,(.c (.int .i64 5))),(4,1,(.c (.int .i64 6))),(5,1,(.c (.int .i64 0))),(6,1,(.c (.int .i64 1))),(7,1,(.c (.int .i64 2))),(8,1,(.c (.int .i64 4)))]⟩,
     ⟨some 14,none,.mov (.t 0)⟩,⟨some 15,none,.call .n (.f 14) [.t 14,(.c (.int .i64 9))]⟩,⟨some 16,none,.iad 1 (.t 13) (.t 15)⟩,
     ⟨some 17,none,.load false 1 (.t 16)⟩,⟨some 18,none,.call .q (.f 75) [.t 12,.t 17]⟩,⟨some 19,none,.lit 1 3 1 [(.int .i64 0)] [(0,1,(.t 18))]⟩,
     ⟨some 20,none,.app 1 3 8 true (.t 10) (.t 19)⟩,⟨some 3,none,.mov (.t 20)⟩]))
   (.reg none [⟨some 8,none,.mov (.t 4)⟩,⟨some 9,none,.bin .add (.t 8) (.c (.int .i64 1))⟩,⟨some 4,none,.mov (.t 9)⟩]))))))
 (.seq (.seq (.reg none [⟨some 21,none,.mov (.t 0)⟩,⟨some 22,none,.call .n (.f 14) [.t 21,(.c (.int .i64 24))]⟩])
  (.block 2 (.seq (.reg none [⟨some 24,none,.bin .eql (.t 22) (.c (.int .i64 0))⟩,⟨some 23,none,.mov (.t 24)⟩])
   (.cond (.t 23) (.reg none [⟨some 25,none,.mov (.t 3)⟩,
     ⟨some 26,none,.lit 1 3 3 [(.int .i64 0),(.int .i64 0),(.int .i64 0)] [(0,1,(.c (.int .i64 (-1)))),(1,1,(.c (.int .i64 8))),(2,1,(.c (.int .i64 6)))]⟩,
     ⟨some 27,none,.mov (.t 0)⟩,⟨some 28,none,.call .n (.f 14) [.t 27,(.c (.int .i64 3))]⟩,⟨some 29,none,.iad 1 (.t 26) (.t 28)⟩,
     ⟨some 30,none,.load false 1 (.t 29)⟩,⟨some 31,none,.iad 1 (.t 25) (.c (.int .i64 0))⟩,⟨none,none,.store 1 (.t 31) (.t 30)⟩]) (.seq (.reg none [
      ⟨some 33,none,.bin .eql (.t 22) (.c (.int .i64 1))⟩,⟨some 32,none,.mov (.t 33)⟩])
    (.cond (.t 32) (.seq (.reg none [⟨some 34,none,.mov (.t 3)⟩,⟨some 35,none,.sub 1 (.t 34) (some (.c (.int .i64 1))) none⟩,⟨some 2,none,.mov (.t 35)⟩])
     (.ret)) (.skip)))))))
 (.seq (.reg none [⟨some 36,none,.mov (.t 3)⟩,⟨some 2,none,.mov (.t 36)⟩])
 (.ret)))))⟩
theorem shl3 {i : Nat} (hi : i < 3) : IntKind.i64.wrap (1 * 2 ^ (min i 64)) = (2 : Int) ^ i := by
 have : i = 0 \/ i = 1 \/ i = 2 := by omega
 rcases this with rfl | rfl | rfl <;> decide
theorem pow3 {i : Nat} (hi : i < 3) : 0 <= (2 : Int) ^ i /\ (2 : Int) ^ i <= 7 := by
 have : i = 0 \/ i = 1 \/ i = 2 := by omega
 rcases this with rfl | rfl | rfl <;> decide
def TrQ (H H' : Heap) (v : Value) : Prop := ∃ ts : List Int,SlR Co.int (vwl H.length [] H') v ts /\ ts.length <= 3
theorem drTrusts_ok {F : Nat -> Option IFn} {f : Nat} (hf : F f = some c_drTrusts) (hpk : F 14 = some c_pick) (ge : ∀ (H : Heap) (a b : Int),0 <= a -> a <= 7 -> 0 <= b -> b <= 7 -> QC F 75 [.int .i64 a,.int .i64 b] H (.int .i64 (a + b - bothS a b 3))) {H0 : Heap} {rb : Nat} {bv : Value} {code : List Int} (hc : RdC H0 rb bv code) : DrawS F H0 rb bv f [] 10 TrQ := by
 refine DrawS.mk hf rfl fun H p lo hs hp hp2 hlo => ?_
 have hl := hs.lt
 have hc0 := hc.low
 refine seq_reg ?_
 simp only [go_sem,binC]
 refine seq_reg ?_
 simp only [go_sem,binC]
 refine wpc_gen fun H1 hH1 => ?_
 have hs1 : St H0 rb bv p H1 := hH1 ▸ hs.appN hc _
 have ht1 : AgX [rb] H H1 := hH1 ▸ AgX.app [rb] _ _
 have hb1 : H1[H.length]? = some ⟨ints [],1,3,true,true⟩ := hH1 ▸ get_new0 _ _
 clear hH1
 refine seq_assoc (seq_reg ?_)
 simp only [go_sem,binC]
 refine seq_block (wpc_loop ?_)
 suffices h : ∀ (k i : Nat) (e : Env) (Hc : Heap) (b : Nat) (l : List Int),i + k = 3 -> l.length = i -> St H0 rb bv (p + i) Hc -> AgX [rb] H Hc -> H.length <= b -> Hc[b]? = some ⟨ints l,1,3,true,true⟩ -> (∀ x ∈ l,RgI x) -> e 0 = ptr rb 0 -> e 3 = sli b 0 l.length -> e 4 = .int .i64 i -> W F lo _ e Hc _ from
  h 3 0 _ H1 H.length [] rfl rfl (by simpa using hs1) ht1 (Nat.le_refl _) hb1 (fun x h => by cases h) (by simp only [go_sem,binC]) (by (simp only [go_sem,binC]) <;> rfl) (by (simp only [go_sem,binC]) <;> rfl)
 intro k
 induction k with
 | zero =>
   intro i e Hc b l hik hli hsc htc hb hbk hr e0 e3 e4
   have hi3 : i = 3 := by omega
   have hl3 : l.length = 3 := by omega
   subst hi3
   have hlc := htc.1
   have hbl := (List.getElem?_eq_some_iff.1 hbk).1
   refine lp_step ?_
   refine seq_assoc (seq_reg ?_)
   simp only [go_sem,binC,e4]
   refine seq_cond (t := false) (by (simp only [go_sem,binC]) <;> rfl) ?_
   simp only [go_sem,binC]
   refine seq_exit ?_
   simp only [go_sem,binC,thenX_e,out_e,thenX_n]
   refine seq_assoc (seq_reg ?_)
   simp only [go_sem,binC,e0]
   refine op_draw (n := 24) hpk hc hsc (by omega) (by omega) hlo (by simp only [go_sem,binC,e0]) (by simp only [go_sem,binC]) fun H2 hl2 hx2 hs2 => ?_
   simp only [go_sem,binC]
   have hbk2 := hx2.get hbk (by simp; omega)
   have ht2 := htc.tr hx2
   refine seq_block ?_
   refine seq_reg ?_
   by_cases h0 : pickV code (p + (3 : Nat)) 24 = 0
   ·simp only [go_sem,binC,beq_t h0]
    refine wpc_cond (t := true) rfl ?_
    simp only [go_sem,binC]
    refine wpc_reg ?_
    simp only [go_sem,binC,e0,e3]
    have hs3 := hs2.appN hc ([⟨[.int .i64 (-1),.int .i64 8,.int .i64 6],1,3,true,true⟩] : Heap)
    refine op_draw (n := 3) hpk hc hs3 (by omega) (by omega) hlo (by simp only [go_sem,binC,e0]) (by simp only [go_sem,binC]) fun H4 hl4 hx4 hs4 => ?_
    have hbd := pickV_bd code (p + (3 : Nat) + 1) (n := 3) (by omega)
    have hlit : H4[H2.length]? = some ⟨[.int .i64 (-1),.int .i64 8,.int .i64 6],1,3,true,true⟩ := hx4.get (get_new0 _ _) (by simp; omega)
    have hbk4 : H4[b]? = some ⟨ints l,1,3,true,true⟩ := hx4.get (by rw [List.getElem?_append_left (List.getElem?_eq_some_iff.1 hbk2).1]; exact hbk2) (by simp; omega)
    have hg4 : getCells H4 H2.length (pickV code (p + (3 : Nat) + 1) 3).toNat 1 = some [.int .i64 ([-1,8,6].getD (pickV code (p + (3 : Nat) + 1) 3).toNat 0)] := by
     rw [gc_of hlit,inBlk_some]
     simp only [List.length_cons,List.length_nil]
     rw [if_pos (by omega),tk3 (by omega)]
    simp only [go_sem,binC]
    refine ⟨⟨by omega,by omega⟩,?_⟩
    simp only [go_sem,binC,Nat.mul_one,hg4,e3]
    refine ⟨by omega,?_⟩
    simp only [go_sem,binC,hbk4]
    have hil : (ints l).length = 3 := by simp [ints,hl3]
    refine ⟨⟨by omega,by omega⟩,?_⟩
    simp only [go_sem,binC,out_n,thenX_n]
    refine seq_reg ?_
    simp only [go_sem,binC,e3]
    obtain ⟨a0,a1,a2,rfl⟩ : ∃ a0 a1 a2,l = [a0,a1,a2] := by
     match l,hl3 with
     | [a,b,c],_ => exact ⟨a,b,c,rfl⟩
    have hv : RgI ([-1,8,6].getD (pickV code (p + (3 : Nat) + 1) 3).toNat 0) := by
     have : (pickV code (p + (3 : Nat) + 1) 3).toNat = 0 \/ (pickV code (p + (3 : Nat) + 1) 3).toNat = 1 \/ (pickV code (p + (3 : Nat) + 1) 3).toNat = 2 := by omega
     rcases this with h | h | h <;> rw [h] <;> simp [RgI]
    have ht4 : AgX [rb] H H4 := (ht2.appN _).tr hx4
    have hb4l := (List.getElem?_eq_some_iff.1 hbk4).1
    refine wpc_ret ⟨Or.inr rfl,_,(by (simp only [go_sem,binC]) <;> rfl),p + 5,ht4.setN hb _,?_,by omega,[([-1,8,6].getD (pickV code (p + (3 : Nat) + 1) 3).toNat 0),a1,a2],?_,by simp⟩
    ·have := hs4.setN hc (b := b) (by omega) ⟨ints [([-1,8,6].getD (pickV code (p + (3 : Nat) + 1) 3).toNat 0),a1,a2],1,3,true,true⟩
     rw [show p + (3 : Nat) + 1 + 1 = p + 5 by omega] at this
     exact this
    ·exact ints_sl (o := 0) (List.getElem?_set_self hb4l) hb (by simp) (fun x hx => by
      simp only [List.mem_cons,List.not_mem_nil,or_false] at hx
      rcases hx with rfl | rfl | rfl
      ·exact hv
      ·exact hr _ (by simp)
      ·exact hr _ (by simp)) (by simp) (by simp)
   simp only [go_sem,binC,beq_f h0]
   refine wpc_cond (t := false) rfl ?_
   simp only [go_sem,binC]
   refine seq_reg ?_
   have hs2' : St H0 rb bv (p + 4) H2 := by
    have := hs2
    rw [show p + (3 : Nat) + 1 = p + 4 by omega] at this
    exact this
   by_cases h1 : pickV code (p + (3 : Nat)) 24 = 1
   ·simp only [go_sem,binC,beq_t h1]
    refine wpc_cond (t := true) rfl ?_
    simp only [go_sem,binC]
    refine seq_reg ?_
    simp only [go_sem,binC,e3]
    have hsub : subV 1 (sli b 0 l.length) e (some (.c (.int .i64 1))) none = some (.slice (some ⟨b,1,none⟩) (l.drop 1).length (l.drop 1).length) := by
     simp [subV,sli,subB,Opd.ev,hl3]
    have hsub' : ∀ e' : Env,subV 1 (sli b 0 l.length) e' (some (.c (.int .i64 1))) none = some (.slice (some ⟨b,1,none⟩) (l.drop 1).length (l.drop 1).length) := fun e' => by
     simp [subV,sli,subB,Opd.ev,hl3]
    simp only [go_sem,binC,hsub']
    refine wpc_ret ?_
    simp only [go_sem,binC,out_r,thenX_r]
    exact ⟨Or.inr rfl,_,(by (simp only [go_sem,binC]) <;> rfl),p + 4,ht2,hs2',by omega,l.drop 1,ints_sl hbk2 hb (by simp) hr (by omega) (by omega),by rw [List.length_drop]; omega⟩
   ·simp only [go_sem,binC,beq_f h1]
    refine wpc_cond (t := false) rfl ?_
    simp only [go_sem,binC]
    refine wpc_skip ?_
    simp only [go_sem,binC,out_n,thenX_n]
    refine seq_reg ?_
    simp only [go_sem,binC,e3]
    exact wpc_ret ⟨Or.inr rfl,_,(by (simp only [go_sem,binC]) <;> rfl),p + 4,ht2,hs2',by omega,l,ints_sl (o := 0) hbk2 hb (by simp) hr (by omega) (by omega),by omega⟩
 | succ k ih =>
   intro i e Hc b l hik hli hsc htc hb hbk hr e0 e3 e4
   have hi3 : i < 3 := by omega
   have hlc := htc.1
   have hbl := (List.getElem?_eq_some_iff.1 hbk).1
   have hw1 : IntKind.i64.wrap ((i : Int) + 1) = ((i + 1 : Nat) : Int) := by rw [wrap_id (by omega) (by omega)]; omega
   refine lp_step ?_
   refine seq_assoc (seq_reg ?_)
   simp only [go_sem,binC,e4]
   refine seq_cond (t := true) (by simp only [go_sem,binC]; rw [decide_eq_true (by omega)]) ?_
   simp only [go_sem,binC]
   refine seq_skip (seq_block ?_)
   obtain ⟨N,n1⟩ : ∃ N,Hc.length = N := ⟨_,rfl⟩
   refine wpc_regX [rb] (by simp; have := hsc.lt; omega) ?_
   refine wpx_A rfl ?_
   simp only [go_sem,binC,e3]
   refine wpx_A rfl ?_
   simp only [go_sem,binC,e4]
   refine wpx_A rfl ?_
   simp only [go_sem,binC]
   refine shl_rule (by omega) ?_
   simp only [go_sem,binC,IntKind.bits]
   rw [shl3 hi3]
   refine wpx_A rfl ?_
   simp only [go_sem,binC,hide_length,n1]
   refine wpx_A rfl ?_
   simp only [go_sem,binC,hide_length,n1,e0]
   refine wpx_pick (n := 9) hpk hc hsc (by omega) (by omega) hlo (by simp only [go_sem,binC]) (by simp only [go_sem,binC]) fun B1 hl1 hx1 hs1 => ?_
   have n2 := hl1.trans n1
   have hk1 := pickV_bd code (p + i) (n := 9) (by omega)
   refine wpx_A rfl ?_
   simp only [go_sem,binC]
   refine ⟨hk1,?_⟩
   refine wpx_A rfl ?_
   have hi1 : (pickV code (p + i) 9).toNat + 1 <= 9 := by omega
   simp only [go_sem,binC,Nat.mul_one,gc_hid n2,gc_hid0 n2,inBlk_some,tk9 (i := (pickV code (p + i) 9).toNat) (by omega),hi1]
   have hb7 := lab_bd (a0 := 7) (a1 := 7) (a2 := 3) (a3 := 5) (a4 := 6) (a5 := 0) (a6 := 1) (a7 := 2) (a8 := 4) (by simp) (pickV code (p + i) 9).toNat
   have hp7 := pow3 hi3
   refine wpx_A rfl ?_
   refine op_callQ (by simp only [go_sem,binC]; exact ge _ _ _ hp7.1 hp7.2 hb7.1 hb7.2) ?_
   simp only [go_sem,binC,hide_length,n2]
   refine wpx_A rfl ?_
   simp only [go_sem,binC,hide_length,n2]
   refine wpx_zero ?_
   subst n2
   simp only [go_sem,binC,hide_length]
   generalize hel : (2 : Int) ^ i + [7,7,3,5,6,0,1,2,4].getD (pickV code (p + i) 9).toNat 0 - bothS (2 ^ i) ([7,7,3,5,6,0,1,2,4].getD (pickV code (p + i) 9).toNat 0) 3 = el
   have hrel : RgI el := by
    have := bothS_bd ((2 : Int) ^ i) ([7,7,3,5,6,0,1,2,4].getD (pickV code (p + i) 9).toNat 0)
    unfold RgI
    omega
   have hbk1 := hx1.get hbk (by simp; omega)
   have happ : ∀ (L : Blk) (H' : Heap),H' = B1 ++ [L] -> H'[b]? = some ⟨ints l,1,3,true,true⟩ := fun L H' h => by rw [h,List.getElem?_append_left (List.getElem?_eq_some_iff.1 hbk1).1]; exact hbk1
   obtain ⟨H2,hH2⟩ : ∃ H2 : Heap,H2 = B1 ++ [⟨[.int .i64 7,.int .i64 7,.int .i64 3,.int .i64 5,.int .i64 6,.int .i64 0,.int .i64 1,.int .i64 2,.int .i64 4],1,3,true,true⟩] := ⟨_,rfl⟩
   have hn2 : H2.length = B1.length + 1 := by rw [hH2,List.length_append]; rfl
   have hsplit : (B1 ++ [⟨[.int .i64 7,.int .i64 7,.int .i64 3,.int .i64 5,.int .i64 6,.int .i64 0,.int .i64 1,.int .i64 2,.int .i64 4],1,3,true,true⟩,⟨[.int .i64 el],1,3,true,true⟩] : Heap) = H2 ++ [⟨[.int .i64 el],1,3,true,true⟩] := by rw [hH2,List.append_assoc]; rfl
   rw [hsplit]
   have hx2 : AgX [] B1 H2 := hH2 ▸ AgX.app [] _ _
   refine op_app_kill (n := l.length) (happ _ H2 hH2) (by simp [ints]) (by simp only [go_sem,binC,e3]) (by simp only [go_sem,binC]; rw [hn2]) (by omega) rfl (by omega) (by omega) fun H3 hx3 hb3 => ?_
   simp only [go_sem,binC,out_n,thenX_n]
   refine wpc_reg ?_
   simp only [go_sem,binC,e4,hw1]
   simp only [go_sem,binC,thenX_n]
   have ht2 : AgX [rb] H H2 := (htc.tr hx1).trans hx2 (fun _ h _ => h) (fun _ h _ => by cases h)
   have hs2 := hs1.mono hc hx2 (fun _ h => by cases h)
   have ht3 : AgX [rb] H H3 := ht2.trans hx3 (fun _ h _ => h) (fun b' h1 h2 => by simp only [List.mem_singleton] at h1; omega)
   have hs3 : St H0 rb bv (p + i + 1) H3 := hs2.mono hc hx3 (fun b' h => by simp only [List.mem_singleton] at h; omega)
   refine ih (i + 1) _ H3 (H2.length + 1) (l ++ [el]) (by omega) (by simp [hli]) (by rw [show p + ((i + 1 : Nat) : Int) = p + i + 1 by omega]; exact hs3) ht3 (by have := ht2.1; omega) ?_ ?_ (by simp only [go_sem,binC,e0]) (by (simp only [go_sem,binC]) <;> (rw [List.length_append]; rfl)) (by simp only [go_sem,binC])
   ·rw [hb3]
    simp [ints]
   ·intro x hx
    rcases List.mem_append.1 hx with hx | hx
    ·exact hr x hx
    ·simp only [List.mem_singleton] at hx; subst hx; exact hrel
end Go.Proofs.YtbjeldblaclpnaaGreatI
end
section
set_option linter.unusedVariables false
set_option linter.unusedSimpArgs false
namespace Go.Proofs.YtbjeldblaclpnaaGreatI
open Go Go.RowKit
def drPlanD : ICode := .reg none [⟨some 54,none,.mov (.t 0)⟩,⟨some 55,none,.call .n (.f 72) [.t 54]⟩,⟨none,none,.store 2 (.t 4) (.t 55)⟩]
def c_drPlan : IFn := ⟨1,68,[.cell true 2 2,.cell true 3 3],
 .seq (.reg none [⟨some 2,none,.new [(.slice none 0 0),(.slice none 0 0)]⟩,⟨some 3,none,.new [(.slice none 0 0),(.slice none 0 0),(.slice none 0 0)]⟩])
 (.seq (.reg none [⟨some 11,none,.mov (.t 0)⟩,⟨some 12,none,.call .n (.f 72) [.t 11]⟩,⟨some 4,none,.new [(.slice none 0 0),(.slice none 0 0)]⟩,
   ⟨none,none,.store 2 (.t 4) (.t 12)⟩])
 (.seq (.seq (.reg none [⟨some 5,none,.mov (.c (.int .i64 0))⟩])
  (.block 0 (.loop (.seq (.seq (.reg none [⟨some 13,none,.mov (.t 5)⟩,⟨some 14,none,.bin .lss (.t 13) (.c (.int .i64 8))⟩])
    (.cond (.t 14) (.skip) (.exit 0)))
   (.seq (.block 1 (.seq (.reg none [⟨some 17,none,.mov (.t 0)⟩,⟨some 18,none,.call .n (.f 43) [.t 17]⟩,⟨some 6,none,.mov (.t 18)⟩])
    (.seq (.reg none [⟨some 20,none,.load true 2 (.t 4)⟩,⟨some 21,none,.mov (.t 6)⟩,⟨some 22,none,.call .k (.f 73) [.t 20,.t 21]⟩,⟨some 19,none,.mov (.t 22)⟩,
      ⟨some 23,none,.ext (.t 19) 0⟩,⟨some 24,none,.ext (.t 19) 1⟩,⟨some 7,none,.new [(.slice none 0 0),(.slice none 0 0),(.slice none 0 0)]⟩,
      ⟨none,none,.store 3 (.t 7) (.t 23)⟩,⟨some 8,none,.mov (.t 24)⟩])
    (.seq (.seq (.reg none [⟨some 25,none,.mov (.t 8)⟩,⟨some 26,none,.mov (.t 25)⟩,⟨some 27,some (26,true),.load true 2 (.t 4)⟩,
      ⟨some 28,some (26,true),.call .q (.f 27) [.t 27]⟩,⟨some 29,some (26,true),.bin .gtr (.t 28) (.c (.int .i64 1))⟩,
      ⟨some 30,none,.pick (.t 26) (.t 29) (.c (.bool false))⟩])
     (.cond (.t 30) (.seq (.seq (.reg none [⟨some 9,none,.mov (.c (.int .i64 0))⟩])
      (.block 2 (.loop (.seq (.seq (.reg none [⟨some 31,none,.mov (.t 9)⟩,⟨some 32,none,.fad 2 (.t 7)⟩,⟨some 33,none,.load false 1 (.t 32)⟩,
         ⟨some 34,none,.len (.t 33)⟩,⟨some 35,none,.bin .lss (.t 31) (.t 34)⟩])
        (.cond (.t 35) (.skip) (.exit 2)))
       (.seq (.block 3 (.seq (.reg none [⟨some 38,none,.mov (.t 0)⟩,⟨some 39,none,.call .n (.f 14) [.t 38,(.c (.int .i64 3))]⟩,⟨some 10,none,.mov (.t 39)⟩])
        (.seq (.reg none [⟨some 40,none,.load true 2 (.t 4)⟩,⟨some 41,none,.mov (.t 6)⟩,⟨some 42,none,.fad 1 (.t 7)⟩,⟨some 43,none,.load false 1 (.t 42)⟩,
          ⟨some 44,none,.mov (.t 9)⟩,⟨some 45,none,.mov (.t 10)⟩,⟨some 46,none,.call .q (.f 74) [.t 40,.t 41,.t 43,.t 44,.t 45]⟩])
        (.cond (.t 46) (.reg none [⟨some 47,none,.fad 2 (.t 7)⟩,⟨some 48,none,.load false 1 (.t 47)⟩,⟨some 49,none,.mov (.t 9)⟩,⟨some 50,none,.mov (.t 10)⟩,
          ⟨some 51,none,.iad 1 (.t 48) (.t 49)⟩,⟨none,none,.store 1 (.t 51) (.t 50)⟩]) (.skip)))))
       (.reg none [⟨some 36,none,.mov (.t 9)⟩,⟨some 37,none,.bin .add (.t 36) (.c (.int .i64 1))⟩,⟨some 9,none,.mov (.t 37)⟩]))))))
      (.seq (.reg (some 3) [⟨some 52,none,.load true 2 (.t 4)⟩,⟨some 53,none,.load true 3 (.t 7)⟩,⟨none,none,.store 2 (.t 2) (.t 52)⟩,
        ⟨none,none,.store 3 (.t 3) (.t 53)⟩])
      (.ret))) (.skip)))
    drPlanD))))
   (.reg none [⟨some 15,none,.mov (.t 5)⟩,⟨some 16,none,.bin .add (.t 15) (.c (.int .i64 1))⟩,⟨some 5,none,.mov (.t 16)⟩]))))))
 (.seq (.reg (some 13) [⟨some 56,none,.load true 2 (.t 4)⟩,⟨some 57,none,.mov (.t 0)⟩,⟨some 58,none,.call .n (.f 43) [.t 57]⟩,⟨some 59,none,.fad 0 (.t 4)⟩,
   ⟨some 60,none,.load false 1 (.t 59)⟩,⟨some 61,none,.len (.t 60)⟩,⟨some 62,none,.mks 1 3 8 [(.int .i64 0)] (.t 61) (.t 61)⟩,
   ⟨some 63,none,.load true 2 (.t 4)⟩,⟨some 64,none,.call .q (.f 27) [.t 63]⟩,⟨some 65,none,.max2 (.t 64) (.c (.int .i64 0))⟩,
   ⟨some 66,none,.mks 1 3 8 [(.int .i64 0)] (.t 65) (.t 65)⟩,
   ⟨some 67,none,.build [(.slice none 0 0),(.slice none 0 0),(.slice none 0 0)] [(0,1,(.t 58)),(1,1,(.t 62)),(2,1,(.t 66))]⟩,
   ⟨none,none,.store 2 (.t 2) (.t 56)⟩,⟨none,none,.store 3 (.t 3) (.t 67)⟩])
 (.ret))))⟩
theorem PlanZ.one {lo : Nat} {H : Heap} {tv hv dv : Value} {ts : List Int} {o : Option (List Int)} {d : List Int -> List Int} (h : PlanZ lo H tv hv dv ts o d) : Go.Proofs.YtbjeldblaclpnaaGreatI.one tv = true /\ Go.Proofs.YtbjeldblaclpnaaGreatI.one hv = true /\ Go.Proofs.YtbjeldblaclpnaaGreatI.one dv = true := by
 cases o with
 | none => obtain ⟨rfl,rfl,rfl⟩ := h; exact ⟨rfl,rfl,rfl⟩
 | some homes =>
   obtain ⟨b1,b2,b3,rfl,rfl,rfl,_⟩ := h
   exact ⟨rfl,rfl,rfl⟩
theorem rep_intsK (n : Nat) (a : Int) : (List.replicate n [Value.int .i64 a]).flatten = ints (List.replicate n a) := by
 induction n with
 | zero => rfl
 | succ n ih => rw [List.replicate_succ,List.replicate_succ,List.flatten_cons,ih]; rfl
def PlanQ (H H' : Heap) (v : Value) : Prop := ∃ (lv sv tv : Value) (b2 b3 : Nat) (ls : List (Int × Int)) (l : List (TStep 3)) (ts homes does : List Int),v = .tuple #[.agg #[lv,sv],.agg #[tv,sli b2 0 homes.length,sli b3 0 does.length]] /\ ProgV 3 (vwl H.length [b2,b3] H') lv sv ls l /\ SlR Co.int (vwl H.length [b2,b3] H') tv ts /\ ts.length <= 3 /\ IntsO 3 H.length H' b2 true homes /\ IntsO 3 H.length H' b3 true does /\ b2 ≠ b3 /\ homes.length <= 100 /\ does.length <= 1000
theorem drPlan_ok {F : Nat -> Option IFn} {f : Nat} (hf : F f = some c_drPlan) (hpk : F 14 = some c_pick) {H0 : Heap} {rb : Nat} {bv : Value} {code : List Int} (hc : RdC H0 rb bv code) (gan : DrawS F H0 rb bv 72 [] 40000 (ProgQ 3)) (gtr : DrawS F H0 rb bv 43 [] 10 TrQ) (gf : FindS F 73) (gz : SizeV F 27) (gps : StepV F 74) : DrawS F H0 rb bv f [] 370000 PlanQ := by
 refine DrawS.mk hf rfl fun H p lo hs hp hp2 hlo => ?_
 have hl := hs.lt
 refine seq_reg ?_
 simp only [go_sem,binC]
 refine wpc_gen fun H1 hH1 => ?_
 have hs1 : St H0 rb bv p H1 := hH1 ▸ hs.appN hc _
 have ht1 : AgX [rb] H H1 := hH1 ▸ AgX.app [rb] _ _
 have hb2 : H1[H.length]? = some ⟨[nilS,nilS],0,0,false,true⟩ := hH1 ▸ get_new0 _ _
 have hb3 : H1[H.length + 1]? = some ⟨[nilS,nilS,nilS],0,0,false,true⟩ := hH1 ▸ get_new _ _ 1
 have hl1 : H1.length = H.length + 2 := by rw [hH1,List.length_append]; rfl
 clear hH1
 refine seq_reg ?_
 simp only [go_sem,binC]
 obtain ⟨v3,H3,p3,k3,x3,s3,c3,lv,sv,ls,l,rfl,hpv⟩ := gan H1 p lo hs1 hp (by omega) hlo
 refine op_callN (by simp only [go_sem,binC]; exact k3) ?_
 have olv : one lv = true := by obtain ⟨_,a,rfl,_⟩ := hpv.1; rfl
 have osv : one sv = true := by obtain ⟨_,a,rfl,_⟩ := hpv.2.1; rfl
 have hl3 := x3.1
 simp only [go_sem,binC,olv,osv]
 refine ⟨by omega,?_⟩
 refine wpc_gen fun H4 hH4 => ?_
 have hs4 : St H0 rb bv p3 H4 := hH4 ▸ s3.appN hc _
 have ht4 : AgX [rb] H1 H4 := hH4 ▸ x3.appN _
 have hb4 : H4[H3.length]? = some ⟨[lv,sv],0,0,false,true⟩ := hH4 ▸ get_new0 _ _
 have hpv4 : ProgV 3 (vwl H1.length [H3.length] H4) lv sv ls l := hpv.mono (by subst hH4; exact vwl_sub (AgX.app [] _ _) (Nat.le_refl _) fun b' h1 h2 _ => ⟨by simp,by simp; omega⟩)
 clear hH4 hpv
 generalize hB4 : H3.length = b4 at *
 refine seq_assoc (seq_reg ?_)
 simp only [go_sem,binC]
 refine seq_block (wpc_loop ?_)
 suffices hh : ∀ (k i : Nat) (e : Env) (Hc : Heap) (q : Int) (lv sv : Value) (ls : List (Int × Int)) (l : List (TStep 3)),i + k = 8 -> St H0 rb bv q Hc -> (p <= q /\ q <= p + 40000 + (i : Int) * 40020) -> AgX [rb] H1 Hc -> Hc[b4]? = some ⟨[lv,sv],0,0,false,true⟩ -> ProgV 3 (vwl H1.length [b4] Hc) lv sv ls l -> e 0 = ptr rb 0 -> e 2 = ptr H.length 0 -> e 3 = ptr (H.length + 1) 0 -> e 4 = ptr b4 0 -> e 5 = .int .i64 i -> Go.Proofs.YtbjeldblaclpnaaGreatI.W F lo _ e Hc _ from
  hh 8 0 _ H4 p3 lv sv ls l rfl hs4 (by omega) ht4 hb4 hpv4 (by simp only [go_sem,binC]) (by simp only [go_sem,binC]) (by simp only [go_sem,binC]) (by simp only [go_sem,binC]) (by (simp only [go_sem,binC]) <;> rfl)
 clear hpv4 hb4 olv osv
 intro k
 induction k with
 | zero =>
   intro i e Hc q lv sv ls l hi hsc hq hxc hbc hpc e0 e2 e3 e4 e5
   have hlc := hxc.1
   have hb4c := (List.getElem?_eq_some_iff.1 hbc).1
   have hrbl : rb < H1.length := by omega
   obtain ⟨_,la,rfl,_⟩ := id hpc.1
   have osv : one sv = true := by obtain ⟨_,a,rfl,_⟩ := hpc.2.1; rfl
   have hb2c := hxc.get hb2 (by simp; omega)
   have hb3c := hxc.get hb3 (by simp; omega)
   refine lp_step ?_
   refine seq_assoc (seq_reg ?_)
   simp only [go_sem,binC,e5]
   refine seq_cond (t := false) (by simp only [go_sem,binC]; rw [decide_eq_false (by omega)]) ?_
   simp only [go_sem,binC]
   refine seq_exit ?_
   simp only [go_sem,binC,thenX_e,out_e,thenX_n]
   obtain ⟨N,n1⟩ : ∃ N,Hc.length = N := ⟨_,rfl⟩
   have hg4 : ∀ (B L : Heap),B[b4]? = some ⟨[.slice la ls.length ls.length,sv],0,0,false,true⟩ -> getCells (hide [rb,H.length] B ++ L) b4 0 2 = some [.slice la ls.length ls.length,sv] /\ getCells (hide [rb,H.length] B ++ L) b4 0 1 = some [.slice la ls.length ls.length] := fun B L hb => ⟨gc_hidO L (by rw [gc_of hb]; rfl) (by simp; omega),gc_hidO L (by rw [gc_of hb]; rfl) (by simp; omega)⟩
   refine seq_regX [rb,H.length] (by simp; omega) ?_
   have q4 := hg4 Hc [] hbc
   rw [List.append_nil] at q4
   refine wpx_A rfl ?_
   simp only [go_sem,binC,e4,q4.1,osv]
   refine wpx_A rfl ?_
   simp only [go_sem,binC,e0]
   refine wpx_N rfl ?_
   obtain ⟨tw,Ha,qa,ka,xa,sa,ca,ts,hts,htl⟩ := gtr Hc q lo hsc (by omega) (by omega) hlo
   simp only [List.append_nil]
   refine op_callN (by simp only [go_sem,binC,e0]; exact ka) ?_
   refine ⟨fun b hb hl => xa.2 b hl (fun hm => hb (by simp only [List.mem_singleton] at hm; simp [hm])),?_⟩
   have hba := xa.get hbc (by simp; omega)
   have hb2a := xa.get hb2c (by simp; omega)
   have hb3a := xa.get hb3c (by simp; omega)
   have hla := xa.1
   obtain ⟨_,ta,rfl,_⟩ := id hts
   obtain ⟨M,nA⟩ : ∃ M,Ha.length = M := ⟨_,rfl⟩
   have a4 := hg4 Ha [] hba
   rw [List.append_nil] at a4
   refine wpx_A rfl ?_
   simp only [go_sem,binC,e4,List.append_nil]
   refine wpx_A rfl ?_
   simp only [go_sem,binC,a4.2,List.append_nil]
   refine wpx_A rfl ?_
   simp only [go_sem,binC,List.append_nil]
   have hls := hpc.2.2.2.2.1
   refine wpx_A rfl ?_
   simp only [go_sem,binC,List.append_nil,hide_length,nA]
   refine ⟨by omega,?_⟩
   simp only [go_sem,binC,List.append_nil,hide_length,nA,Int.toNat_natCast,rep_intsK]
   generalize hbk1 : (⟨ints (List.replicate ls.length 0),1,3,true,true⟩ : Blk) = k1
   have a5 := hg4 Ha [k1] hba
   refine wpx_A rfl ?_
   simp only [go_sem,binC,e4,a5.1,osv]
   have x1a : AgX [rb] H1 Ha := hxc.tr xa
   have hpa : ProgV 3 (vwl H1.length [b4] Ha) (.slice la ls.length ls.length) sv ls l := hpc.mono (vwl_sub xa (Nat.le_refl _) fun b' h1 h2 h3 => ⟨by simp; omega,h3⟩)
   have hvh : ∀ L,Sub (vwl H1.length [b4] Ha) (vw 0 (hide [rb,H.length] Ha ++ L)) := fun L => by
    intro b cs hb
    unfold vwl at hb
    unfold vw
    split at hb
    ·rename_i hc2
     have hbl : b < Ha.length := by
      rcases Nat.lt_or_ge b Ha.length with h | h
      ·exact h
      ·rw [List.getElem?_eq_none h] at hb; cases hb
     rw [if_pos (Nat.zero_le _),List.getElem?_append_left (by rw [hide_length]; exact hbl),hide_get_ne (by simp; omega)]
     exact hb
    ·cases hb
   have hgz := gz (hide [rb,H.length] Ha ++ [k1]) 3 _ _ ls l (hpa.1.mono (hvh _)) (hpa.2.1.mono (hvh _)) hpa.2.2.1
   have hzb : -1 <= sizeV 3 (ls,l) /\ sizeV 3 (ls,l) <= 8 := by
    unfold sizeV
    by_cases h : progB 3 (ls,l) = true
    ·rw [if_pos h]
     have := progB_cnt h hpc.2.2.1
     exact ⟨by omega,by omega⟩
    ·rw [if_neg h]; omega
   generalize sizeV 3 (ls,l) = z at hgz hzb
   refine wpx_A rfl ?_
   refine op_callQ (by simp only [go_sem,binC]; exact hgz) ?_
   simp only [go_sem,binC]
   refine wpx_A rfl ?_
   simp only [go_sem,binC]
   obtain ⟨m,hm⟩ := Int.eq_ofNat_of_zero_le (show (0 : Int) <= if (0 : Int) > z then 0 else z by split <;> omega)
   have hm8 : m <= 8 := by
    have : (if (0 : Int) > z then 0 else z) <= 8 := by split <;> omega
    omega
   rw [show maxV (.int .i64 z) (.int .i64 0) = some (.int .i64 (m : Int)) from by rw [<- hm]; rfl]
   simp only [go_sem,binC]
   refine wpx_A rfl ?_
   simp only [go_sem,binC,hide_length,nA]
   refine ⟨by omega,?_⟩
   simp only [go_sem,binC,hide_length,nA,Int.toNat_natCast,rep_intsK]
   generalize hbk2 : (⟨ints (List.replicate m 0),1,3,true,true⟩ : Blk) = k2
   refine wpx_A rfl ?_
   simp only [go_sem,binC,sli]
   have hHb2 : (Ha ++ [k1,k2])[H.length]? = some ⟨[nilS,nilS],0,0,false,true⟩ := by rw [List.getElem?_append_left (by omega)]; exact hb2a
   have hHb3 : (Ha ++ [k1,k2])[H.length + 1]? = some ⟨[nilS,nilS,nilS],0,0,false,true⟩ := by rw [List.getElem?_append_left (by omega)]; exact hb3a
   have hk1 : (Ha ++ [k1,k2])[M]? = some k1 := by rw [<- nA]; exact get_new0 _ _
   have hk2 : (Ha ++ [k1,k2])[M + 1]? = some k2 := by rw [<- nA]; exact get_new _ _ 1
   have xak : AgX [] Ha (Ha ++ [k1,k2]) := AgX.app _ _ _
   have hlk : (Ha ++ [k1,k2]).length = M + 2 := by rw [List.length_append,nA]; rfl
   refine wpx_N rfl ?_
   generalize Ha ++ [k1,k2] = Hk at *
   have hb2l := (List.getElem?_eq_some_iff.1 hHb2).1
   have hb3l := (List.getElem?_eq_some_iff.1 hHb3).1
   simp only [go_sem,binC,e2,hHb2,osv]
   refine ⟨by omega,fun b hb hl => List.getElem?_set_ne (fun h => hb (by simp [h])),?_⟩
   refine wpx_zero ?_
   have hb3s : ∀ kk : Blk,(Hk.set H.length kk)[H.length + 1]? = some ⟨[nilS,nilS,nilS],0,0,false,true⟩ := fun kk => by rw [List.getElem?_set_ne (by omega)]; exact hHb3
   simp only [go_sem,binC,e3,hb3s,sli,List.append_nil]
   refine ⟨by omega,?_⟩
   refine wpc_genH fun Hf hHf => ?_
   have xkf : AgX [H.length,H.length + 1] Hk Hf := by
    rw [hHf]
    exact (AgX.set Hk H.length _).trans (AgX.set _ (H.length + 1) _) (fun _ h _ => by simp only [List.mem_singleton] at h; simp [h]) (fun _ h _ => by simp only [List.mem_singleton] at h; simp [h])
   have hfP : Hf[H.length]? = some ⟨[.slice la ls.length ls.length,sv],0,0,false,true⟩ := by rw [hHf,List.getElem?_set_ne (by omega),List.getElem?_set_self hb2l]
   have hfQ : Hf[H.length + 1]? = some ⟨[.slice ta ts.length ts.length,.slice (some ⟨M,0,none⟩) ls.length ls.length,.slice (some ⟨M + 1,0,none⟩) m m],0,0,false,true⟩ := by rw [hHf,List.getElem?_set_self (by rw [List.length_set]; exact hb3l)]
   clear hHf
   have xaf : AgX [H.length,H.length + 1] Ha Hf := xak.trans xkf (fun _ h _ => by cases h) (fun _ h _ => h)
   have hf1 := xkf.get hk1 (by simp; omega)
   have hf2 := xkf.get hk2 (by simp; omega)
   rw [<- hbk1] at hf1
   rw [<- hbk2] at hf2
   refine wpc_ret ⟨Or.inr rfl,.tuple #[.agg #[.slice la ls.length ls.length,sv],.agg #[.slice ta ts.length ts.length,.slice (some ⟨M,0,none⟩) ls.length ls.length,.slice (some ⟨M + 1,0,none⟩) m m]],?_,qa,?_,?_,by omega,?_⟩
   ·simp [resV,resL,res1,putE_get,notT,ptr,gc_of hfP,gc_of hfQ,inBlk_some,valOf,e2,e3]
   ·exact ht1.trans (x1a.trans xaf (zs := [rb,H.length,H.length + 1]) (fun b h _ => by simp only [List.mem_singleton] at h; simp [h]) (fun b h _ => by simp only [List.mem_cons,List.not_mem_nil,or_false] at h ⊢; omega)) (fun _ h _ => h) (fun b h hlt => by simp only [List.mem_cons,List.not_mem_nil,or_false] at h ⊢; omega)
   ·exact sa.mono hc xaf (fun b h => by simp only [List.mem_cons,List.not_mem_nil,or_false] at h; omega)
   ·refine ⟨.slice la ls.length ls.length,sv,.slice ta ts.length ts.length,M,M + 1,ls,l,ts,List.replicate ls.length 0,List.replicate m 0,by simp [sli],?_,?_,htl,⟨by omega,by simp; omega,hf1,fun x hx => by rw [(List.mem_replicate.1 hx).2]; unfold RgI; exact ⟨by omega,by omega⟩⟩,⟨by omega,by simp; omega,hf2,fun x hx => by rw [(List.mem_replicate.1 hx).2]; unfold RgI; exact ⟨by omega,by omega⟩⟩,by omega,by simp; omega,by simp; omega⟩
    ·exact hpa.mono (vwl_sub xaf (by omega) fun b' h1 h2 h3 => ⟨by simp; omega,by simp; omega⟩)
    ·exact hts.mono (vwl_sub xaf (by omega) fun b' h1 h2 h3 => ⟨by simp; omega,by simp; omega⟩)
 | succ k ih =>
   intro i e Hc q lv sv ls l hi hsc hq hxc hbc hpc e0 e2 e3 e4 e5
   have hdi : decide ((i : Int) < 8) = true := decide_eq_true (by omega)
   have hw1 : IntKind.i64.wrap ((i : Int) + 1) = ((i + 1 : Nat) : Int) := by rw [wrap_id (by omega) (by omega)]; omega
   have olv : one lv = true := by obtain ⟨_,a,rfl,_⟩ := hpc.1; rfl
   have osv : one sv = true := by obtain ⟨_,a,rfl,_⟩ := hpc.2.1; rfl
   have hlc := hxc.1
   have hb4c := (List.getElem?_eq_some_iff.1 hbc).1
   refine lp_step ?_
   refine seq_assoc (seq_reg ?_)
   simp only [go_sem,binC,e5,hdi]
   refine seq_cond (t := true) (by simp only [go_sem,binC]) ?_
   simp only [go_sem,binC]
   refine seq_skip (seq_block (seq_reg ?_))
   simp only [go_sem,binC,e0]
   obtain ⟨tw,Ha,qa,ka,xa,sa,ca,ts,hts,htl⟩ := gtr Hc q lo hsc (by omega) (by omega) hlo
   refine op_callN (by simp only [go_sem,binC,e0]; exact ka) ?_
   simp only [go_sem,binC]
   have hla := xa.1
   have hba := xa.get hbc (by simp; omega)
   have hpa : ProgV 3 (vw 0 Ha) lv sv ls l := hpc.mono ((vwl_sub xa (lo' := H1.length) (xs' := []) (Nat.le_refl _) fun b' h1 h2 h3 => ⟨by simp; omega,by simp⟩).trans (vwl0 _ _ _))
   obtain ⟨_,ta,rfl,_⟩ := id hts
   refine seq_reg ?_
   simp only [go_sem,binC,e4,gc_of hba,inBlk_some,olv,osv]
   obtain ⟨w,Hb,kb,tv,hv,dv,rfl,xb,hz⟩ := gf Ha 3 _ _ _ ls l ts hpa.1 hpa.2.1 hpa.2.2.1 (hts.mono (vwl0 _ _ _))
   refine op_callK (by simp only [go_sem,binC]; exact kb) ?_
   obtain ⟨q1,q2,q3⟩ := hz.one
   have hlb := xb.1
   simp only [go_sem,binC,q1,q2,q3]
   refine ⟨by omega,?_⟩
   refine wpc_gen fun Hn hHn => ?_
   have xn : AgX [] Hb Hn := hHn ▸ AgX.app [] _ _
   have hb7 : Hn[Hb.length]? = some ⟨[tv,hv,dv],0,0,false,true⟩ := hHn ▸ get_new0 _ _
   have hln : Hn.length = Hb.length + 1 := by rw [hHn,List.length_append]; rfl
   clear hHn
   have xan : AgX [] Ha Hn := xb.tr xn
   have xcn : AgX [rb] Hc Hn := xa.trans xan (fun _ h _ => h) (fun _ h _ => by cases h)
   have sn : St H0 rb bv qa Hn := sa.mono hc xan (fun _ h => by cases h)
   have hbn := xan.get hba (by simp)
   have hpn : ProgV 3 (vw 0 Hn) lv sv ls l := hpa.mono (agx_sub xan)
   have htn : SlR Co.int (vw 0 Hn) (.slice ta ts.length ts.length) ts := (hts.mono (vwl0 _ _ _)).mono (agx_sub xan)
   refine wpc_genK fun KK hKK => ?_
   have hD : ∀ e' : Env,e' 0 = ptr rb 0 -> e' 2 = ptr H.length 0 -> e' 3 = ptr (H.length + 1) 0 -> e' 4 = ptr b4 0 -> e' 5 = .int .i64 i -> wpc F lo drPlanD e' Hn KK := by
    intro e' f0 f2 f3 f4 f5
    rw [hKK]
    unfold drPlanD
    refine wpc_reg ?_
    simp only [go_sem,binC,f0]
    obtain ⟨vz,Hz,qz,kz,xz,sz,cz,lv',sv',ls',l',rfl,hpz⟩ := gan Hn qa lo sn (by omega) (by omega) hlo
    refine op_callN (by simp only [go_sem,binC,f0]; exact kz) ?_
    have olv' : one lv' = true := by obtain ⟨_,a,rfl,_⟩ := hpz.1; rfl
    have osv' : one sv' = true := by obtain ⟨_,a,rfl,_⟩ := hpz.2.1; rfl
    have hlz := xz.1
    have hbz := xz.get hbn (by simp; omega)
    have hbzl := (List.getElem?_eq_some_iff.1 hbz).1
    simp only [go_sem,binC,f4,hbz,olv',osv']
    refine ⟨by omega,?_⟩
    simp only [go_sem,binC,out_n,thenX_n]
    have hxs : AgX [b4] Hz (Hz.set b4 ⟨[lv',sv'],0,0,false,true⟩) := AgX.set _ _ _
    have hpz' : ProgV 3 (vwl H1.length [b4] (Hz.set b4 ⟨[lv',sv'],0,0,false,true⟩)) lv' sv' ls' l' := hpz.mono (vwl_sub hxs (by omega) fun b' h1 h2 h3 => ⟨by simp; omega,by simp; omega⟩)
    refine wpc_reg ?_
    simp only [go_sem,binC,f5,hw1]
    simp only [go_sem,binC,thenX_n]
    exact ih (i + 1) _ (Hz.set b4 ⟨[lv',sv'],0,0,false,true⟩) qz lv' sv' ls' l' (by omega) (sz.setN hc (by omega) _) (by omega) (((hxc.tr xcn).tr xz).setN (by omega) _) (List.getElem?_set_self hbzl) hpz' (by simp only [go_sem,binC,f0]) (by simp only [go_sem,binC,f2]) (by simp only [go_sem,binC,f3]) (by simp only [go_sem,binC,f4]) (by simp only [go_sem,binC])
   refine seq_assoc (seq_reg ?_)
   cases hfv : findV 3 (ls,l) ts with
   | none =>
     simp only [go_sem,binC,Option.isSome_none]
     refine seq_cond (t := false) rfl ?_
     simp only [go_sem,binC]
     refine seq_skip ?_
     exact hD _ (by simp only [go_sem,binC,e0]) (by simp only [go_sem,binC,e2]) (by simp only [go_sem,binC,e3]) (by simp only [go_sem,binC,e4]) (by simp only [go_sem,binC,e5])
   | some homes =>
   rw [hfv] at hz
   obtain ⟨b1,bh,bd,rfl,rfl,rfl,o1,o2,o3,d12,d13,d23⟩ := hz
   simp only [go_sem,binC,Option.isSome_some,e4,gc_of hbn,inBlk_some,olv,osv]
   refine op_callQ (by simp only [go_sem,binC]; exact gz Hn 3 _ _ ls l hpn.1 hpn.2.1 hpn.2.2.1) ?_
   simp only [go_sem,binC]
   by_cases hz1 : 1 < sizeV 3 (ls,l)
   case neg =>
    refine seq_cond (t := false) (by simp only [go_sem,binC]; rw [decide_eq_false hz1]) ?_
    simp only [go_sem,binC]
    refine seq_skip ?_
    exact hD _ (by simp only [go_sem,binC,e0]) (by simp only [go_sem,binC,e2]) (by simp only [go_sem,binC,e3]) (by simp only [go_sem,binC,e4]) (by simp only [go_sem,binC,e5])
   refine seq_cond (t := true) (by simp only [go_sem,binC]; rw [decide_eq_true hz1]) ?_
   simp only [go_sem,binC]
   refine seq_assoc (seq_assoc (seq_reg ?_))
   simp only [go_sem,binC]
   have hP : progB 3 (ls,l) = true := by
    unfold sizeV at hz1
    by_cases h : progB 3 (ls,l) = true
    ·exact h
    ·rw [if_neg h] at hz1; omega
   have hdl : (doesL 3 (ls,l) ts homes).length = (allL 3 l).length := doesL_len
   have hcnt : (allL 3 l).length <= 8 := progB_cnt hP hpn.2.2.1
   have on2 := o2.keep (Nat.le_refl _) xn (by simp)
   have on3 := o3.keep (Nat.le_refl _) xn (by simp)
   have on1 := o1.keep (Nat.le_refl _) xn (by simp)
   have g1 := on1.ge
   have g2 := on2.ge
   have g3 := on3.ge
   have l1' := o1.lt
   have l2' := o2.lt
   have l3' := o3.lt
   generalize doesL 3 (ls,l) ts homes = does0 at *
   refine seq_block (wpc_loop ?_)
   suffices hh : ∀ (k j : Nat) (e : Env) (Hd : Heap) (qd : Int) (cur : List Int),j + k = does0.length -> St H0 rb bv qd Hd -> (qa <= qd /\ qd <= qa + (j : Int)) -> AgX [rb,bd] Hn Hd -> IntsO 3 Ha.length Hd bd true cur -> cur.length = does0.length -> e 0 = ptr rb 0 -> e 2 = ptr H.length 0 -> e 3 = ptr (H.length + 1) 0 -> e 4 = ptr b4 0 -> e 6 = .slice ta ts.length ts.length -> e 7 = ptr Hb.length 0 -> e 9 = .int .i64 j -> Go.Proofs.YtbjeldblaclpnaaGreatI.W F lo _ e Hd _ from
    hh does0.length 0 _ Hn qa does0 (by omega) sn (by omega) (AgX.refl _ _) on3 rfl (by simp only [go_sem,binC,e0]) (by simp only [go_sem,binC,e2]) (by simp only [go_sem,binC,e3]) (by simp only [go_sem,binC,e4]) (by simp only [go_sem,binC]) (by simp only [go_sem,binC]) (by (simp only [go_sem,binC]) <;> rfl)
   have hrbl : rb < H1.length := by omega
   have hmem : homes.length = ls.length := by
    unfold findV at hfv
    by_cases hc2 : (typeP 3 (ls,l) && trK ts) = true
    ·rw [if_pos hc2] at hfv
     exact (hmL_el _ _ (List.mem_of_find?_eq_some hfv)).1
    ·rw [if_neg hc2] at hfv; cases hfv
   have hls100 := hpn.2.2.2.2.1
   clear hD
   intro k
   induction k with
   | zero =>
     intro j e Hd qd cur hj sd hqd xd od hcl e0 e2 e3 e4 e6 e7 e9
     have hb7d := xd.get hb7 (by simp; omega)
     have hbnd := xd.get hbn (by simp; omega)
     have x1n : AgX [rb] H1 Hn := hxc.tr xcn
     have x1d : AgX [rb,bd] H1 Hd := x1n.trans xd (fun _ h _ => by simp only [List.mem_singleton] at h; simp [h]) (fun _ h _ => h)
     have hb2d := x1d.get hb2 (by simp; omega)
     have hb3d := x1d.get hb3 (by simp; omega)
     have hb2l := (List.getElem?_eq_some_iff.1 hb2d).1
     have hb3l := (List.getElem?_eq_some_iff.1 hb3d).1
     have hb3s : ∀ kk : Blk,(Hd.set H.length kk)[H.length + 1]? = some ⟨[nilS,nilS,nilS],0,0,false,true⟩ := fun kk => by rw [List.getElem?_set_ne (by omega)]; exact hb3d
     refine lp_step ?_
     refine seq_assoc (seq_reg ?_)
     simp only [go_sem,binC,e7,e9,gc_of hb7d,inBlk_some]
     refine seq_cond (t := false) (by simp only [go_sem,binC]; rw [decide_eq_false (by omega)]) ?_
     simp only [go_sem,binC]
     refine seq_exit ?_
     simp only [go_sem,binC,thenX_e,out_e,thenX_n]
     have hb4l := (List.getElem?_eq_some_iff.1 hbn).1
     have g4 : getCells Hd b4 0 2 = some [lv,sv] := by rw [gc_of hbnd]; rfl
     have g7 : getCells Hd Hb.length 0 3 = some [sli b1 0 ts.length,sli bh 0 homes.length,sli bd 0 does0.length] := by rw [gc_of hb7d]; rfl
     have g4' : ∀ kk : Blk,getCells (Hd.set H.length kk) b4 0 2 = some [lv,sv] := fun kk => by rw [gc_of (show (Hd.set H.length kk)[b4]? = some ⟨[lv,sv],0,0,false,true⟩ by rw [List.getElem?_set_ne (by omega)]; exact hbnd)]; rfl
     have g7' : ∀ kk : Blk,getCells (Hd.set H.length kk) Hb.length 0 3 = some [sli b1 0 ts.length,sli bh 0 homes.length,sli bd 0 does0.length] := fun kk => by rw [gc_of (show (Hd.set H.length kk)[Hb.length]? = some ⟨[sli b1 0 ts.length,sli bh 0 homes.length,sli bd 0 does0.length],0,0,false,true⟩ by rw [List.getElem?_set_ne (by omega)]; exact hb7d)]; rfl
     refine seq_assoc ?_
     refine wpc_genE fun ex he => ?_
     have y2 : ex 2 = ptr H.length 0 := by rw [he]; simp only [go_sem,binC,e2]
     have y3 : ex 3 = ptr (H.length + 1) 0 := by rw [he]; simp only [go_sem,binC,e3]
     have y4 : ex 4 = ptr b4 0 := by rw [he]; simp only [go_sem,binC,e4]
     have y7 : ex 7 = ptr Hb.length 0 := by rw [he]; simp only [go_sem,binC,e7]
     clear he
     refine seq_regV (q := 2) (k := 0) (ea := putE (putE ex (some 52) (.agg #[lv,sv])) (some 53) (.agg #[sli b1 0 ts.length,sli bh 0 homes.length,sli bd 0 does0.length])) rfl rfl rfl ?_
     simp only [go_sem,binC,y2,hb2d,olv,osv]
     refine ⟨by omega,?_⟩
     refine ⟨frees_cons _ (iop_load (by simp only [go_sem,binC,y4]) g4) (iop_load (by simp only [go_sem,binC,y4]) (g4' _)) (frees_cons _ (iop_load (by simp only [go_sem,binC,y7]) g7) (iop_load (by simp only [go_sem,binC,y7]) (g7' _)) rfl),_,rfl,?_⟩
     simp only [go_sem,binC,y3,hb3s,sli]
     refine ⟨by omega,?_⟩
     refine wpc_genH fun Hf hHf => ?_
     have xdf : AgX [H.length,H.length + 1] Hd Hf := by
      rw [hHf]
      exact (AgX.set Hd H.length _).trans (AgX.set _ (H.length + 1) _) (fun _ h _ => by simp only [List.mem_singleton] at h; simp [h]) (fun _ h _ => by simp only [List.mem_singleton] at h; simp [h])
     have hfP : Hf[H.length]? = some ⟨[lv,sv],0,0,false,true⟩ := by rw [hHf,List.getElem?_set_ne (by omega),List.getElem?_set_self hb2l]
     have hfQ : Hf[H.length + 1]? = some ⟨[sli b1 0 ts.length,sli bh 0 homes.length,sli bd 0 does0.length],0,0,false,true⟩ := by rw [hHf,List.getElem?_set_self (by rw [List.length_set]; exact hb3l)]; rfl
     clear hHf
     have x1f : AgX [rb,bd,H.length,H.length + 1] H1 Hf := x1d.trans xdf (fun _ h _ => by simp only [List.mem_cons,List.not_mem_nil,or_false] at h ⊢; omega) (fun _ h _ => by simp only [List.mem_cons,List.not_mem_nil,or_false] at h ⊢; omega)
     have xcf : AgX [rb,bd,H.length,H.length + 1] Hc Hf := (xcn.trans xd (zs := [rb,bd]) (fun _ h _ => by simp only [List.mem_singleton] at h; simp [h]) (fun _ h _ => h)).trans xdf (fun _ h _ => by simp only [List.mem_cons,List.not_mem_nil,or_false] at h ⊢; omega) (fun _ h _ => by simp only [List.mem_cons,List.not_mem_nil,or_false] at h ⊢; omega)
     have xnf : AgX [rb,bd,H.length,H.length + 1] Hn Hf := xd.trans xdf (fun _ h _ => by simp only [List.mem_cons,List.not_mem_nil,or_false] at h ⊢; omega) (fun _ h _ => by simp only [List.mem_cons,List.not_mem_nil,or_false] at h ⊢; omega)
     have hpf : ProgV 3 (vwl H.length [bh,bd] Hf) lv sv ls l := hpc.mono (vwl_sub xcf (by omega) fun b' h1 h2 h3 => ⟨by simp; omega,by simp; omega⟩)
     have of1 := on1.keep (Nat.le_refl _) xnf (by simp; omega)
     have of2 := on2.keep (lo' := H.length) (by omega) xnf (by simp; omega)
     have of3 := od.keep (lo' := H.length) (by omega) xdf (by simp; omega)
     refine seq_ret ?_
     rw [hKK]
     simp only [go_sem,binC,out_r,thenX_r]
     refine ⟨Or.inr rfl,.tuple #[.agg #[lv,sv],.agg #[sli b1 0 ts.length,sli bh 0 homes.length,sli bd 0 does0.length]],?_,qd,?_,?_,by omega,?_⟩
     ·simp [resV,resL,res1,putE_get,notT,ptr,gc_of hfP,gc_of hfQ,inBlk_some,valOf,y2,y3,sli]
     ·exact ht1.trans x1f (fun _ h _ => h) (fun b h hlt => by simp only [List.mem_cons,List.not_mem_nil,or_false] at h ⊢; omega)
     ·exact sd.mono hc xdf (fun b h => by simp only [List.mem_cons,List.not_mem_nil,or_false] at h; omega)
     ·refine ⟨lv,sv,sli b1 0 ts.length,bh,bd,ls,l,ts,homes,cur,by rw [hcl],hpf,?_,htl,of2,of3,d23,by omega,by omega⟩
      exact ints_sl (o := 0) (lo := H.length) (xs := [bh,bd]) (l := ts) of1.blk (by omega) (by simp; omega) of1.rg (Nat.zero_le _) (by omega)
   | succ k ihj =>
     intro j e Hd qd cur hj sd hqd xd od hcl e0 e2 e3 e4 e6 e7 e9
     have hjl : j < does0.length := by omega
     have hw2 : IntKind.i64.wrap ((j : Int) + 1) = ((j + 1 : Nat) : Int) := by rw [wrap_id (by omega) (by omega)]; omega
     have hb7d := xd.get hb7 (by simp; omega)
     refine lp_step ?_
     refine seq_assoc (seq_reg ?_)
     simp only [go_sem,binC,e7,e9,gc_of hb7d,inBlk_some]
     refine seq_cond (t := true) (by simp only [go_sem,binC]; rw [decide_eq_true (by omega)]) ?_
     simp only [go_sem,binC]
     refine seq_skip (seq_block (seq_reg ?_))
     simp only [go_sem,binC,e0]
     refine op_draw (n := 3) hpk hc sd (by omega) (by omega) hlo (by simp only [go_sem,binC,e0]) (by simp only [go_sem,binC]) fun He hle xe se => ?_
     simp only [go_sem,binC]
     have hpk3 := pickV_bd code qd (n := 3) (by omega)
     generalize pickV code qd 3 = hv3 at *
     have xne : AgX [rb,bd] Hn He := xd.trans xe (fun _ h _ => h) (fun _ h _ => by simp only [List.mem_singleton] at h; simp [h])
     have xce : AgX [rb,bd] Hc He := xcn.trans xne (fun _ h _ => by simp only [List.mem_singleton] at h; simp [h]) (fun _ h _ => h)
     have xae : AgX [rb,bd] Ha He := xan.trans xne (fun _ h _ => by cases h) (fun _ h _ => h)
     have hpe : ProgV 3 (vw 0 He) lv sv ls l := hpc.mono ((vwl_sub xce (lo' := H1.length) (xs' := []) (Nat.le_refl _) fun b' h1 h2 h3 => ⟨by simp; omega,by simp⟩).trans (vwl0 _ _ _))
     have hte : SlR Co.int (vw 0 He) (.slice ta ts.length ts.length) ts := hts.mono ((vwl_sub xae (lo' := Hc.length) (xs' := []) (Nat.le_refl _) fun b' h1 h2 h3 => ⟨by simp; omega,by simp⟩).trans (vwl0 _ _ _))
     have oe2 := on2.keep (Nat.le_refl _) xne (by simp; omega)
     have oe3 := od.keep (Nat.le_refl _) xe (by simp; omega)
     have hb7e := xne.get hb7 (by simp; omega)
     have hbne := xne.get hbn (by simp; omega)
     refine seq_reg ?_
     simp only [go_sem,binC,e4,e6,e7,e9,gc_of hb7e,gc_of hbne,inBlk_some,olv,osv]
     refine op_callQ (by simp only [go_sem,binC,e6,e9]; exact gps He 3 _ _ _ _ ls l ts homes j hv3 hpe.1 hpe.2.1 hpe.2.2.1 hte oe2.sl) ?_
     simp only [go_sem,binC]
     cases hst : stepV 3 (ls,l) ts homes j hv3 with
     | false =>
       refine wpc_cond (t := false) rfl ?_
       simp only [go_sem,binC]
       refine wpc_skip ?_
       simp only [go_sem,binC,out_n,thenX_n]
       refine wpc_reg ?_
       simp only [go_sem,binC,e9,hw2]
       simp only [go_sem,binC,thenX_n]
       exact ihj (j + 1) _ He (qd + 1) cur (by omega) se (by omega) xne oe3 hcl (by simp only [go_sem,binC,e0]) (by simp only [go_sem,binC,e2]) (by simp only [go_sem,binC,e3]) (by simp only [go_sem,binC,e4]) (by simp only [go_sem,binC,e6]) (by simp only [go_sem,binC,e7]) (by simp only [go_sem,binC])
     | true =>
       refine wpc_cond (t := true) rfl ?_
       simp only [go_sem,binC]
       have hbd := oe3.blk
       have hbdl := oe3.lt
       refine wpc_reg ?_
       simp only [go_sem,binC,e7,e9,gc_of hb7e,inBlk_some]
       refine ⟨⟨by omega,by omega⟩,?_⟩
       simp only [go_sem,binC,Int.toNat_natCast,Nat.mul_one,hbd,ints_len,ints_set]
       refine ⟨⟨by omega,by omega⟩,?_⟩
       simp only [go_sem,binC,out_n,thenX_n]
       have hxs : AgX [bd] He (He.set bd ⟨ints (cur.set j hv3),1,3,true,true⟩) := AgX.set _ _ _
       have os3 : IntsO 3 Ha.length (He.set bd ⟨ints (cur.set j hv3),1,3,true,true⟩) bd true (cur.set j hv3) := ⟨od.ge,by rw [List.length_set]; exact od.len,List.getElem?_set_self hbdl,fun x hx => by
        rcases List.mem_or_eq_of_mem_set hx with h | rfl
        ·exact od.rg x h
        ·exact ⟨by omega,by omega⟩⟩
       refine wpc_reg ?_
       simp only [go_sem,binC,e9,hw2]
       simp only [go_sem,binC,thenX_n]
       exact ihj (j + 1) _ _ (qd + 1) (cur.set j hv3) (by omega) (se.setN hc (by omega) _) (by omega) (xne.trans hxs (fun _ h _ => h) (fun _ h _ => by simp only [List.mem_singleton] at h; simp [h])) os3 (by rw [List.length_set]; exact hcl) (by simp only [go_sem,binC,e0]) (by simp only [go_sem,binC,e2]) (by simp only [go_sem,binC,e3]) (by simp only [go_sem,binC,e4]) (by simp only [go_sem,binC,e6]) (by simp only [go_sem,binC,e7]) (by simp only [go_sem,binC])
end Go.Proofs.YtbjeldblaclpnaaGreatI
end
