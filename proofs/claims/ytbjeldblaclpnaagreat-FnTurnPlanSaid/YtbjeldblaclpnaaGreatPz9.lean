/- Texts of this proof, merged: H2, H3, H4, H5, H6, H7, H8, H9, H13, H15, H16, J0. -/
import Derived.Test.YtbjeldblaclpnaaGreatPz8
section
set_option linter.unusedVariables false
set_option linter.unusedSimpArgs false
namespace Go.Proofs.YtbjeldblaclpnaaGreatI
open Go Go.RowKit
def c_cloneSteps : IFn := ⟨1,26,[.t 2],
 .seq (.reg none [⟨some 2,none,.mov (.c (.slice none 0 0))⟩])
 (.seq (.reg none [⟨some 3,none,.mov (.c (.slice none 0 0))⟩])
 (.seq (.seq (.reg none [⟨some 6,none,.mov (.t 0)⟩,⟨some 7,none,.len (.t 6)⟩,⟨some 8,none,.mov (.c (.int .i64 0))⟩])
  (.block 0 (.loop (.seq (.reg none [⟨some 9,none,.bin .lss (.t 8) (.t 7)⟩])
   (.seq (.cond (.t 9) (.skip) (.exit 0))
   (.seq (.block 1 (.seq (.reg none [⟨some 10,none,.iad 8 (.t 6) (.t 8)⟩,⟨some 11,none,.load true 8 (.t 10)⟩,
      ⟨some 5,none,.new [(.int .i64 0),(.int .i64 0),(.int .i64 0),(.int .i64 0),(.int .i64 0),(.int .i64 0),(.slice none 0 0),(.slice none 0 0)]⟩,
      ⟨none,none,.store 8 (.t 5) (.t 11)⟩])
    (.seq (.reg (some 7) [⟨some 12,none,.fad 6 (.t 5)⟩,⟨some 13,none,.load false 1 (.t 12)⟩,⟨some 14,none,.call .k (.f 71) [.t 13]⟩,
      ⟨some 15,none,.fad 7 (.t 5)⟩,⟨some 16,none,.load false 1 (.t 15)⟩,⟨some 17,none,.call .k (.f 71) [.t 16]⟩,⟨some 18,none,.fad 6 (.t 5)⟩,
      ⟨none,none,.store 1 (.t 18) (.t 14)⟩,⟨some 19,none,.fad 7 (.t 5)⟩,⟨none,none,.store 1 (.t 19) (.t 17)⟩])
    (.reg none [⟨some 20,none,.mov (.t 3)⟩,⟨some 21,none,.load true 8 (.t 5)⟩,
     ⟨some 22,none,.lit 8 54 1 [(.int .i64 0),(.int .i64 0),(.int .i64 0),(.int .i64 0),(.int .i64 0),(.int .i64 0),(.slice none 0 0),(.slice none 0 0)] [(0,8,(.t 21))]⟩,
     ⟨some 23,none,.app 8 54 96 true (.t 20) (.t 22)⟩,⟨some 3,none,.mov (.t 23)⟩]))))
   (.reg none [⟨some 24,none,.bin .add (.t 8) (.c (.int .i64 1))⟩,⟨some 8,none,.mov (.t 24)⟩])))))))
 (.seq (.reg none [⟨some 25,none,.mov (.t 3)⟩,⟨some 2,none,.mov (.t 25)⟩])
 (.ret))))⟩
def c_change : IFn := ⟨2,30,[],
 .seq (.reg none [⟨some 5,none,.mov (.t 0)⟩,⟨some 6,none,.len (.t 5)⟩,⟨some 7,none,.mov (.c (.int .i64 0))⟩])
 (.block 0 (.loop (.seq (.reg none [⟨some 8,none,.bin .lss (.t 7) (.t 6)⟩])
  (.seq (.cond (.t 8) (.skip) (.exit 0))
  (.seq (.block 1 (.seq (.reg none [⟨some 9,none,.mov (.t 7)⟩,⟨some 4,none,.mov (.t 9)⟩])
   (.seq (.reg none [⟨some 10,none,.mov (.t 1)⟩,⟨some 11,none,.mov (.t 0)⟩,⟨some 12,none,.mov (.t 4)⟩,⟨some 13,none,.iad 8 (.t 11) (.t 12)⟩,
     ⟨some 14,none,.call .n (.t 10) [.t 13]⟩])
   (.seq (.reg none [⟨some 15,none,.mov (.t 0)⟩,⟨some 16,none,.mov (.t 4)⟩,⟨some 17,none,.iad 8 (.t 15) (.t 16)⟩,⟨some 18,none,.fad 6 (.t 17)⟩,
     ⟨some 19,none,.load false 1 (.t 18)⟩,⟨some 20,none,.mov (.t 1)⟩,⟨some 21,none,.call .n (.f 40) [.t 19,.t 20]⟩])
   (.reg none [⟨some 22,none,.mov (.t 0)⟩,⟨some 23,none,.mov (.t 4)⟩,⟨some 24,none,.iad 8 (.t 22) (.t 23)⟩,⟨some 25,none,.fad 7 (.t 24)⟩,
    ⟨some 26,none,.load false 1 (.t 25)⟩,⟨some 27,none,.mov (.t 1)⟩,⟨some 28,none,.call .n (.f 40) [.t 26,.t 27]⟩])))))
  (.reg none [⟨some 29,none,.bin .add (.t 7) (.c (.int .i64 1))⟩,⟨some 7,none,.mov (.t 29)⟩]))))))⟩
theorem op_app_kill {F : Nat -> Option IFn} {lo0 es et bytes : Nat} {x y : Opd} {e : Env} {H : Heap} {cs ys : List Value} {b n : Nat} {K : Value -> Heap -> Prop} (hk : H[b]? = some ⟨cs,es,et,true,true⟩) (hn : cs.length = n * es) (hx : x.ev e = sli b 0 n) (hy : y.ev e = sli H.length 0 1) (hlo : lo0 <= b) (hyl : ys.length = es) (hl : n < 1048576) (hb : bytes <= 1048576)
  (k : ∀ H',AgX [b] H H' -> H'[H.length + 1]? = some ⟨cs ++ ys,es,et,true,true⟩ -> K (sli (H.length + 1) 0 (n + 1)) H') : wpOp F lo0 (.app es et bytes true x y) e (H ++ [⟨ys,es,et,true,true⟩]) K := by
 have hbl := (List.getElem?_eq_some_iff.1 hk).1
 have hbytes : (n + 1) * bytes <= 1048576 * 1048576 := Nat.mul_le_mul (by omega) hb
 refine op_app _ _ _ _ _ (b := ⟨b,0,none⟩) (n := n) (c := n) (a := ⟨H.length,0,none⟩) (m := 1) (c' := 1) (ys := ys) (kb := ⟨cs,es,et,true,true⟩) hx hy (by omega) ?_ ?_ ⟨hlo,rfl,rfl,rfl,rfl,hn,by omega,by omega⟩ ?_
 ·unfold getCells
  rw [get_new0]
  simp only [List.getElem?_cons_zero,Nat.one_mul,Nat.zero_add]
  rw [if_pos (by omega),List.drop_zero,List.take_of_length_le (by omega)]
 ·show (H ++ [_])[b]? = _
  rw [List.getElem?_append_left hbl]; exact hk
 ·have hset : (H ++ ([⟨ys,es,et,true,true⟩] : Heap)).set b ⟨[],es,et,false,true && n == 0⟩ = H.set b ⟨[],es,et,false,true && n == 0⟩ ++ [⟨ys,es,et,true,true⟩] := List.set_append_left _ _ hbl
  simp only [if_true,Bool.or_true,Bool.and_true,List.length_append,List.length_cons,List.length_nil,Nat.zero_add]
  rw [hset,List.append_assoc]
  have hag : AgX [b] H (H.set b ⟨[],es,et,false,true && n == 0⟩ ++ ([⟨ys,es,et,true,true⟩] ++ [⟨cs ++ ys,es,et,true,true⟩])) := (AgX.set H b _).trans (AgX.app [] _ _) (fun b h _ => h) (fun b h _ => by cases h)
  refine k _ hag ?_
  have : H.length + 1 = (H.set b ⟨[],es,et,false,true && n == 0⟩).length + 1 := by rw [List.length_set]
  rw [this,get_new]
  rfl
def CloneOk (F : Nat -> Option IFn) (f n : Nat) : Prop := ∀ (H : Heap) (v : Value) (l : List (TStep n)),SlR (Co.step n) (vw 0 H) v l -> (Co.sl (Co.step n)).sm l -> ∃ v' B H',KC F f [v] H v' H' /\ AgX [] H H' /\ OwnT H.length H' n v' l B
theorem cloneSteps_ok {F : Nat -> Option IFn} {f n : Nat} (hf : F f = some c_cloneSteps) (ih : ∀ m,n = m + 1 -> CloneOk F 71 m) : CloneOk F f n := by
 intro H v l hv hsm
 suffices h : ∃ v' H',KC F f [v] H v' H' /\ (∃ B,AgX [] H H' /\ OwnT H.length H' n v' l B) by
  obtain ⟨v',H',h1,B,h2⟩ := h
  exact ⟨v',B,H',h1,h2⟩
 have hv0 := hv
 obtain ⟨h0,av,rfl,_⟩ := hv
 have hlm : l.length <= 1048576 := hsm.1
 refine KC.mk hf rfl ?_
 refine seq_reg ?_
 simp only [go_sem,binC]
 refine seq_reg ?_
 simp only [go_sem,binC]
 refine seq_assoc (seq_reg ?_)
 simp only [go_sem,binC]
 refine seq_block (wpc_loop ?_)
 suffices h : ∀ (k i : Nat) (e : Env) (Hc : Heap) (v3 : Value) (B : List Nat),i + k = l.length -> AgX [] H Hc -> OwnT H.length Hc n v3 (l.take i) B -> e 3 = v3 -> e 6 = .slice av l.length l.length -> e 7 = .int .i64 l.length -> e 8 = .int .i64 i -> W F H.length _ e Hc _ from
  h l.length 0 _ H nilS [] (by omega) (AgX.refl _ _) OwnT.nil (by simp only [go_sem,binC]) (by simp only [go_sem,binC]) (by simp only [go_sem,binC]) (by (simp only [go_sem,binC]) <;> rfl)
 intro k
 induction k with
 | zero =>
   intro i e Hc v3 B hi hxc ho e3 e6 e7 e8
   refine lp_step ?_
   refine seq_reg ?_
   simp only [go_sem,binC,e7,e8]
   refine seq_cond (t := false) (by simp only [go_sem,binC]; rw [decide_eq_false (by omega)]) ?_
   simp only [go_sem,binC]
   refine seq_exit ?_
   simp only [go_sem,binC,thenX_e,out_e,thenX_n]
   refine seq_reg ?_
   simp only [go_sem,binC,e3]
   rw [List.take_of_length_le (by omega)] at ho
   exact wpc_ret ⟨Or.inr rfl,_,(by (simp only [go_sem,binC]) <;> rfl),B,hxc,ho⟩
 | succ k ihk =>
   intro i e Hc v3 B hi hxc ho e3 e6 e7 e8
   have hil : i < l.length := by omega
   cases n with
   | zero => exact (l[i]).elim
   | succ n =>
   obtain ⟨vb,vo,kd,vr,va,vbb,vc,hh,tv,ev,tl,el,hav,hs,rg,otv,oev,hgc,htl,hel⟩ := step_at hv0 hil
   simp only [Value.slice.injEq,and_true] at hav
   subst hav
   obtain ⟨_,tva,rfl,_⟩ := id htl
   obtain ⟨_,eva,rfl,_⟩ := id hel
   have hg8 := hgc Hc (agx_sub hxc)
   have hsi : (Co.step (n + 1)).sm l[i] := hsm.2 _ (List.getElem_mem hil)
   rw [hs] at hsi
   obtain ⟨_,_,_,_,smt,sme⟩ := hsi
   have hw1 : IntKind.i64.wrap ((i : Int) + 1) = ((i + 1 : Nat) : Int) := by rw [wrap_id (by omega) (by omega)]; omega
   have hHl := hxc.1
   refine lp_step ?_
   refine seq_reg ?_
   simp only [go_sem,binC,e7,e8]
   refine seq_cond (t := true) (by simp only [go_sem,binC]; rw [decide_eq_true (by omega)]) ?_
   simp only [go_sem,binC]
   refine seq_skip (seq_block (seq_reg ?_))
   simp only [go_sem,binC,e6,e8]
   refine ⟨⟨by omega,by omega⟩,?_⟩
   simp only [go_sem,binC,Int.toNat_natCast,hg8,otv,oev]
   refine ⟨by omega,?_⟩
   refine wpc_gen fun H1 hH1 => ?_
   have hx1 : AgX [] Hc H1 := hH1 ▸ AgX.app [] _ _
   have hbx : H1[Hc.length]? = some ⟨[.int .i64 kd,.int .i64 vr,.int .i64 va,.int .i64 vbb,.int .i64 vc,.int .i64 hh,(.slice tva tl.length tl.length),(.slice eva el.length el.length)],0,0,false,true⟩ := hH1 ▸ get_new0 _ _
   have hl1 : H1.length = Hc.length + 1 := by rw [hH1,List.length_append]; rfl
   clear hH1
   refine seq_regD ?_
   simp only [go_sem,binC,gc_of hbx,inBlk_some]
   obtain ⟨tv',B1,H2,k2,hx2,o2⟩ := ih n rfl H1 _ tl (htl.mono (agx_sub (hxc.tr hx1))) smt
   obtain ⟨_,ta',rfl⟩ := id o2.len
   refine op_callK (by simp only [go_sem,binC]; exact k2) ?_
   have hbx2 := hx2.get hbx (by simp)
   simp only [go_sem,binC,gc_of hbx2,inBlk_some]
   obtain ⟨ev',B2,H3,k3,hx3,o3⟩ := ih n rfl H2 _ el (hel.mono (agx_sub ((hxc.tr hx1).tr hx2))) sme
   obtain ⟨_,ea',rfl⟩ := id o3.len
   refine op_callK (by simp only [go_sem,binC]; exact k3) ?_
   have hbx3 := hx3.get hbx2 (by simp)
   have hl2 := hx2.1
   have hl3 := hx3.1
   have hb3l := (List.getElem?_eq_some_iff.1 hbx3).1
   have ot' := o2.one
   have oe' := o3.one
   simp only [go_sem,binC,hbx3,ot',oe']
   refine ⟨by omega,?_⟩
   simp only [go_sem,binC,List.getElem?_set_self hb3l,ot',oe',List.set_set]
   refine ⟨by omega,?_⟩
   refine wpc_genH fun H4 hH4 => ?_
   have hx4 : AgX [Hc.length] H3 H4 := by rw [hH4]; exact AgX.set _ _ _
   have hb4 : H4[Hc.length]? = some ⟨[.int .i64 kd,.int .i64 vr,.int .i64 va,.int .i64 vbb,.int .i64 vc,.int .i64 hh,(.slice ta' tl.length tl.length),(.slice ea' el.length el.length)],0,0,false,true⟩ := by rw [hH4]; exact List.getElem?_set_self hb3l
   have hl4 : H4.length = H3.length := by rw [hH4,List.length_set]
   clear hH4
   refine wpc_reg ?_
   simp only [go_sem,binC,e3,gc_of hb4,inBlk_some]
   have hag4 : AgX [] H H4 := (((hxc.tr hx1).tr hx2).tr hx3).trans hx4 (fun _ h _ => h) (fun b h1 h2 => by simp only [List.mem_singleton] at h1; omega)
   have hg2 := o2.ge
   have hg3 := o3.ge
   have hgB := ho.ge
   have hkt : ∀ b ∈ B,H4[b]? = Hc[b]? := fun b hb => by
    have h2 := (hgB b hb).2.1
    rw [hx4.2 b (by omega) (by simp; omega),hx3.2 b (by omega) (by simp),hx2.2 b (by omega) (by simp),hx1.2 b h2 (by simp)]
   have ho4 := ho.keep (Nat.le_refl _) hkt
   have o24 : OwnT H.length H4 n (.slice ta' tl.length tl.length) tl B1 := o2.keep (by omega) fun b hb => by
    have := hg2 b hb
    rw [hx4.2 b (by omega) (by simp; omega),hx3.2 b (by omega) (by simp)]
   have o34 : OwnT H.length H4 n (.slice ea' el.length el.length) el B2 := o3.keep (by omega) fun b hb => by
    have := hg3 b hb
    rw [hx4.2 b (by omega) (by simp; omega)]
   have hnd : (B1 ++ B2).Nodup := List.nodup_append.2 ⟨o2.nodup,o3.nodup,fun x hx y hy he => by have := hg2 x hx; have := hg3 y hy; omega⟩
   have hrg : shRg (shOf l[i]) := by rw [hs]; exact rg
   have helt : ∀ {H' : Heap},(∀ b ∈ B1 ++ B2,H'[b]? = H4[b]?) -> EltT (OwnT H.length H' n) l[i] [.int .i64 kd,.int .i64 vr,.int .i64 va,.int .i64 vbb,.int .i64 vc,.int .i64 hh,(.slice ta' tl.length tl.length),(.slice ea' el.length el.length)] (B1 ++ B2) := fun hk => by
    rw [hs]
    exact ⟨(.slice ta' tl.length tl.length),(.slice ea' el.length el.length),B1,B2,rfl,rg,o24.keep (Nat.le_refl _) (fun b hb => hk b (List.mem_append_left _ hb)),o34.keep (Nat.le_refl _) (fun b hb => hk b (List.mem_append_right _ hb)),rfl⟩
   have hfar : ∀ b ∈ B1 ++ B2,Hc.length < b /\ b < H4.length := fun b hb => by
    rcases List.mem_append.1 hb with h | h
    ·have := hg2 b h; omega
    ·have := hg3 b h; omega
   have htk : l.take (i + 1) = l.take i ++ [l[i]] := by rw [List.take_add_one,List.getElem?_eq_getElem hil]; rfl
   have htl' : (l.take i).length = i := by rw [List.length_take]; omega
   have hend : ∀ (e' : Env) (H' : Heap) (v' : Value) (B' : List Nat),AgX [] H H' -> OwnT H.length H' (n + 1) v' (l.take (i + 1)) B' -> e' 3 = v' -> e' 6 = .slice (some ⟨vb,vo,none⟩) l.length l.length -> e' 7 = .int .i64 l.length -> e' 8 = .int .i64 ((i + 1 : Nat) : Int) -> W F H.length _ e' H' _ := fun e' H' v' B' a1 a2 a3 a6 a7 a8 => ihk (i + 1) e' H' v' B' (by omega) a1 a2 a3 a6 a7 a8
   rcases ho4 with ⟨rfl,hl0,_⟩ | ⟨b,cs,Bs,hb1,rfl,hne,hb2,rfl,hb4n,hbd⟩
   ·have hi0 : i = 0 := by have := congrArg List.length hl0; rw [htl'] at this; simpa using this
    subst hi0
    refine op_app_nil _ _ _ _ _ (a := ⟨H4.length,0,none⟩) (m := 1) (c' := 1) (ys := [.int .i64 kd,.int .i64 vr,.int .i64 va,.int .i64 vbb,.int .i64 vc,.int .i64 hh,(.slice ta' tl.length tl.length),(.slice ea' el.length el.length)]) (by (simp only [go_sem,binC,e3]) <;> rfl) (by (simp only [go_sem,binC]) <;> rfl) (by omega) (by rw [gc_new0]; rfl) (by omega) (by omega) ?_
    simp only [go_sem,binC,out_n,thenX_n]
    refine wpc_reg ?_
    simp only [go_sem,binC,e8,hw1]
    simp only [go_sem,binC,thenX_n]
    have hx5 : AgX [] H4 (H4 ++ [⟨[.int .i64 kd,.int .i64 vr,.int .i64 va,.int .i64 vbb,.int .i64 vc,.int .i64 hh,(.slice ta' tl.length tl.length),(.slice ea' el.length el.length)],8,54,true,true⟩,⟨[.int .i64 kd,.int .i64 vr,.int .i64 va,.int .i64 vbb,.int .i64 vc,.int .i64 hh,(.slice ta' tl.length tl.length),(.slice ea' el.length el.length)],8,54,true,true⟩]) := AgX.app [] _ _
    refine hend _ _ (sli (H4.length + 1) 0 1) ((H4.length + 1) :: [B1 ++ B2].flatten) (hag4.tr hx5) (.inr ⟨H4.length + 1,_,[B1 ++ B2],by omega,by rw [show (l.take (0 + 1)).length = 1 by rw [List.length_take]; omega],by rw [htk]; exact List.append_ne_nil_of_right_ne_nil _ (by simp),get_new _ _ 1,rfl,?_,?_⟩) (by (simp only [go_sem,binC]) <;> rfl) (by simp only [go_sem,binC,e6]) (by simp only [go_sem,binC,e7]) (by simp only [go_sem,binC])
    ·simp only [List.flatten_cons,List.flatten_nil,List.append_nil]
     intro hb
     have := hfar _ hb
     omega
    ·have := (BodyT.nil (P := OwnT H.length H4 n)).snoc (P' := OwnT H.length (H4 ++ [⟨[.int .i64 kd,.int .i64 vr,.int .i64 va,.int .i64 vbb,.int .i64 vc,.int .i64 hh,(.slice ta' tl.length tl.length),(.slice ea' el.length el.length)],8,54,true,true⟩,⟨[.int .i64 kd,.int .i64 vr,.int .i64 va,.int .i64 vbb,.int .i64 vc,.int .i64 hh,(.slice ta' tl.length tl.length),(.slice ea' el.length el.length)],8,54,true,true⟩]) n) (a := l[0]) (fun v l B1 hs h => h.keep (Nat.le_refl _) fun b hb => by have := hs b hb; simp at this) (helt (fun b hb => hx5.2 b (hfar b hb).2 (by simp))) hnd (fun b _ => by simp) (by simp)
     rw [htk,hl0]
     exact this
   ·rw [htl']
    have hbB : b < Hc.length := (hgB b (List.mem_cons_self)).2.1
    obtain ⟨c1,c2,c3,c4,c5⟩ := id hbd
    rw [htl'] at c1 c2 c3
    refine op_app_kill hb2 c2 (by simp only [go_sem,binC,e3,htl']) (by (simp only [go_sem,binC]) <;> rfl) (by omega) rfl (by omega) (by omega) fun H5 hx5 hb5 => ?_
    simp only [go_sem,binC,out_n,thenX_n]
    refine wpc_reg ?_
    simp only [go_sem,binC,e8,hw1]
    simp only [go_sem,binC,thenX_n]
    have hk5 : ∀ b' ∈ Bs.flatten,H5[b']? = H4[b']? := fun b' hb' => hx5.2 b' (by have := (hgB b' (List.mem_cons_of_mem _ hb')).2.1; omega) (by intro h; simp only [List.mem_singleton] at h; subst h; exact hb4n hb')
    refine hend _ H5 (sli (H4.length + 1) 0 (i + 1)) ((H4.length + 1) :: (Bs ++ [B1 ++ B2]).flatten) (hag4.trans hx5 (fun _ h _ => h) (fun b' h1 h2 => by simp only [List.mem_singleton] at h1; omega)) (.inr ⟨H4.length + 1,_,Bs ++ [B1 ++ B2],by omega,by rw [List.length_take,Nat.min_eq_left (by omega)],by rw [htk]; exact List.append_ne_nil_of_right_ne_nil _ (by simp),hb5,rfl,?_,?_⟩) (by (simp only [go_sem,binC]) <;> rfl) (by simp only [go_sem,binC,e6]) (by simp only [go_sem,binC,e7]) (by simp only [go_sem,binC])
    ·rw [List.flatten_append,List.mem_append]
     simp only [List.flatten_cons,List.flatten_nil,List.append_nil]
     rintro (h | h)
     ·have := (hgB _ (List.mem_cons_of_mem _ h)).2.1; omega
     ·have := hfar _ h; omega
    ·rw [htk]
     exact hbd.snoc (fun v l B' hs h => h.keep (Nat.le_refl _) fun b' hb' => hk5 b' (hs b' hb')) (helt (fun b' hb' => hx5.2 b' (hfar b' hb').2 (by have := hfar b' hb'; simp; omega))) hnd (fun b' hb' h => by have := hfar b' hb'; have := (hgB b' (List.mem_cons_of_mem _ h)).2.1; omega) (by rw [htl']; omega)
theorem cloneSteps_all {F : Nat -> Option IFn} (hf : F 71 = some c_cloneSteps) : ∀ n,CloneOk F 71 n
 | 0 => cloneSteps_ok hf fun m h => by cases h
 | n + 1 => cloneSteps_ok hf fun m h => by cases h; exact cloneSteps_all hf n
end Go.Proofs.YtbjeldblaclpnaaGreatI
end
section
set_option linter.unusedVariables false
set_option linter.unusedSimpArgs false
namespace Go.Proofs.YtbjeldblaclpnaaGreatI
open Go Go.RowKit
def CloOk (F : Nat -> Option IFn) (g : Nat) (first cap : Array Value) (H0 : Heap) (P : Shal -> Prop) (T : Shal -> Shal) : Prop := ∀ (H : Heap) (b : Nat) (cs : List Value) (i : Nat) (s : Shal) (tv ev : Value) (lo : Nat),AgX [] H0 H -> H0.length <= b -> lo <= b -> H[b]? = some ⟨cs,8,54,true,true⟩ -> i * 8 + 8 <= cs.length -> (cs.drop (i * 8)).take 8 = shV s tv ev -> shRg s -> P s -> one tv = true -> one ev = true ->
 shRg (T s) /\ NC F lo g (first.toList ++ [ptr b (i * 8)] ++ cap.toList) H (.tuple #[]) (H.set b ⟨setL cs (i * 8) (shV (T s) tv ev),8,54,true,true⟩)
def ChOk (F : Nat -> Option IFn) (f n g : Nat) (first cap : Array Value) (H0 : Heap) (P : Shal -> Prop) (T : Shal -> Shal) : Prop := ∀ (H : Heap) (v : Value) (l : List (TStep n)) (B : List Nat) (lo : Nat),OwnT H0.length H n v l B -> AgX [] H0 H -> lo <= H0.length -> (∀ s ∈ allL n l,P s) -> ∃ H',NC F lo f [v,.func (.func g) first cap] H (.tuple #[]) H' /\ OwnT H0.length H' n v (l.map (mapT T n)) B /\ AgX B H H'
theorem allT_sh {n : Nat} (s : TStep (n + 1)) : allT (n + 1) s = shOf s :: (allL n (thOf s) ++ allL n (elOf s)) := rfl
theorem shV_len (s : Shal) (tv ev : Value) : (shV s tv ev).length = 8 := rfl
theorem gc_at8 {H : Heap} {b es et i : Nat} {ap so : Bool} {cs : List Value} {s : Shal} {tv ev : Value} (hb : H[b]? = some ⟨cs,es,et,ap,so⟩) (hl : i * 8 + 8 <= cs.length) (h8 : (cs.drop (i * 8)).take 8 = shV s tv ev) : getCells H b (i * 8) 8 = some (shV s tv ev) := by
 unfold getCells
 rw [hb]
 simp only
 rw [if_pos hl,h8]
theorem setL_ne8 {cc vs : List Value} {i j : Nat} (hv : vs.length = 8) (h8 : i * 8 + 8 <= cc.length) (hji : j ≠ i) : ((setL cc (i * 8) vs).drop (j * 8)).take 8 = (cc.drop (j * 8)).take 8 := by
 refine List.ext_getElem? fun m => ?_
 rw [List.getElem?_take,List.getElem?_take]
 split
 ·rw [List.getElem?_drop,List.getElem?_drop,setL_get _ _ _ _ (by omega),if_neg (by omega)]
 ·rfl
theorem change_ok {F : Nat -> Option IFn} {f n g : Nat} {first cap : Array Value} {H0 : Heap} {P : Shal -> Prop} {T : Shal -> Shal} (hf : F f = some c_change) (hg : CloOk F g first cap H0 P T) (ih : ∀ m,n = m + 1 -> ChOk F 40 m g first cap H0 P T) : ChOk F f n g first cap H0 P T := by
 intro H v l B lo ho hx0 hlo hP
 suffices h : ∃ w H',NC F lo f [v,.func (.func g) first cap] H w H' /\ (w = .tuple #[] /\ OwnT H0.length H' n v (l.map (mapT T n)) B /\ AgX B H H') by
  obtain ⟨w,H',h1,rfl,h2⟩ := h
  exact ⟨H',h1,h2⟩
 obtain ⟨hlm,av,hv⟩ := ho.len
 subst hv
 refine NC.mk hf rfl ?_
 refine seq_reg ?_
 simp only [go_sem,binC]
 refine wpc_block (wpc_loop ?_)
 by_cases hl0 : l = []
 ·subst hl0
  refine lp_step ?_
  refine seq_reg ?_
  simp only [go_sem,binC]
  refine seq_cond (t := false) (by (simp only [go_sem,binC]) <;> rfl) ?_
  simp only [go_sem,binC]
  refine seq_exit ?_
  simp only [go_sem,binC,thenX_e,out_e,thenX_n]
  exact ⟨Or.inl rfl,_,rfl,rfl,ho,AgX.refl _ _⟩
 cases n with
 | zero => exact absurd ho.2.1 hl0
 | succ n =>
 obtain ⟨b,cs,Bs,hb1,hv,hne,hb2,hBe,hbn,hbd⟩ := ho.resolve_left (fun h => hl0 h.2.1)
 simp only [sli,Value.slice.injEq,and_true] at hv
 subst hv
 have hbB : b ∈ B := by rw [hBe]; exact List.mem_cons_self
 have hBin : ∀ b' ∈ Bs.flatten,b' ∈ B := fun b' hb' => by rw [hBe]; exact List.mem_cons_of_mem _ hb'
 have hBH : ∀ b' ∈ B,H0.length <= b' := fun b' hb' => (ho.ge b' hb').1
 let lc : Nat -> List (TStep (n + 1)) := fun i => l.mapIdx fun j s => if j < i then mapT T (n + 1) s else s
 have hlc : ∀ i,(lc i).length = l.length := fun i => by simp [lc]
 have hlc0 : lc 0 = l := List.ext_getElem (hlc 0) fun j h1 h2 => by simp [lc]
 have hlcE : lc l.length = l.map (mapT T (n + 1)) := List.ext_getElem (by rw [hlc,List.length_map]) fun j h1 h2 => by
  rw [hlc] at h1
  simp [lc,h1]
 have hlcg : ∀ (i j : Nat) (h : j < (lc i).length) (h' : j < l.length),(lc i)[j] = if j < i then mapT T (n + 1) l[j] else l[j] := fun i j h h' => by simp [lc]
 suffices h : ∀ (k i : Nat) (e : Env) (Hc : Heap) (cc : List Value),i + k = l.length -> AgX B H Hc -> Hc[b]? = some ⟨cc,8,54,true,true⟩ -> BodyT (OwnT H0.length Hc n) (lc i) cc Bs -> e 0 = sli b 0 l.length -> e 1 = .func (.func g) first cap -> e 6 = .int .i64 l.length -> e 7 = .int .i64 i -> W F lo _ e Hc _ from
  h l.length 0 _ H cs (by omega) (AgX.refl _ _) hb2 (hlc0.symm ▸ hbd) (by (simp only [go_sem,binC]) <;> rfl) (by simp only [go_sem,binC]) (by simp only [go_sem,binC]) (by (simp only [go_sem,binC]) <;> rfl)
 intro k
 induction k with
 | zero =>
   intro i e Hc cc hi hxc hbc hbdc e0 e1 e6 e7
   refine lp_step ?_
   refine seq_reg ?_
   simp only [go_sem,binC,e6,e7]
   refine seq_cond (t := false) (by simp only [go_sem,binC]; rw [decide_eq_false (by omega)]) ?_
   simp only [go_sem,binC]
   refine seq_exit ?_
   simp only [go_sem,binC,thenX_e,out_e,thenX_n]
   have hil : i = l.length := by omega
   rw [hil,hlcE] at hbdc
   exact ⟨Or.inl rfl,_,rfl,rfl,.inr ⟨b,cc,Bs,hb1,by rw [List.length_map]; rfl,by simpa using hl0,hbc,hBe,hbn,hbdc⟩,hxc⟩
 | succ k ihk =>
   intro i e Hc cc hi hxc hbc hbdc e0 e1 e6 e7
   have hil : i < l.length := by omega
   obtain ⟨c0,c1,c2,c3,c4⟩ := id hbdc
   rw [hlc] at c0 c1 c2
   have hiB : i < Bs.length := by omega
   obtain ⟨tv,ev,B1,B2,q1,q2,q3,q4,q5⟩ := c4 i (by rw [hlc]; exact hil) hiB
   have hli : (lc i)[i]'(by rw [hlc]; exact hil) = l[i] := by rw [hlcg i i _ hil,if_neg (by omega)]
   rw [hli] at q1 q2 q3 q4
   have hPs : P (shOf l[i]) := hP _ (mem_allL hil (by rw [allT_sh]; exact List.mem_cons_self))
   have hPt : ∀ s ∈ allL n (thOf l[i]),P s := fun s hs => hP _ (mem_allL hil (by rw [allT_sh]; exact List.mem_cons_of_mem _ (List.mem_append_left _ hs)))
   have hPe : ∀ s ∈ allL n (elOf l[i]),P s := fun s hs => hP _ (mem_allL hil (by rw [allT_sh]; exact List.mem_cons_of_mem _ (List.mem_append_right _ hs)))
   have hw1 : IntKind.i64.wrap ((i : Int) + 1) = ((i + 1 : Nat) : Int) := by rw [wrap_id (by omega) (by omega)]; omega
   have hx0c : AgX [] H0 Hc := hx0.trans hxc (fun _ h _ => h) (fun b' h1 h2 => by have := hBH b' h1; omega)
   have h8 : i * 8 + 8 <= cc.length := by omega
   have hbl := (List.getElem?_eq_some_iff.1 hbc).1
   have otv := q3.one
   have oev := q4.one
   obtain ⟨hrgT,hcall⟩ := hg Hc b cc i _ tv ev lo hx0c hb1 (by omega) hbc h8 q1 q2 hPs otv oev
   have hb1n : b ∉ B1 := fun h => hbn (mem_flat hiB (by rw [q5]; exact List.mem_append_left _ h))
   have hb2n : b ∉ B2 := fun h => hbn (mem_flat hiB (by rw [q5]; exact List.mem_append_right _ h))
   have h12 : ∀ b' ∈ B2,b' ∉ B1 := fun b' h2 h1 => by
    have hnd := flat_in c3 hiB
    rw [q5,List.nodup_append] at hnd
    exact hnd.2.2 b' h1 b' h2 rfl
   refine lp_step ?_
   refine seq_reg ?_
   simp only [go_sem,binC,e6,e7]
   refine seq_cond (t := true) (by simp only [go_sem,binC]; rw [decide_eq_true (by omega)]) ?_
   simp only [go_sem,binC]
   refine seq_skip (seq_block (seq_reg ?_))
   simp only [go_sem,binC,e7]
   refine seq_reg ?_
   simp only [go_sem,binC,e0,e1]
   refine ⟨⟨by omega,by omega⟩,?_⟩
   refine op_callNc (g := g) (first := first) (cap := cap) (by simp only [go_sem,binC,e1]) (by simp only [go_sem,binC]; exact hcall) ?_
   simp only [go_sem,binC]
   have hb1' : (Hc.set b ⟨setL cc (i * 8) (shV (T (shOf l[i])) tv ev),8,54,true,true⟩)[b]? = some ⟨setL cc (i * 8) (shV (T (shOf l[i])) tv ev),8,54,true,true⟩ := List.getElem?_set_self hbl
   have hxs : AgX [b] Hc (Hc.set b ⟨setL cc (i * 8) (shV (T (shOf l[i])) tv ev),8,54,true,true⟩) := AgX.set _ _ _
   generalize hH1 : Hc.set b ⟨setL cc (i * 8) (shV (T (shOf l[i])) tv ev),8,54,true,true⟩ = H1 at hb1' hxs
   have hsl : (setL cc (i * 8) (shV (T (shOf l[i])) tv ev)).length = cc.length := setL_length ..
   have hat : ((setL cc (i * 8) (shV (T (shOf l[i])) tv ev)).drop (i * 8)).take 8 = shV (T (shOf l[i])) tv ev := setL_at (shV_len _ _ _) h8
   have hg1 := gc_at8 hb1' (by rw [hsl]; exact h8) hat
   have hg6 := gc_part (off := 6) (k := 1) hg1 (by omega)
   rw [show ((shV (T (shOf l[i])) tv ev).drop 6).take 1 = [tv] from rfl] at hg6
   have o31 : OwnT H0.length H1 n tv (thOf l[i]) B1 := q3.keep (Nat.le_refl _) fun b' hb' => hxs.2 b' (q3.ge b' hb').2.1 (by intro h; simp only [List.mem_singleton] at h; subst h; exact hb1n hb')
   have hx01 : AgX [] H0 H1 := hx0c.trans hxs (fun _ h _ => h) (fun b' h1 h2 => by simp only [List.mem_singleton] at h1; omega)
   obtain ⟨H2,k2,o2,hx2⟩ := ih n rfl H1 tv (thOf l[i]) B1 lo o31 hx01 hlo hPt
   refine seq_reg ?_
   simp only [go_sem,binC,e0,e1]
   refine ⟨⟨by omega,by omega⟩,?_⟩
   simp only [go_sem,binC,Int.toNat_natCast,Nat.zero_add,hg6]
   refine op_callN (by simp only [go_sem,binC,e1]; exact k2) ?_
   simp only [go_sem,binC]
   have hb2' := hx2.get hb1' hb1n
   have hg2 := gc_at8 hb2' (by rw [hsl]; exact h8) hat
   have hg7 := gc_part (off := 7) (k := 1) hg2 (by omega)
   rw [show ((shV (T (shOf l[i])) tv ev).drop 7).take 1 = [ev] from rfl] at hg7
   have hx02 : AgX [] H0 H2 := hx01.trans hx2 (fun _ h _ => h) (fun b' h1 h2 => by have := (q3.ge b' h1).1; omega)
   have o42 : OwnT H0.length H2 n ev (elOf l[i]) B2 := q4.keep (Nat.le_refl _) fun b' hb' => by
    have h1 := (q4.ge b' hb').2.1
    have h2 := hxs.1
    rw [hx2.2 b' (by omega) (h12 b' hb'),hxs.2 b' h1 (by intro h; simp only [List.mem_singleton] at h; subst h; exact hb2n hb')]
   obtain ⟨H3,k3,o3,hx3⟩ := ih n rfl H2 ev (elOf l[i]) B2 lo o42 hx02 hlo hPe
   refine wpc_reg ?_
   simp only [go_sem,binC,e0,e1]
   refine ⟨⟨by omega,by omega⟩,?_⟩
   simp only [go_sem,binC,Int.toNat_natCast,Nat.zero_add,hg7]
   refine op_callN (by simp only [go_sem,binC,e1]; exact k3) ?_
   simp only [go_sem,binC,out_n,thenX_n]
   refine wpc_reg ?_
   simp only [go_sem,binC,e7,hw1]
   simp only [go_sem,binC,thenX_n]
   have hb3' := hx3.get hb2' hb2n
   have hl1 := hxs.1
   have hl2 := hx2.1
   have hBi : ∀ b' ∈ Bs[i],b' ∈ B := fun b' h => hBin b' (mem_flat hiB h)
   have hxB : AgX B H H3 := ((hxc.trans hxs (fun _ h _ => h) (fun b' h1 h2 => by simp only [List.mem_singleton] at h1; subst h1; exact hbB)).trans hx2 (fun _ h _ => h) (fun b' h1 h2 => hBi b' (by rw [q5]; exact List.mem_append_left _ h1))).trans hx3 (fun _ h _ => h) (fun b' h1 h2 => hBi b' (by rw [q5]; exact List.mem_append_right _ h1))
   have o23 : OwnT H0.length H3 n tv ((thOf l[i]).map (mapT T n)) B1 := o2.keep (Nat.le_refl _) fun b' hb' => hx3.2 b' (o2.ge b' hb').2.1 (fun h => h12 b' h hb')
   refine ihk (i + 1) _ H3 _ (by omega) hxB hb3' ?_ (by simp only [go_sem,binC,e0]) (by simp only [go_sem,binC,e1]) (by simp only [go_sem,binC,e6]) (by simp only [go_sem,binC])
   refine ⟨by rw [hlc]; exact c0,by rw [hlc,hsl]; exact c1,by rw [hlc]; exact c2,c3,fun j hj hj' => ?_⟩
   have hjl : j < l.length := by rw [hlc] at hj; exact hj
   rw [hlcg (i + 1) j hj hjl]
   by_cases hji : j = i
   ·subst hji
    rw [if_pos (by omega),hat]
    exact ⟨tv,ev,B1,B2,rfl,hrgT,o23,o3,q5⟩
   ·have hc4 := c4 j (by rw [hlc]; exact hjl) hj'
    rw [hlcg i j _ hjl] at hc4
    have hif : (if j < i + 1 then mapT T (n + 1) l[j] else l[j]) = if j < i then mapT T (n + 1) l[j] else l[j] := by
     by_cases hlt : j < i
     ·rw [if_pos hlt,if_pos (by omega)]
     ·rw [if_neg hlt,if_neg (by omega)]
    rw [hif,setL_ne8 (shV_len _ _ _) h8 hji]
    refine hc4.imp fun v l' B' hs h => h.keep (Nat.le_refl _) fun b' hb' => ?_
    have h1 := (h.ge b' hb').2.1
    have hnb : b' ≠ b := fun he => hbn (he ▸ mem_flat hj' (hs b' hb'))
    have hnB : b' ∉ Bs[i] := flat_apart c3 hj' hiB hji (hs b' hb')
    rw [q5,List.mem_append,not_or] at hnB
    rw [hx3.2 b' (by omega) hnB.2,hx2.2 b' (by omega) hnB.1,hxs.2 b' h1 (by simpa using hnb)]
theorem change_all {F : Nat -> Option IFn} {g : Nat} {first cap : Array Value} {H0 : Heap} {P : Shal -> Prop} {T : Shal -> Shal} (hf : F 40 = some c_change) (hg : CloOk F g first cap H0 P T) : ∀ n,ChOk F 40 n g first cap H0 P T
 | 0 => change_ok hf hg fun m h => by cases h
 | n + 1 => change_ok hf hg fun m h => by cases h; exact change_all hf hg n
end Go.Proofs.YtbjeldblaclpnaaGreatI
end
section
set_option linter.unusedVariables false
set_option linter.unusedSimpArgs false
namespace Go.Proofs.YtbjeldblaclpnaaGreatI
open Go Go.RowKit
def c_ixInt : IFn := ⟨2,19,[.t 4],
 .seq (.reg none [⟨some 4,none,.mov (.c (.int .i64 0))⟩])
 (.seq (.seq (.reg none [⟨some 6,none,.mov (.t 0)⟩,⟨some 7,none,.len (.t 6)⟩,⟨some 8,none,.mov (.c (.int .i64 0))⟩])
  (.block 0 (.loop (.seq (.reg none [⟨some 9,none,.bin .lss (.t 8) (.t 7)⟩])
   (.seq (.cond (.t 9) (.skip) (.exit 0))
   (.seq (.block 1 (.seq (.reg none [⟨some 10,none,.mov (.t 8)⟩,⟨some 5,none,.mov (.t 10)⟩])
    (.seq (.reg none [⟨some 11,none,.mov (.t 1)⟩,⟨some 12,none,.mov (.t 0)⟩,⟨some 13,none,.mov (.t 5)⟩,⟨some 14,none,.iad 1 (.t 12) (.t 13)⟩,
      ⟨some 15,none,.load false 1 (.t 14)⟩,⟨some 16,none,.bin .eql (.t 11) (.t 15)⟩])
    (.cond (.t 16) (.seq (.reg none [⟨some 17,none,.mov (.t 5)⟩,⟨some 4,none,.mov (.t 17)⟩])
     (.ret)) (.skip)))))
   (.reg none [⟨some 18,none,.bin .add (.t 8) (.c (.int .i64 1))⟩,⟨some 8,none,.mov (.t 18)⟩])))))))
 (.seq (.reg none [⟨some 4,none,.mov (.c (.int .i64 (-1)))⟩])
 (.ret)))⟩
def c_conInt : IFn := ⟨2,9,[.t 4],
 .seq (.reg none [⟨some 4,none,.mov (.c (.bool false))⟩])
 (.seq (.reg none [⟨some 5,none,.mov (.t 0)⟩,⟨some 6,none,.mov (.t 1)⟩,⟨some 7,none,.call .q (.f 87) [.t 5,.t 6]⟩,
   ⟨some 8,none,.bin .geq (.t 7) (.c (.int .i64 0))⟩,⟨some 4,none,.mov (.t 8)⟩])
 (.ret))⟩
def c_iRow : IFn := ⟨2,31,[.t 4],
 .seq (.reg none [⟨some 4,none,.mov (.c (.bool false))⟩])
 (.seq (.seq (.reg none [⟨some 7,none,.mov (.t 0)⟩,⟨some 8,none,.len (.t 7)⟩,⟨some 9,none,.mov (.c (.int .i64 0))⟩])
  (.block 0 (.loop (.seq (.reg none [⟨some 10,none,.bin .lss (.t 9) (.t 8)⟩])
   (.seq (.cond (.t 10) (.skip) (.exit 0))
   (.seq (.block 1 (.seq (.reg none [⟨some 11,none,.mov (.t 9)⟩,⟨some 12,none,.iad 1 (.t 7) (.t 9)⟩,⟨some 13,none,.load false 1 (.t 12)⟩,
      ⟨some 5,none,.mov (.t 11)⟩,⟨some 6,none,.mov (.t 13)⟩])
    (.seq (.reg none [⟨some 14,none,.mov (.t 6)⟩,⟨some 15,none,.mov (.t 1)⟩,⟨some 16,none,.bin .sub (.t 15) (.c (.int .i64 1))⟩,
      ⟨some 17,none,.call .q (.f 64) [.t 14,(.c (.int .i64 0)),.t 16]⟩,⟨some 18,none,.un .not (.t 17)⟩,⟨some 19,none,.mov (.t 18)⟩,
      ⟨some 20,some (19,false),.mov (.t 0)⟩,⟨some 21,some (19,false),.mov (.t 5)⟩,⟨some 22,some (19,false),.sub 1 (.t 20) none (some (.t 21))⟩,
      ⟨some 23,some (19,false),.mov (.t 6)⟩,⟨some 24,some (19,false),.call .q (.f 65) [.t 22,.t 23]⟩,⟨some 25,none,.pick (.t 19) (.c (.bool true)) (.t 24)⟩])
    (.cond (.t 25) (.seq (.reg none [⟨some 4,none,.mov (.c (.bool false))⟩])
     (.ret)) (.skip)))))
   (.reg none [⟨some 26,none,.bin .add (.t 9) (.c (.int .i64 1))⟩,⟨some 9,none,.mov (.t 26)⟩])))))))
 (.seq (.reg none [⟨some 27,none,.mov (.t 0)⟩,⟨some 28,none,.len (.t 27)⟩,⟨some 29,none,.mov (.t 1)⟩,⟨some 30,none,.bin .eql (.t 28) (.t 29)⟩,
   ⟨some 4,none,.mov (.t 30)⟩])
 (.ret)))⟩
def c_sRow : IFn := ⟨2,33,[.t 4],
 .seq (.reg none [⟨some 4,none,.mov (.c (.bool false))⟩])
 (.seq (.seq (.reg none [⟨some 8,none,.mov (.t 0)⟩,⟨some 9,none,.len (.t 8)⟩,⟨some 10,none,.mov (.t 1)⟩,⟨some 11,none,.bin .neq (.t 9) (.t 10)⟩])
  (.cond (.t 11) (.seq (.reg none [⟨some 4,none,.mov (.c (.bool false))⟩])
   (.ret)) (.skip)))
 (.seq (.seq (.reg none [⟨some 5,none,.mov (.c (.int .i64 0))⟩])
  (.block 0 (.loop (.seq (.seq (.reg none [⟨some 12,none,.mov (.t 5)⟩,⟨some 13,none,.mov (.t 1)⟩,⟨some 14,none,.bin .lss (.t 12) (.t 13)⟩])
    (.cond (.t 14) (.skip) (.exit 0)))
   (.seq (.block 1 (.seq (.reg none [⟨some 6,none,.mov (.c (.bool false))⟩])
    (.seq (.seq (.reg none [⟨some 7,none,.mov (.c (.int .i64 0))⟩])
     (.block 2 (.loop (.seq (.seq (.reg none [⟨some 17,none,.mov (.t 7)⟩,⟨some 18,none,.mov (.t 1)⟩,⟨some 19,none,.bin .lss (.t 17) (.t 18)⟩])
       (.cond (.t 19) (.skip) (.exit 2)))
      (.seq (.block 3 (.reg none [⟨some 22,none,.mov (.t 6)⟩,⟨some 23,none,.mov (.t 22)⟩,⟨some 24,some (23,false),.mov (.t 0)⟩,
        ⟨some 25,some (23,false),.mov (.t 7)⟩,⟨some 26,some (23,false),.iad 1 (.t 24) (.t 25)⟩,⟨some 27,some (23,false),.load false 1 (.t 26)⟩,
        ⟨some 28,some (23,false),.mov (.t 5)⟩,⟨some 29,some (23,false),.bin .eql (.t 27) (.t 28)⟩,⟨some 30,none,.pick (.t 23) (.c (.bool true)) (.t 29)⟩,
        ⟨some 6,none,.mov (.t 30)⟩]))
      (.reg none [⟨some 20,none,.mov (.t 7)⟩,⟨some 21,none,.bin .add (.t 20) (.c (.int .i64 1))⟩,⟨some 7,none,.mov (.t 21)⟩]))))))
    (.seq (.reg none [⟨some 31,none,.mov (.t 6)⟩,⟨some 32,none,.un .not (.t 31)⟩])
    (.cond (.t 32) (.seq (.reg none [⟨some 4,none,.mov (.c (.bool false))⟩])
     (.ret)) (.skip))))))
   (.reg none [⟨some 15,none,.mov (.t 5)⟩,⟨some 16,none,.bin .add (.t 15) (.c (.int .i64 1))⟩,⟨some 5,none,.mov (.t 16)⟩]))))))
 (.seq (.reg none [⟨some 4,none,.mov (.c (.bool true))⟩])
 (.ret))))⟩
def rowB (row : List Int) (n : Nat) : Bool := decide (row.length = n) && (List.range n).all fun i => decide ((i : Int) ∈ row)
theorem row_surj : ∀ (n : Nat) (row : List Int),row.length = n -> (∀ i : Nat,i < n -> (i : Int) ∈ row) -> (∀ x ∈ row,0 <= x /\ x < n) /\ row.Nodup
 | 0,row,hl,_ => by
   have : row = [] := List.eq_nil_of_length_eq_zero hl
   subst this
   exact ⟨fun x hx => (by cases hx),List.nodup_nil⟩
 | n + 1,row,hl,h => by
   have hn := h n (by omega)
   have hp := List.perm_cons_erase hn
   obtain ⟨h1,h2⟩ := row_surj n (row.erase (n : Int)) (by rw [List.length_erase_of_mem hn]; omega) fun i hi => (List.mem_erase_of_ne (by omega)).2 (h i (by omega))
   refine ⟨fun x hx => ?_,hp.nodup_iff.2 (List.nodup_cons.2 ⟨fun hx => ?_,h2⟩)⟩
   ·rcases List.mem_cons.1 (hp.mem_iff.1 hx) with rfl | hx
    ·omega
    ·have := h1 x hx; omega
   ·have := h1 _ hx; omega
theorem row_inj : ∀ (n : Nat) (row : List Int),row.length = n -> (∀ x ∈ row,0 <= x /\ x < n) -> row.Nodup -> ∀ i : Nat,i < n -> (i : Int) ∈ row
 | 0,_,_,_,_,i,hi => by omega
 | n + 1,row,hl,hr,hn,i,hi => by
   by_cases hm : (n : Int) ∈ row
   ·by_cases hin : i = n
    ·subst hin; exact hm
    ·have hp := List.perm_cons_erase hm
     have hnd := List.nodup_cons.1 (hp.nodup_iff.1 hn)
     have hmem : ∀ x ∈ row.erase (n : Int),x ∈ row := fun x hx => List.mem_of_mem_erase hx
     have := row_inj n (row.erase (n : Int)) (by rw [List.length_erase_of_mem hm]; omega) (fun x hx => by
      have h1 := hr x (hmem x hx)
      have h2 : x ≠ n := fun he => hnd.1 (he ▸ hx)
      omega) hnd.2 i (by omega)
     exact hmem _ this
   ·exfalso
    cases row with
    | nil => simp at hl
    | cons a r =>
      have hnd := List.nodup_cons.1 hn
      have hr' : ∀ x ∈ a :: r,0 <= x /\ x < n := fun x hx => by
       have h1 := hr x hx
       have h2 : x ≠ n := fun he => hm (he ▸ hx)
       omega
      have ha := hr' a List.mem_cons_self
      have := row_inj n r (by simpa using hl) (fun x hx => hr' x (List.mem_cons_of_mem _ hx)) hnd.2 a.toNat (by omega)
      rw [Int.toNat_of_nonneg ha.1] at this
      exact hnd.1 this
theorem rowB_iff {row : List Int} {n : Nat} : rowB row n = true ↔ row.length = n /\ (∀ x ∈ row,0 <= x /\ x < n) /\ row.Nodup := by
 simp only [rowB,Bool.and_eq_true,decide_eq_true_eq,List.all_eq_true,List.mem_range]
 constructor
 ·rintro ⟨h1,h2⟩
  exact ⟨h1,row_surj n row h1 h2⟩
 ·rintro ⟨h1,h2,h3⟩
  exact ⟨h1,row_inj n row h1 h2 h3⟩
theorem sl_take {V : Vw} {b o n : Nat} {l : List Int} {i : Nat} (h : SlR Co.int V (.slice (some ⟨b,o,none⟩) n n) l) (hi : i <= l.length) : SlR Co.int V (.slice (some ⟨b,o,none⟩) i i) (l.take i) := by
 obtain ⟨h0,a,hv,h2⟩ := h
 simp only [Value.slice.injEq] at hv
 obtain ⟨rfl,rfl,_⟩ := hv
 have hl : (l.take i).length = i := by rw [List.length_take]; omega
 refine ⟨by omega,_,by rw [hl],?_⟩
 rcases h2 with h2 | ⟨b',o',hb,h2⟩
 ·exact .inl (by rw [h2]; simp)
 ·simp only [Option.some.injEq,Addr.mk.injEq,and_true] at hb
  obtain ⟨rfl,rfl⟩ := hb
  refine .inr ⟨b,o,rfl,fun j hj => ?_⟩
  obtain ⟨cs,q1,q2⟩ := h2 j (by omega)
  refine ⟨cs,q1,?_⟩
  rw [List.getElem_take]
  exact q2
theorem ixInt_ok {F : Nat -> Option IFn} {f : Nat} (hf : F f = some c_ixInt) : ∀ (H : Heap) (v : Value) (l : List Int) (x : Int),SlR Co.int (vw 0 H) v l -> ∃ r : Int,QC F f [v,.int .i64 x] H (.int .i64 r) /\ (0 <= r ↔ x ∈ l) := by
 intro H v l x hv
 suffices h : ∃ w,QC F f [v,.int .i64 x] H w /\ ∃ r : Int,w = .int .i64 r /\ (0 <= r ↔ x ∈ l) by
  obtain ⟨w,h1,r,rfl,h2⟩ := h
  exact ⟨r,h1,h2⟩
 obtain ⟨hl0,va,rfl,_⟩ := id hv
 refine QC.mkE hf rfl ?_
 refine seq_reg ?_
 simp only [go_sem,binC]
 refine seq_assoc (seq_reg ?_)
 simp only [go_sem,binC]
 refine seq_block (wpc_loop ?_)
 suffices h : ∀ (k i : Nat) (e : Env),i + k = l.length -> e 0 = .slice va l.length l.length -> e 1 = .int .i64 x -> e 7 = .int .i64 l.length -> e 8 = .int .i64 i -> x ∉ l.take i -> W F H.length _ e H _ from
  h l.length 0 _ (by omega) (by simp only [go_sem,binC]) (by simp only [go_sem,binC]) (by simp only [go_sem,binC]) (by (simp only [go_sem,binC]) <;> rfl) (by simp)
 intro k
 induction k with
 | zero =>
   intro i e hi e0 e1 e7 e8 hn
   refine lp_step ?_
   refine seq_reg ?_
   simp only [go_sem,binC,e7,e8]
   refine seq_cond (t := false) (by simp only [go_sem,binC]; rw [decide_eq_false (by omega)]) ?_
   simp only [go_sem,binC]
   refine seq_exit ?_
   simp only [go_sem,binC,thenX_e,out_e,thenX_n]
   refine seq_reg ?_
   simp only [go_sem,binC]
   rw [List.take_of_length_le (by omega)] at hn
   exact wpc_ret ⟨Or.inr rfl,.int .i64 (-1),(by (simp only [go_sem,binC]) <;> rfl),⟨-1,rfl,⟨fun h => by omega,fun h => absurd h hn⟩⟩,rfl⟩
 | succ k ih =>
   intro i e hi e0 e1 e7 e8 hn
   have hil : i < l.length := by omega
   obtain ⟨b,o,hv1,hg⟩ := gcI0 hv hil
   simp only [Value.slice.injEq,and_true] at hv1
   subst hv1
   have hw1 : IntKind.i64.wrap ((i : Int) + 1) = ((i + 1 : Nat) : Int) := by rw [wrap_id (by omega) (by omega)]; omega
   refine lp_step ?_
   refine seq_reg ?_
   simp only [go_sem,binC,e7,e8]
   refine seq_cond (t := true) (by simp only [go_sem,binC]; rw [decide_eq_true (by omega)]) ?_
   simp only [go_sem,binC]
   refine seq_skip (seq_block (seq_reg ?_))
   simp only [go_sem,binC,e8]
   refine seq_reg ?_
   simp only [go_sem,binC,e0,e1]
   refine ⟨⟨by omega,by omega⟩,?_⟩
   simp only [go_sem,binC,Int.toNat_natCast,Nat.mul_one,hg]
   by_cases hx : x = l[i]
   ·refine wpc_cond (t := true) (by simp only [go_sem,binC]; rw [beq_t hx]) ?_
    simp only [go_sem,binC]
    refine seq_reg ?_
    simp only [go_sem,binC]
    refine wpc_ret ?_
    simp only [go_sem,binC,out_r,thenX_r]
    exact ⟨Or.inr rfl,.int .i64 i,(by (simp only [go_sem,binC]) <;> rfl),⟨i,rfl,⟨fun _ => hx ▸ List.getElem_mem hil,fun _ => by omega⟩⟩,rfl⟩
   ·refine wpc_cond (t := false) (by simp only [go_sem,binC]; rw [beq_f hx]) ?_
    simp only [go_sem,binC]
    refine wpc_skip ?_
    simp only [go_sem,binC,out_n,thenX_n]
    refine wpc_reg ?_
    simp only [go_sem,binC,e8,hw1]
    simp only [go_sem,binC,thenX_n]
    refine ih (i + 1) _ (by omega) (by simp only [go_sem,binC,e0]) (by simp only [go_sem,binC,e1]) (by simp only [go_sem,binC,e7]) (by simp only [go_sem,binC]) ?_
    rw [List.take_add_one,List.getElem?_eq_getElem hil]
    simp only [Option.toList_some,List.mem_append,List.mem_singleton,not_or]
    exact ⟨hn,hx⟩
theorem conInt_ok {F : Nat -> Option IFn} {f : Nat} (hf : F f = some c_conInt) (gi : F 87 = some c_ixInt) : ∀ (H : Heap) (v : Value) (l : List Int) (x : Int),SlR Co.int (vw 0 H) v l -> QC F f [v,.int .i64 x] H (.bool (decide (x ∈ l))) := by
 intro H v l x hv
 obtain ⟨r,h1,h2⟩ := ixInt_ok gi H v l x hv
 refine QC.mk hf rfl ?_
 refine seq_reg ?_
 simp only [go_sem,binC]
 refine seq_reg ?_
 simp only [go_sem,binC]
 refine op_callQ (by simp only [go_sem,binC]; exact h1) ?_
 simp only [go_sem,binC]
 refine wpc_ret ⟨Or.inr rfl,_,(by (simp only [go_sem,binC]) <;> rfl),?_,rfl⟩
 refine congrArg _ ?_
 rw [Bool.eq_iff_iff,decide_eq_true_iff,decide_eq_true_iff]
 exact h2
def RowOk (F : Nat -> Option IFn) (f : Nat) : Prop := ∀ (H : Heap) (v : Value) (row : List Int) (n : Nat),n <= 1000 -> SlR Co.int (vw 0 H) v row -> QC F f [v,.int .i64 n] H (.bool (rowB row n))
theorem iRow_ok {F : Nat -> Option IFn} {f : Nat} (hf : F f = some c_iRow) (gin : ∀ (H : Heap) (a b c : Int),QC F 64 [.int .i64 a,.int .i64 b,.int .i64 c] H (.bool (inB a b c))) (gc : ∀ (H : Heap) (v : Value) (l : List Int) (x : Int),SlR Co.int (vw 0 H) v l -> QC F 65 [v,.int .i64 x] H (.bool (decide (x ∈ l)))) : RowOk F f := by
 intro H v row n hn hv
 obtain ⟨hl0,va,rfl,_⟩ := id hv
 refine QC.mk hf rfl ?_
 refine seq_reg ?_
 simp only [go_sem,binC]
 refine seq_assoc (seq_reg ?_)
 simp only [go_sem,binC]
 refine seq_block (wpc_loop ?_)
 suffices h : ∀ (k i : Nat) (e : Env),i + k = row.length -> e 0 = .slice va row.length row.length -> e 1 = .int .i64 n -> e 7 = .slice va row.length row.length -> e 8 = .int .i64 row.length -> e 9 = .int .i64 i -> (∀ x ∈ row.take i,0 <= x /\ x < n) -> (row.take i).Nodup -> W F H.length _ e H _ from
  h row.length 0 _ (by omega) (by simp only [go_sem,binC]) (by simp only [go_sem,binC]) (by simp only [go_sem,binC]) (by simp only [go_sem,binC]) (by (simp only [go_sem,binC]) <;> rfl) (fun x hx => by simp at hx) (by simp)
 intro k
 induction k with
 | zero =>
   intro i e hi e0 e1 e7 e8 e9 hr hnd
   refine lp_step ?_
   refine seq_reg ?_
   simp only [go_sem,binC,e8,e9]
   refine seq_cond (t := false) (by simp only [go_sem,binC]; rw [decide_eq_false (by omega)]) ?_
   simp only [go_sem,binC]
   refine seq_exit ?_
   simp only [go_sem,binC,thenX_e,out_e,thenX_n]
   refine seq_reg ?_
   simp only [go_sem,binC,e0,e1]
   rw [List.take_of_length_le (by omega)] at hr hnd
   refine wpc_ret ⟨Or.inr rfl,_,(by (simp only [go_sem,binC]) <;> rfl),?_,rfl⟩
   refine congrArg _ ?_
   rw [Bool.eq_iff_iff,beq_iff_eq,rowB_iff]
   exact ⟨fun h => ⟨by omega,hr,hnd⟩,fun h => by have := h.1; omega⟩
 | succ k ih =>
   intro i e hi e0 e1 e7 e8 e9 hr hnd
   have hil : i < row.length := by omega
   obtain ⟨b,o,hv1,hg⟩ := gcI0 hv hil
   simp only [Value.slice.injEq,and_true] at hv1
   subst hv1
   have hw1 : IntKind.i64.wrap ((i : Int) + 1) = ((i + 1 : Nat) : Int) := by rw [wrap_id (by omega) (by omega)]; omega
   have hw2 : IntKind.i64.wrap ((n : Int) - 1) = (n : Int) - 1 := wrap_id (by omega) (by omega)
   have hno : ∀ e' : Env,rowB row n = false -> e' 4 = .bool false -> fin [.t 4] (fun w' _ => w' = .bool (rowB row n) /\ scal w' = true) .r e' H := fun e' hb h4 => ⟨Or.inr rfl,.bool false,by simp only [resV,res1,h4],by rw [hb],rfl⟩
   have hsub : ∀ e' : Env,e' 21 = .int .i64 i -> subV 1 (.slice (some ⟨b,o,none⟩) row.length row.length) e' none (some (.t 21)) = some (.slice (some ⟨b,o,none⟩) i i) := fun e' h21 => by
    have h3 : (0 : Int) <= (i : Int) /\ (i : Int) <= row.length := by omega
    simp [subV,subB,Opd.ev,h21,h3]
   refine lp_step ?_
   refine seq_reg ?_
   simp only [go_sem,binC,e8,e9]
   refine seq_cond (t := true) (by simp only [go_sem,binC]; rw [decide_eq_true (by omega)]) ?_
   simp only [go_sem,binC]
   refine seq_skip (seq_block (seq_reg ?_))
   simp only [go_sem,binC,e7,e9]
   refine ⟨⟨by omega,by omega⟩,?_⟩
   simp only [go_sem,binC,Int.toNat_natCast,Nat.mul_one,hg]
   refine seq_reg ?_
   refine wpo_cut 4 fun Kc hK => ?_
   simp only [List.take_succ_cons,List.take_zero]
   simp only [go_sem,binC,e1,hw2]
   refine op_callB (by simp only [go_sem,binC]; exact gin _ _ _ _) (fun hin => ?_) (fun hin => ?_)
   rotate_left
   ·simp only [go_sem,binC]
    refine hK _ _ ?_
    simp only [List.drop_succ_cons,List.drop_zero]
    simp only [go_sem,binC]
    refine wpc_cond (t := true) rfl ?_
    simp only [go_sem,binC]
    refine seq_reg ?_
    simp only [go_sem,binC]
    refine wpc_ret ?_
    simp only [go_sem,binC,out_r,thenX_r]
    refine hno _ ?_ (by simp only [go_sem,binC])
    rw [Bool.eq_false_iff]
    intro hb
    have := (rowB_iff.1 hb).2.1 _ (List.getElem_mem hil)
    rw [inB_iff.2 (by omega)] at hin
    cases hin
   simp only [go_sem,binC]
   refine hK _ _ ?_
   simp only [List.drop_succ_cons,List.drop_zero]
   simp only [go_sem,binC,e0]
   rw [hsub _ (by simp only [go_sem,binC])]
   simp only [go_sem,binC]
   refine op_callB (by simp only [go_sem,binC]; exact gc _ _ _ _ (sl_take hv (by omega))) (fun hc => ?_) (fun hc => ?_)
   ·simp only [go_sem,binC]
    refine wpc_cond (t := true) rfl ?_
    simp only [go_sem,binC]
    refine seq_reg ?_
    simp only [go_sem,binC]
    refine wpc_ret ?_
    simp only [go_sem,binC,out_r,thenX_r]
    refine hno _ ?_ (by simp only [go_sem,binC])
    rw [Bool.eq_false_iff]
    intro hb
    have hnd2 := (rowB_iff.1 hb).2.2
    have hm : row[i] ∈ row.take i := of_decide_eq_true hc
    rw [<- List.take_append_drop i row,List.drop_eq_getElem_cons hil,List.nodup_append] at hnd2
    exact hnd2.2.2 _ hm _ List.mem_cons_self rfl
   ·simp only [go_sem,binC]
    refine wpc_cond (t := false) rfl ?_
    simp only [go_sem,binC]
    refine wpc_skip ?_
    simp only [go_sem,binC,out_n,thenX_n]
    refine wpc_reg ?_
    simp only [go_sem,binC,e9,hw1]
    simp only [go_sem,binC,thenX_n]
    have hm : row[i] ∉ row.take i := of_decide_eq_false hc
    have hin2 := inB_iff.1 hin
    have htk : row.take (i + 1) = row.take i ++ [row[i]] := by rw [List.take_add_one,List.getElem?_eq_getElem hil]; rfl
    refine ih (i + 1) _ (by omega) (by simp only [go_sem,binC,e0]) (by simp only [go_sem,binC,e1]) (by simp only [go_sem,binC,e7]) (by simp only [go_sem,binC,e8]) (by simp only [go_sem,binC]) (fun x hx => ?_) ?_
    ·rw [htk,List.mem_append,List.mem_singleton] at hx
     rcases hx with h | rfl
     ·exact hr x h
     ·omega
    ·rw [htk,List.nodup_append]
     refine ⟨hnd,by simp,fun x hx y hy he => ?_⟩
     rw [List.mem_singleton] at hy
     subst hy; subst he
     exact hm hx
theorem sRow_ok {F : Nat -> Option IFn} {f : Nat} (hf : F f = some c_sRow) : RowOk F f := by
 intro H v row n hn hv
 obtain ⟨hl0,va,rfl,_⟩ := id hv
 refine QC.mk hf rfl ?_
 refine seq_reg ?_
 simp only [go_sem,binC]
 by_cases hln : row.length = n
 rotate_left
 ·have hne : ((row.length : Int) != (n : Int)) = true := by simp; omega
  refine seq_assoc (seq_reg ?_)
  simp only [go_sem,binC,hne]
  refine seq_cond (t := true) rfl ?_
  simp only [go_sem,binC]
  refine seq_assoc (seq_reg ?_)
  simp only [go_sem,binC]
  refine seq_ret ⟨Or.inr rfl,.bool false,by simp only [go_sem,binC],?_,rfl⟩
  unfold rowB
  rw [decide_eq_false hln]
  rfl
 have hne : ((row.length : Int) != (n : Int)) = false := by simp; omega
 refine seq_assoc (seq_reg ?_)
 simp only [go_sem,binC,hne]
 refine seq_cond (t := false) rfl ?_
 simp only [go_sem,binC]
 refine seq_skip (seq_assoc (seq_reg ?_))
 simp only [go_sem,binC]
 refine seq_block (wpc_loop ?_)
 suffices h : ∀ (k i : Nat) (e : Env),i + k = n -> e 0 = .slice va row.length row.length -> e 1 = .int .i64 n -> e 5 = .int .i64 i -> (∀ j : Nat,j < i -> (j : Int) ∈ row) -> W F H.length _ e H _ from
  h n 0 _ (by omega) (by simp only [go_sem,binC]) (by simp only [go_sem,binC]) (by (simp only [go_sem,binC]) <;> rfl) (fun j hj => by omega)
 intro k
 induction k with
 | zero =>
   intro i e hi e0 e1 e5 hall
   refine lp_step ?_
   refine seq_assoc (seq_reg ?_)
   simp only [go_sem,binC,e1,e5]
   refine seq_cond (t := false) (by simp only [go_sem,binC]; rw [decide_eq_false (by omega)]) ?_
   simp only [go_sem,binC]
   refine seq_exit ?_
   simp only [go_sem,binC,thenX_e,out_e,thenX_n]
   refine seq_reg ?_
   simp only [go_sem,binC]
   refine wpc_ret ⟨Or.inr rfl,.bool true,by simp only [go_sem,binC],?_,rfl⟩
   have : rowB row n = true := by
    simp only [rowB,Bool.and_eq_true,decide_eq_true_eq,List.all_eq_true,List.mem_range]
    exact ⟨hln,fun j hj => hall j (by omega)⟩
   rw [this]
 | succ k ih =>
   intro i e hi e0 e1 e5 hall
   have hw1 : IntKind.i64.wrap ((i : Int) + 1) = ((i + 1 : Nat) : Int) := by rw [wrap_id (by omega) (by omega)]; omega
   refine lp_step ?_
   refine seq_assoc (seq_reg ?_)
   simp only [go_sem,binC,e1,e5]
   refine seq_cond (t := true) (by simp only [go_sem,binC]; rw [decide_eq_true (by omega)]) ?_
   simp only [go_sem,binC]
   refine seq_skip (seq_block (seq_reg ?_))
   simp only [go_sem,binC]
   refine seq_assoc (seq_reg ?_)
   simp only [go_sem,binC]
   refine seq_block (wpc_loop ?_)
   suffices h : ∀ (k2 j : Nat) (e : Env),j + k2 = n -> e 0 = .slice va row.length row.length -> e 1 = .int .i64 n -> e 5 = .int .i64 i -> e 6 = .bool (decide ((i : Int) ∈ row.take j)) -> e 7 = .int .i64 j -> W F H.length _ e H _ from
    h n 0 _ (by omega) (by simp only [go_sem,binC,e0]) (by simp only [go_sem,binC,e1]) (by simp only [go_sem,binC,e5]) (by (simp only [go_sem,binC]) <;> simp) (by (simp only [go_sem,binC]) <;> rfl)
   intro k2
   induction k2 with
   | zero =>
     intro j e hj e0 e1 e5 e6 e7
     refine lp_step ?_
     refine seq_assoc (seq_reg ?_)
     simp only [go_sem,binC,e1,e7]
     refine seq_cond (t := false) (by simp only [go_sem,binC]; rw [decide_eq_false (by omega)]) ?_
     simp only [go_sem,binC]
     refine seq_exit ?_
     simp only [go_sem,binC,thenX_e,out_e,thenX_n]
     rw [List.take_of_length_le (by omega)] at e6
     refine seq_reg ?_
     simp only [go_sem,binC,e6]
     by_cases hm : (i : Int) ∈ row
     ·rw [decide_eq_true hm]
      refine wpc_cond (t := false) (by (simp only [go_sem,binC]) <;> rfl) ?_
      simp only [go_sem,binC]
      refine wpc_skip ?_
      simp only [go_sem,binC,out_n,thenX_n]
      refine wpc_reg ?_
      simp only [go_sem,binC,e5,hw1]
      simp only [go_sem,binC,thenX_n]
      refine ih (i + 1) _ (by omega) (by simp only [go_sem,binC,e0]) (by simp only [go_sem,binC,e1]) (by simp only [go_sem,binC]) fun j' hj' => ?_
      by_cases h : j' = i
      ·subst h; exact hm
      ·exact hall j' (by omega)
     ·rw [decide_eq_false hm]
      refine wpc_cond (t := true) (by (simp only [go_sem,binC]) <;> rfl) ?_
      simp only [go_sem,binC]
      refine seq_reg ?_
      simp only [go_sem,binC]
      refine wpc_ret ?_
      simp only [go_sem,binC,out_r,thenX_r]
      refine ⟨Or.inr rfl,.bool false,by simp only [go_sem,binC],?_,rfl⟩
      have : rowB row n = false := by
       rw [Bool.eq_false_iff]
       intro hb
       simp only [rowB,Bool.and_eq_true,decide_eq_true_eq,List.all_eq_true,List.mem_range] at hb
       exact hm (hb.2 i (by omega))
      rw [this]
   | succ k2 ih2 =>
     intro j e hj e0 e1 e5 e6 e7
     have hjl : j < row.length := by omega
     obtain ⟨b,o,hv1,hg⟩ := gcI0 hv hjl
     simp only [Value.slice.injEq,and_true] at hv1
     subst hv1
     have hw2 : IntKind.i64.wrap ((j : Int) + 1) = ((j + 1 : Nat) : Int) := by rw [wrap_id (by omega) (by omega)]; omega
     have htk : ∀ h : Bool,h = decide ((i : Int) ∈ row.take j) -> (h || (row[j] == (i : Int))) = decide ((i : Int) ∈ row.take (j + 1)) := fun h hh => by
      rw [hh,List.take_add_one,List.getElem?_eq_getElem hjl,Bool.eq_iff_iff,Bool.or_eq_true,decide_eq_true_iff,decide_eq_true_iff,beq_iff_eq]
      simp only [Option.toList_some,List.mem_append,List.mem_singleton]
      exact or_congr Iff.rfl ⟨fun h => h.symm,fun h => h.symm⟩
     refine lp_step ?_
     refine seq_assoc (seq_reg ?_)
     simp only [go_sem,binC,e1,e7]
     refine seq_cond (t := true) (by simp only [go_sem,binC]; rw [decide_eq_true (by omega)]) ?_
     simp only [go_sem,binC]
     refine seq_skip (seq_block (wpc_reg ?_))
     cases hm : decide ((i : Int) ∈ row.take j) with
     | true =>
       rw [hm] at e6
       have h1 := htk true hm.symm
       rw [Bool.true_or] at h1
       simp only [go_sem,binC,e6]
       simp only [go_sem,binC,out_n,thenX_n]
       refine wpc_reg ?_
       simp only [go_sem,binC,e7,hw2]
       simp only [go_sem,binC,thenX_n]
       exact ih2 (j + 1) _ (by omega) (by simp only [go_sem,binC,e0]) (by simp only [go_sem,binC,e1]) (by simp only [go_sem,binC,e5]) (by rw [<- h1]; simp only [go_sem,binC]) (by simp only [go_sem,binC])
     | false =>
       rw [hm] at e6
       have h1 := htk false hm.symm
       rw [Bool.false_or] at h1
       simp only [go_sem,binC,e6,e0,e7]
       refine ⟨⟨by omega,by omega⟩,?_⟩
       simp only [go_sem,binC,Int.toNat_natCast,Nat.mul_one,hg,e5]
       simp only [go_sem,binC,out_n,thenX_n]
       refine wpc_reg ?_
       simp only [go_sem,binC,e7,hw2]
       simp only [go_sem,binC,thenX_n]
       exact ih2 (j + 1) _ (by omega) (by simp only [go_sem,binC,e0]) (by simp only [go_sem,binC,e1]) (by simp only [go_sem,binC,e5]) (by rw [<- h1]; simp only [go_sem,binC]) (by simp only [go_sem,binC])
end Go.Proofs.YtbjeldblaclpnaaGreatI
end
section
set_option linter.unusedVariables false
set_option linter.unusedSimpArgs false
namespace Go.Proofs.YtbjeldblaclpnaaGreatI
open Go Go.RowKit
def c_pclone : IFn := ⟨1,10,[.cell true 2 2],
 .seq (.reg none [⟨some 1,none,.box (.t 0)⟩,⟨some 2,none,.new [(.slice none 0 0),(.slice none 0 0)]⟩])
 (.seq (.reg (some 5) [⟨some 3,none,.fad 0 (.t 1)⟩,⟨some 4,none,.load false 1 (.t 3)⟩,⟨some 5,none,.app 2 57 16 false (.c (.slice none 0 0)) (.t 4)⟩,
   ⟨some 6,none,.fad 1 (.t 1)⟩,⟨some 7,none,.load false 1 (.t 6)⟩,⟨some 8,none,.call .k (.f 71) [.t 7]⟩,
   ⟨some 9,none,.build [(.slice none 0 0),(.slice none 0 0)] [(0,1,(.t 5)),(1,1,(.t 8))]⟩,⟨none,none,.store 2 (.t 2) (.t 9)⟩])
 (.ret))⟩
def okS (k : Nat) (s : Shal) : Prop := varB k s.2.1 = true /\ (valB k s.2.2.1 = true \/ s.2.2.1 = (0,0,0)) /\ (s.1 = 1 -> valB k s.2.2.1 = true) /\ (s.1 ≠ 1 -> s.2.2.1 = (0,0,0)) /\ (s.1 = 3 -> 0 <= s.2.2.2 /\ s.2.2.2 <= 2)
theorem stepB_okS (k : Nat) : ∀ (n : Nat) (d : Int) (s : TStep n),stepB k n d s = true -> ∀ t ∈ allT n s,okS k t
 | 0,_,s,_ => s.elim
 | n + 1,d,(kd,vr,v,ho,th,el),h => by
   intro t ht
   rw [allT_succ,List.mem_cons,List.mem_append] at ht
   have h0 := h
   simp only [stepB,Bool.and_eq_true,decide_eq_true_eq] at h
   obtain ⟨⟨h1,hv⟩,h⟩ := h
   have hnil : ((th.length : Int) + el.length = 0) -> t ∈ allL n th \/ t ∈ allL n el -> False := fun h0 hm => by
    obtain rfl : th = [] := List.eq_nil_of_length_eq_zero (by omega)
    obtain rfl : el = [] := List.eq_nil_of_length_eq_zero (by omega)
    simp [allL] at hm
   have go : ∀ l : List (TStep n),l.all (stepB k n (d - 1)) = true -> t ∈ allL n l -> okS k t := fun l hl hm => by
    unfold allL at hm
    rw [List.mem_flatten] at hm
    obtain ⟨ts,h3,h4⟩ := hm
    obtain ⟨a,h5,rfl⟩ := List.mem_map.1 h3
    exact stepB_okS k n (d - 1) a (List.all_eq_true.1 hl a h5) t h4
   by_cases k1 : kd = 1
   ·rw [if_pos k1] at h
    simp only [Bool.and_eq_true,decide_eq_true_eq] at h
    rcases ht with rfl | ht
    ·exact ⟨hv,.inl h.1.1,fun _ => h.1.1,fun hh => absurd k1 hh,fun hh => by simp only at hh; omega⟩
    ·exact (hnil h.2 ht).elim
   rw [if_neg k1] at h
   by_cases k3 : kd = 3
   ·rw [if_pos k3] at h
    simp only [Bool.and_eq_true,decide_eq_true_eq,inB_iff] at h
    rcases ht with rfl | ht
    ·exact ⟨hv,.inr h.1.1,fun hh => absurd hh k1,fun _ => h.1.1,fun _ => h.1.2⟩
    ·exact (hnil h.2 ht).elim
   rw [if_neg k3] at h
   by_cases k2 : kd = 2
   ·rw [if_pos k2] at h
    simp only [Bool.and_eq_true,decide_eq_true_eq] at h
    rcases ht with rfl | ht | ht
    ·exact ⟨hv,.inr h.1.1.1,fun hh => absurd hh k1,fun _ => h.1.1.1,fun hh => absurd hh k3⟩
    ·exact go th h.1.2 ht
    ·exact go el h.2 ht
   ·rw [if_neg k2] at h; cases h
theorem progB_okS {n : Nat} {ls : List (Int × Int)} {l : List (TStep n)} (h : progB n (ls,l) = true) : ∀ t ∈ allL n l,okS ls.length t := by
 simp only [progB,Bool.and_eq_true,decide_eq_true_eq,List.all_eq_true] at h
 intro t ht
 unfold allL at ht
 rw [List.mem_flatten] at ht
 obtain ⟨ts,h3,h4⟩ := ht
 obtain ⟨a,h5,rfl⟩ := List.mem_map.1 h3
 exact stepB_okS _ n 3 a (h.1.2 a h5) t h4
def nameO (row : List Int) (x : Int) : Int := row.getD x.toNat 0
theorem set8 {cs l8 : List Value} {o j : Nat} {v : Value} (hl : l8.length = 8) (h : (cs.drop o).take 8 = l8) (ho : o + 8 <= cs.length) (hj : j < 8) : cs.set (o + j) v = setL cs o (l8.set j v) := by
 refine List.ext_getElem? fun m => ?_
 have hr := setL_get (l8.set j v) cs o m (by rw [List.length_set,hl]; exact ho)
 rw [hr,List.length_set,hl]
 by_cases hm : o <= m /\ m < o + 8
 ·rw [if_pos hm]
  obtain ⟨q,rfl⟩ : ∃ q,m = o + q := ⟨m - o,by omega⟩
  rw [Nat.add_sub_cancel_left]
  by_cases hjq : j = q
  ·subst hjq
   rw [List.getElem?_set_self (by omega),List.getElem?_set_self (by omega)]
  ·rw [List.getElem?_set_ne (by omega),List.getElem?_set_ne hjq,<- h,List.getElem?_take,if_pos (by omega),List.getElem?_drop]
 ·rw [if_neg hm,List.getElem?_set_ne (by omega)]
theorem gc_k {H : Heap} {b es et o j : Nat} {ap so : Bool} {cs a : List Value} {v : Value} (hb : H[b]? = some ⟨cs,es,et,ap,so⟩) (ho : o + 8 <= cs.length) (h : (cs.drop o).take 8 = a) (hv : a[j]? = some v) (hj : j < 8) : getCells H b (o + j) 1 = some [v] := by
 unfold getCells
 rw [hb]
 simp only
 rw [if_pos (by omega)]
 congr 1
 have h2 : cs[o + j]? = some v := by
  rw [<- h,List.getElem?_take,if_pos hj,List.getElem?_drop] at hv
  exact hv
 have h3 := (List.getElem?_eq_some_iff.1 h2)
 rw [List.drop_eq_getElem_cons h3.1,List.take_succ_cons,List.take_zero,h3.2]
end Go.Proofs.YtbjeldblaclpnaaGreatI
end
section
set_option linter.unusedVariables false
set_option linter.unusedSimpArgs false
namespace Go.Proofs.YtbjeldblaclpnaaGreatI
open Go Go.RowKit
def LabV (lo : Nat) (H : Heap) (v : Value) (ls : List (Int × Int)) : Prop := (v = nilS /\ ls = []) \/ ∃ b,lo <= b /\ v = sli b 0 ls.length /\ ls ≠ [] /\ H[b]? = some ⟨ls.flatMap fp,2,57,true,true⟩
theorem LabV.one {lo : Nat} {H : Heap} {v : Value} {ls : List (Int × Int)} (h : LabV lo H v ls) : one v = true := by
 rcases h with ⟨rfl,_⟩ | ⟨b,_,rfl,_⟩ <;> rfl
theorem LabV.shape {lo : Nat} {H : Heap} {v : Value} {ls : List (Int × Int)} (h : LabV lo H v ls) : ∃ a,v = .slice a ls.length ls.length := by
 rcases h with ⟨rfl,rfl⟩ | ⟨b,_,rfl,_⟩
 ·exact ⟨none,rfl⟩
 ·exact ⟨_,rfl⟩
theorem LabV.keep {lo lo' : Nat} {H H' : Heap} {v : Value} {ls : List (Int × Int)} {xs : List Nat} (h : LabV lo H v ls) (hl : lo' <= lo) (hx : AgX xs H H') (hn : ∀ b,lo <= b -> H[b]? = some ⟨ls.flatMap fp,2,57,true,true⟩ -> b ∉ xs) : LabV lo' H' v ls := by
 rcases h with h | ⟨b,h1,h2,h3,h4⟩
 ·exact .inl h
 ·exact .inr ⟨b,by omega,h2,h3,hx.get h4 (hn b h1 h4)⟩
theorem LabV.sl {lo : Nat} {H : Heap} {v : Value} {ls : List (Int × Int)} (h : LabV lo H v ls) (hr : ∀ p ∈ ls,RgI p.1 /\ RgI p.2) (hl : ls.length <= 1000) : SlR Co.p2 (vw 0 H) v ls := by
 rcases h with h | ⟨b,h1,h2,h3,h4⟩
 ·exact GLi.slP (es := 2) (lo := lo) (et := 57) (.inl h) hr hl
 ·exact GLi.slP (es := 2) (.inr ⟨b,true,h1,h2,h3,h4⟩) hr hl
theorem p2_rg {V : Vw} {v : Value} {l : List (Int × Int)} (h : SlR Co.p2 V v l) : ∀ w ∈ l,RgI w.1 /\ RgI w.2 := by
 intro w hw
 obtain ⟨i,hi,rfl⟩ := List.getElem_of_mem hw
 obtain ⟨_,a,rfl,h2⟩ := h
 rcases h2 with h2 | ⟨b,o,_,h2⟩
 ·rw [h2] at hi; simp at hi
 ·obtain ⟨cs,_,_,_,_,⟨_,r1⟩,⟨_,r2⟩⟩ := h2 i hi
  exact ⟨r1,r2⟩
theorem sl_p2s {H : Heap} {v : Value} {l : List (Int × Int)} (h : SlR Co.p2 (vw 0 H) v l) (hl : l ≠ []) : ∃ b o,v = .slice (some ⟨b,o,none⟩) l.length l.length /\ getCells H b o (l.length * 2) = some (l.flatMap fp) := by
 obtain ⟨b,o,ys,h1,h3,h2,h4⟩ := sl_cells (w := 2) rfl h hl
 refine ⟨b,o,h1,?_⟩
 have hfl := flat_len (fl := fp) (w := 2) (fun _ => rfl) l
 have : ys = l.flatMap fp := by
  refine List.ext_getElem? fun m => ?_
  by_cases hm : m < l.length * 2
  ·have hi : m / 2 < l.length := by omega
   obtain ⟨_,_,e1,⟨rfl,_⟩,⟨rfl,_⟩⟩ := h4 (m / 2) hi
   have q1 : ((ys.drop (m / 2 * 2)).take 2)[m % 2]? = ys[m]? := by
    rw [List.getElem?_take,if_pos (by omega),List.getElem?_drop]
    congr 1; omega
   have q2 : (l.flatMap fp)[m]? = (fp l[m / 2])[m % 2]? := by
    have e : l.flatMap fp = (l.take (m / 2)).flatMap fp ++ (fp l[m / 2] ++ (l.drop (m / 2 + 1)).flatMap fp) := by
     conv => lhs; rw [<- List.take_append_drop (m / 2) l,List.drop_eq_getElem_cons hi]
     rw [List.flatMap_append,List.flatMap_cons]
    have hlt : ((l.take (m / 2)).flatMap fp).length = m / 2 * 2 := by rw [flat_len (fl := fp) (w := 2) (fun _ => rfl),List.length_take]; omega
    rw [e,List.getElem?_append_right (by omega),hlt,List.getElem?_append_left (by show m - m / 2 * 2 < 2; omega)]
    congr 1; omega
   rw [<- q1,e1,q2]
   rfl
  ·rw [List.getElem?_eq_none (by omega),List.getElem?_eq_none (by omega)]
 rw [<- this]
 exact h3
def PCloneOk (F : Nat -> Option IFn) (f : Nat) : Prop := ∀ (H : Heap) (n : Nat) (lv sv : Value) (ls : List (Int × Int)) (l : List (TStep n)),SlR Co.p2 (vw 0 H) lv ls -> SlR (Co.step n) (vw 0 H) sv l -> (Co.prog n).sm (ls,l) -> ∃ lv' sv' B H',KC F f [.agg #[lv,sv]] H (.agg #[lv',sv']) H' /\ AgX [] H H' /\ LabV H.length H' lv' ls /\ OwnT H.length H' n sv' l B
theorem pclone_ok {F : Nat -> Option IFn} {f : Nat} (hf : F f = some c_pclone) (gc : ∀ n,CloneOk F 71 n) : PCloneOk F f := by
 intro H n lv sv ls l r1 r2 hsm
 suffices h : ∃ w H',KC F f [.agg #[lv,sv]] H w H' /\ (∃ lv' sv' B,w = .agg #[lv',sv'] /\ AgX [] H H' /\ LabV H.length H' lv' ls /\ OwnT H.length H' n sv' l B) by
  obtain ⟨w,H',h1,lv',sv',B,rfl,h2⟩ := h
  exact ⟨lv',sv',B,H',h1,h2⟩
 have osv : one sv = true := by obtain ⟨_,a,rfl,_⟩ := r2; rfl
 have olv : one lv = true := by obtain ⟨_,a,rfl,_⟩ := r1; rfl
 have hls : ls.length <= 1048576 := hsm.1.1
 refine KC.mk hf rfl ?_
 refine seq_reg ?_
 simp only [go_sem,binC,osv,olv]
 refine wpc_gen fun H1 hH1 => ?_
 have hx1 : AgX [] H H1 := hH1 ▸ AgX.app [] _ _
 have hb1 : H1[H.length]? = some ⟨[lv,sv],0,0,false,true⟩ := hH1 ▸ get_new0 _ _
 have hb2 : H1[H.length + 1]? = some ⟨[nilS,nilS],0,0,false,true⟩ := hH1 ▸ get_new _ _ 1
 have hln : H1.length = H.length + 2 := by rw [hH1]; simp
 clear hH1
 have hl1 := hx1.1
 have happ : ∀ (e : Env) (K : Value -> Heap -> Prop),e 4 = lv -> (∀ lv' L,LabV H.length (H1 ++ L) lv' ls -> K lv' (H1 ++ L)) -> wpOp F H1.length (.app 2 57 16 false (.c (.slice none 0 0)) (.t 4)) e H1 K := by
  intro e K e4 k
  by_cases hl0 : ls = []
  ·obtain ⟨_,a,rfl,_⟩ := r1
   subst hl0
   refine op_app_zero _ _ _ _ _ rfl (by (simp only [go_sem,binC,e4]) <;> rfl) ?_
   have := k nilS []
   rw [List.append_nil] at this
   exact this (.inl ⟨rfl,rfl⟩)
  ·obtain ⟨b,o,rfl,hg⟩ := sl_p2s (r1.mono (agx_sub hx1)) hl0
   have hne : ls.length ≠ 0 := fun h => hl0 (List.eq_nil_of_length_eq_zero h)
   refine op_app_nil _ _ _ _ _ rfl (by (simp only [go_sem,binC,e4]) <;> rfl) hne hg (by omega) (by omega) ?_
   exact k _ _ (.inr ⟨H1.length,hl1,rfl,hl0,get_new0 _ _⟩)
 refine seq_regD ?_
 simp only [go_sem,binC,gc_of hb1,inBlk_some]
 refine happ _ _ (by simp only [go_sem,binC]) fun lv' L hL => ?_
 have hx2 : AgX [] H1 (H1 ++ L) := AgX.app [] _ _
 have hb12 := hx2.get hb1 (by simp)
 simp only [go_sem,binC,gc_of hb12,inBlk_some]
 obtain ⟨sv',B,H3,k3,hx3,o3⟩ := gc n (H1 ++ L) sv l (r2.mono (agx_sub (hx1.tr hx2))) hsm.2
 obtain ⟨la',rfl⟩ := hL.shape
 obtain ⟨_,sa',rfl⟩ := id o3.len
 refine op_callK (by simp only [go_sem,binC]; exact k3) ?_
 have hb23 := (hx2.tr hx3).get hb2 (by simp)
 have hb23l := (List.getElem?_eq_some_iff.1 hb23).1
 simp only [go_sem,binC,hb23]
 have hl3 := hx3.1
 have hl2 := hx2.1
 have hxs : AgX [H.length + 1] H3 (H3.set (H.length + 1) ⟨[.slice la' ls.length ls.length,.slice sa' l.length l.length],0,0,false,true⟩) := AgX.set _ _ _
 refine wpc_ret ⟨Or.inr rfl,.agg #[.slice la' ls.length ls.length,.slice sa' l.length l.length],?_,_,_,B,rfl,((hx1.tr hx2).tr hx3).setN (by omega) _,?_,?_⟩
 ·simp [resV,resL,res1,putE_get,ptr,gc_set hb23l,inBlk_some,valOf]
 ·exact (hL.keep (Nat.le_refl _) hx3 (fun b _ _ => by simp)).keep (Nat.le_refl _) hxs (fun b _ h1 h2 => by simp only [List.mem_singleton] at h2; subst h2; rw [hb23] at h1; simp at h1)
 ·refine o3.keep (by omega) fun b hb => hxs.2 b (o3.ge b hb).2.1 (fun h => ?_)
  have := (o3.ge b hb).1
  simp only [List.mem_singleton] at h
  have hq : (H1 ++ L).length = H1.length + L.length := List.length_append
  omega
end Go.Proofs.YtbjeldblaclpnaaGreatI
end
section
set_option linter.unusedVariables false
set_option linter.unusedSimpArgs false
namespace Go.Proofs.YtbjeldblaclpnaaGreatI
open Go Go.RowKit
def turnB (n : Nat) (m : Nat -> Nat) (ls : List (Int × Int)) (l : List (TStep n)) (row : List Int) : Bool := progB n (ls,l) && rowB row (m ls.length)
def turnO (n : Nat) (m : Nat -> Nat) (lab : List Int -> List (Int × Int) -> List (Int × Int)) (T : List Int -> Shal -> Shal) (ls : List (Int × Int)) (l : List (TStep n)) (row : List Int) : List (Int × Int) × List (TStep n) := if turnB n m ls l row = true then (lab row ls,l.map (mapT (T row) n)) else ([],[])
def TurnPOk (F : Nat -> Option IFn) (f : Nat) (m : Nat -> Nat) (lab : List Int -> List (Int × Int) -> List (Int × Int)) (T : List Int -> Shal -> Shal) : Prop := ∀ (H : Heap) (n : Nat) (lv sv w : Value) (ls : List (Int × Int)) (l : List (TStep n)) (row : List Int),SlR Co.p2 (vw 0 H) lv ls -> SlR (Co.step n) (vw 0 H) sv l -> (Co.prog n).sm (ls,l) -> SlR Co.int (vw 0 H) w row ->
 ∃ lv' sv' H',KC F f [.agg #[lv,sv],w] H (.tuple #[.agg #[lv',sv'],.bool (turnB n m ls l row)]) H' /\ AgX [] H H' /\ SlR Co.p2 (vw 0 H') lv' (turnO n m lab T ls l row).1 /\ SlR (Co.step n) (vw 0 H') sv' (turnO n m lab T ls l row).2
theorem flat_set : ∀ (l : List (Int × Int)) (i : Nat) (x : Int × Int),i < l.length -> setL (l.flatMap fp) (i * 2) (fp x) = (l.set i x).flatMap fp := by
 intro l i x hi
 have hfl := flat_len (fl := fp) (w := 2) (fun _ => rfl) l
 rw [setL_eq _ _ _ (by show i * 2 + 2 <= _; omega)]
 have e : l.flatMap fp = (l.take i).flatMap fp ++ (fp l[i] ++ (l.drop (i + 1)).flatMap fp) := by
  conv => lhs; rw [<- List.take_append_drop i l,List.drop_eq_getElem_cons hi]
  rw [List.flatMap_append,List.flatMap_cons]
 have hlt : ((l.take i).flatMap fp).length = i * 2 := by rw [flat_len (fl := fp) (w := 2) (fun _ => rfl),List.length_take]; omega
 rw [List.set_eq_take_append_cons_drop,if_pos hi,List.flatMap_append,List.flatMap_cons,e]
 rw [List.take_append_of_le_length (by omega),List.take_of_length_le (by omega),List.drop_append,List.drop_of_length_le (by rw [hlt]; show _ <= i * 2 + 2; omega),hlt]
 rw [show i * 2 + (fp x).length - i * 2 = 2 from by show i * 2 + 2 - i * 2 = 2; omega]
 rw [List.nil_append,List.append_assoc]
 rfl
theorem LabV.blk {lo : Nat} {H : Heap} {v : Value} {ls : List (Int × Int)} (h : LabV lo H v ls) {b : Nat} (hb : b ∈ blkOf v) : lo <= b /\ v = sli b 0 ls.length /\ H[b]? = some ⟨ls.flatMap fp,2,57,true,true⟩ := by
 rcases h with ⟨rfl,_⟩ | ⟨b',q1,rfl,q3,q4⟩
 ·cases hb
 ·simp only [blkOf,sli,List.mem_singleton] at hb
  subst hb
  exact ⟨q1,rfl,q4⟩
end Go.Proofs.YtbjeldblaclpnaaGreatI
end
section
set_option linter.unusedVariables false
set_option linter.unusedSimpArgs false
namespace Go.Proofs.YtbjeldblaclpnaaGreatI
open Go Go.RowKit
def turnH (row : List Int) (s : Shal) : Shal := (s.1,s.2.1,s.2.2.1,if s.1 = 3 then nameO row s.2.2.2 else s.2.2.2)
end Go.Proofs.YtbjeldblaclpnaaGreatI
end
section
set_option linter.unusedVariables false
set_option linter.unusedSimpArgs false
namespace Go.Proofs.YtbjeldblaclpnaaGreatI
open Go Go.RowKit
theorem blk_slP {es et b : Nat} {ap so : Bool} {H : Heap} {l : List (Int × Int)} (h : H[b]? = some ⟨l.flatMap fp,es,et,ap,so⟩) (hr : ∀ p ∈ l,RgI p.1 /\ RgI p.2) (hl : l.length <= 1000) : SlR Co.p2 (vw 0 H) (sli b 0 l.length) l := by
 by_cases h0 : l = []
 ·subst h0; exact ⟨by simp,_,rfl,.inl rfl⟩
 ·have hfl := flat_len (fl := fp) (w := 2) (fun _ => rfl) l
  refine ⟨by omega,_,rfl,.inr ⟨b,0,rfl,fun i hi => ⟨fp l[i],?_,⟨[.int .i64 l[i].1],[.int .i64 l[i].2],rfl,⟨rfl,(hr _ (List.getElem_mem hi)).1⟩,⟨rfl,(hr _ (List.getElem_mem hi)).2⟩⟩⟩⟩⟩
  unfold rng vw
  rw [if_pos (Nat.zero_le _),h]
  simp only [Option.map_some,Nat.zero_add,show Co.p2.w = 2 from rfl]
  rw [if_pos (by omega)]
  congr 1
  have : l.flatMap fp = (l.take i).flatMap fp ++ (fp l[i] ++ (l.drop (i + 1)).flatMap fp) := by
   conv => lhs; rw [<- List.take_append_drop i l,List.drop_eq_getElem_cons hi]
   rw [List.flatMap_append,List.flatMap_cons]
  rw [this]
  have hlt : ((l.take i).flatMap fp).length = i * 2 := by rw [flat_len (fl := fp) (w := 2) (fun _ => rfl),List.length_take]; omega
  rw [List.drop_append,List.drop_of_length_le (by omega),hlt,Nat.sub_self,List.nil_append,List.drop_zero]
  rfl
end Go.Proofs.YtbjeldblaclpnaaGreatI
end
section
set_option linter.unusedVariables false
set_option linter.unusedSimpArgs false
namespace Go.Proofs.YtbjeldblaclpnaaGreatI
open Go Go.RowKit
theorem mapT_succ (T : Shal -> Shal) (n : Nat) (k x : Int) (v : Int × Int × Int) (g : Int) (th el : List (TStep n)) : mapT T (n + 1) (k,x,v,g,th,el) = ((T (k,x,v,g)).1,(T (k,x,v,g)).2.1,(T (k,x,v,g)).2.2.1,(T (k,x,v,g)).2.2.2,th.map (mapT T n),el.map (mapT T n)) := rfl
theorem cntT_map (T : Shal -> Shal) : ∀ (n : Nat) (s : TStep n),cntT n (mapT T n s) = cntT n s
 | 0,s => s.elim
 | n + 1,(k,x,v,g,th,el) => by
   have go : ∀ l : List (TStep n),((l.map (mapT T n)).map (cntT n)) = l.map (cntT n) := fun l => by
    rw [List.map_map]
    exact List.map_congr_left fun a _ => cntT_map T n a
   rw [mapT_succ]
   show 1 + ((((th.map (mapT T n)).map (cntT n))).sum + (((el.map (mapT T n)).map (cntT n))).sum) = _
   rw [go,go]
   rfl
theorem cntL_map (T : Shal -> Shal) {n : Nat} (l : List (TStep n)) : cntL n (l.map (mapT T n)) = cntL n l := by
 unfold cntL
 rw [List.map_map]
 congr 1
 exact List.map_congr_left fun a _ => cntT_map T n a
structure GoodT (k : Nat) (T : Shal -> Shal) : Prop where
 kd : ∀ s,(T s).1 = s.1
 vr : ∀ s,varB k s.2.1 = true -> varB k (T s).2.1 = true
 vl : ∀ s,valB k s.2.2.1 = true -> valB k (T s).2.2.1 = true
 v0 : ∀ s,s.2.2.1 = (0,0,0) -> (T s).2.2.1 = (0,0,0)
 h0 : ∀ s,s.1 ≠ 3 -> (T s).2.2.2 = s.2.2.2
 h3 : ∀ s,s.1 = 3 -> inB s.2.2.2 0 2 = true -> inB (T s).2.2.2 0 2 = true
theorem stepB_map {k : Nat} {T : Shal -> Shal} (hT : GoodT k T) : ∀ (n : Nat) (d : Int) (s : TStep n),stepB k n d s = true -> stepB k n d (mapT T n s) = true
 | 0,_,s,_ => s.elim
 | n + 1,d,(kd,vr,v,ho,th,el),h => by
   have go : ∀ l : List (TStep n),l.all (stepB k n (d - 1)) = true -> (l.map (mapT T n)).all (stepB k n (d - 1)) = true := fun l hl => by
    rw [List.all_eq_true] at hl ⊢
    intro a ha
    obtain ⟨a',ha',rfl⟩ := List.mem_map.1 ha
    exact stepB_map hT n (d - 1) a' (hl a' ha')
   have q0 := hT.kd (kd,vr,v,ho)
   have q1 := hT.vr (kd,vr,v,ho)
   have q2 := hT.vl (kd,vr,v,ho)
   have q3 := hT.v0 (kd,vr,v,ho)
   have q4 := hT.h0 (kd,vr,v,ho)
   have q5 := hT.h3 (kd,vr,v,ho)
   rw [mapT_succ]
   generalize T (kd,vr,v,ho) = t at *
   obtain ⟨kd',vr',v',ho'⟩ := t
   simp only at q0 q1 q2 q3 q4 q5 ⊢
   subst q0
   simp only [stepB,Bool.and_eq_true,decide_eq_true_eq] at h ⊢
   obtain ⟨⟨h1,hv⟩,h⟩ := h
   refine ⟨⟨h1,q1 hv⟩,?_⟩
   by_cases k1 : kd' = 1
   ·rw [if_pos k1] at h ⊢
    simp only [Bool.and_eq_true,decide_eq_true_eq,List.length_map] at h ⊢
    exact ⟨⟨q2 h.1.1,by rw [q4 (by omega)]; exact h.1.2⟩,h.2⟩
   rw [if_neg k1] at h ⊢
   by_cases k3 : kd' = 3
   ·rw [if_pos k3] at h ⊢
    simp only [Bool.and_eq_true,decide_eq_true_eq,List.length_map] at h ⊢
    exact ⟨⟨q3 h.1.1,q5 k3 h.1.2⟩,h.2⟩
   rw [if_neg k3] at h ⊢
   by_cases k2 : kd' = 2
   ·rw [if_pos k2] at h ⊢
    simp only [Bool.and_eq_true,decide_eq_true_eq] at h ⊢
    exact ⟨⟨⟨q3 h.1.1.1,by rw [q4 (by omega)]; exact h.1.1.2⟩,go th h.1.2⟩,go el h.2⟩
   ·rw [if_neg k2] at h; cases h
theorem progB_map {n : Nat} {ls ls' : List (Int × Int)} {l : List (TStep n)} {T : Shal -> Shal} (hT : GoodT ls.length T) (h : progB n (ls,l) = true) (hl : ls'.length = ls.length) (hls : ls'.all labB = true) : progB n (ls',l.map (mapT T n)) = true := by
 simp only [progB,Bool.and_eq_true,decide_eq_true_eq] at h ⊢
 obtain ⟨⟨⟨h1,h2⟩,h3⟩,h4⟩ := h
 refine ⟨⟨⟨by rw [hl]; exact h1,hls⟩,?_⟩,by rw [cntL_map]; exact h4⟩
 rw [hl,List.all_eq_true]
 intro a ha
 obtain ⟨a',ha',rfl⟩ := List.mem_map.1 ha
 exact stepB_map hT n 3 a' (List.all_eq_true.1 h3 a' ha')
theorem step_sm_map {T : Shal -> Shal} : ∀ (n : Nat) (s : TStep n),(Co.step n).sm s -> (Co.step n).sm (mapT T n s)
 | 0,s,_ => s.elim
 | n + 1,(k,x,v,g,th,el),h => by
   have go : ∀ l : List (TStep n),(Co.sl (Co.step n)).sm l -> (Co.sl (Co.step n)).sm (l.map (mapT T n)) := fun l hl => ⟨by rw [List.length_map]; exact hl.1,fun a ha => by
    obtain ⟨a',ha',rfl⟩ := List.mem_map.1 ha
    exact step_sm_map n a' (hl.2 a' ha')⟩
   obtain ⟨h1,h2,h3,h4,h5,h6⟩ := h
   exact ⟨trivial,trivial,⟨trivial,trivial,trivial⟩,trivial,go th h5,go el h6⟩
theorem steps_sm_map {T : Shal -> Shal} {n : Nat} {l : List (TStep n)} (hl : (Co.sl (Co.step n)).sm l) : (Co.sl (Co.step n)).sm (l.map (mapT T n)) := ⟨by rw [List.length_map]; exact hl.1,fun a ha => by
 obtain ⟨a',ha',rfl⟩ := List.mem_map.1 ha
 exact step_sm_map n a' (hl.2 a' ha')⟩
theorem labs_sm {ls : List (Int × Int)} (h : ls.length <= 1048576) : (Co.sl Co.p2).sm ls := ⟨h,fun a _ => ⟨trivial,trivial⟩⟩
theorem nameO_get {row : List Int} {k : Nat} (hr : rowB row k = true) {x : Int} (hx : 0 <= x /\ x < k) : ∃ h : x.toNat < row.length,nameO row x = row[x.toNat] /\ 0 <= nameO row x /\ nameO row x < k := by
 obtain ⟨h1,h2,h3⟩ := rowB_iff.1 hr
 have h : x.toNat < row.length := by omega
 have e : nameO row x = row[x.toNat] := by
  unfold nameO
  rw [List.getD_eq_getElem?_getD,List.getElem?_eq_getElem h]
  rfl
 have := h2 _ (List.getElem_mem h)
 exact ⟨h,e,by omega,by omega⟩
end Go.Proofs.YtbjeldblaclpnaaGreatI
end
section
set_option linter.unusedVariables false
set_option linter.unusedSimpArgs false
namespace Go.Proofs.YtbjeldblaclpnaaGreatI
open Go Go.RowKit
def c_turned : IFn := ⟨2,24,[.t 4],
 .seq (.reg none [⟨some 4,none,.mov (.c (.int .i64 0))⟩])
 (.seq (.reg none [⟨some 5,none,.mov (.c (.int .i64 0))⟩])
 (.seq (.seq (.reg none [⟨some 8,none,.mov (.t 1)⟩,⟨some 9,none,.len (.t 8)⟩,⟨some 10,none,.mov (.c (.int .i64 0))⟩])
  (.block 0 (.loop (.seq (.reg none [⟨some 11,none,.bin .lss (.t 10) (.t 9)⟩])
   (.seq (.cond (.t 11) (.skip) (.exit 0))
   (.seq (.block 1 (.seq (.reg none [⟨some 12,none,.mov (.t 10)⟩,⟨some 13,none,.iad 1 (.t 8) (.t 10)⟩,⟨some 14,none,.load false 1 (.t 13)⟩,
      ⟨some 6,none,.mov (.t 12)⟩,⟨some 7,none,.mov (.t 14)⟩])
    (.seq (.reg none [⟨some 15,none,.mov (.t 0)⟩,⟨some 16,none,.mov (.t 6)⟩,⟨some 17,none,.call .q (.f 45) [.t 15,.t 16]⟩])
    (.cond (.t 17) (.reg none [⟨some 18,none,.mov (.t 5)⟩,⟨some 19,none,.mov (.t 7)⟩,⟨some 20,none,.bin .shl (.c (.int .i64 1)) (.t 19)⟩,
      ⟨some 21,none,.bin .or (.t 18) (.t 20)⟩,⟨some 5,none,.mov (.t 21)⟩]) (.skip)))))
   (.reg none [⟨some 22,none,.bin .add (.t 10) (.c (.int .i64 1))⟩,⟨some 10,none,.mov (.t 22)⟩])))))))
 (.seq (.reg none [⟨some 23,none,.mov (.t 5)⟩,⟨some 4,none,.mov (.t 23)⟩])
 (.ret))))⟩
def c_sTSet : IFn := ⟨2,30,[.t 4],
 .seq (.reg none [⟨some 4,none,.mov (.c (.int .i64 0))⟩])
 (.seq (.reg none [⟨some 5,none,.mov (.c (.int .i64 0))⟩])
 (.seq (.seq (.reg none [⟨some 6,none,.mov (.c (.int .i64 0))⟩])
  (.block 0 (.loop (.seq (.seq (.reg none [⟨some 7,none,.mov (.t 6)⟩,⟨some 8,none,.bin .lss (.t 7) (.c (.int .i64 3))⟩,⟨some 9,none,.mov (.t 8)⟩,
     ⟨some 10,some (9,true),.mov (.t 0)⟩,⟨some 11,some (9,true),.call .q (.f 35) [.t 10]⟩,⟨some 12,none,.pick (.t 9) (.t 11) (.c (.bool false))⟩,
     ⟨some 13,none,.mov (.t 12)⟩,⟨some 14,some (13,true),.mov (.t 1)⟩,⟨some 15,some (13,true),.call .q (.f 36) [.t 14,(.c (.int .i64 3))]⟩,
     ⟨some 16,none,.pick (.t 13) (.t 15) (.c (.bool false))⟩])
    (.cond (.t 16) (.skip) (.exit 0)))
   (.seq (.block 1 (.seq (.reg none [⟨some 19,none,.mov (.t 0)⟩,⟨some 20,none,.mov (.t 6)⟩,⟨some 21,none,.call .q (.f 37) [.t 19,.t 20]⟩])
    (.cond (.t 21) (.reg none [⟨some 22,none,.mov (.t 5)⟩,⟨some 23,none,.mov (.t 1)⟩,⟨some 24,none,.mov (.t 6)⟩,⟨some 25,none,.iad 1 (.t 23) (.t 24)⟩,
      ⟨some 26,none,.load false 1 (.t 25)⟩,⟨some 27,none,.bin .shl (.c (.int .i64 1)) (.t 26)⟩,⟨some 28,none,.bin .add (.t 22) (.t 27)⟩,
      ⟨some 5,none,.mov (.t 28)⟩]) (.skip))))
   (.reg none [⟨some 17,none,.mov (.t 6)⟩,⟨some 18,none,.bin .add (.t 17) (.c (.int .i64 1))⟩,⟨some 6,none,.mov (.t 18)⟩]))))))
 (.seq (.reg none [⟨some 29,none,.mov (.t 5)⟩,⟨some 4,none,.mov (.t 29)⟩])
 (.ret))))⟩
theorem row3 {row : List Int} (h : rowB row 3 = true) : row = [0,1,2] \/ row = [0,2,1] \/ row = [1,0,2] \/ row = [1,2,0] \/ row = [2,0,1] \/ row = [2,1,0] := by
 obtain ⟨h1,h2,h3⟩ := rowB_iff.1 h
 match row,h1 with
 | [a,b,c],_ =>
   have ha := h2 a (by simp)
   have hb := h2 b (by simp)
   have hc := h2 c (by simp)
   simp only [List.nodup_cons,List.mem_cons,List.not_mem_nil,or_false,not_or,not_false_eq_true,and_true] at h3
   obtain ⟨⟨d1,d2⟩,d3,-⟩ := h3
   have qa : a = 0 \/ a = 1 \/ a = 2 := by omega
   have qb : b = 0 \/ b = 1 \/ b = 2 := by omega
   have qc : c = 0 \/ c = 1 \/ c = 2 := by omega
   rcases qa with rfl | rfl | rfl <;> rcases qb with rfl | rfl | rfl <;> rcases qc with rfl | rfl | rfl <;> first | (exfalso; omega) | simp
def tsI (row : List Int) (s : Int) : Nat -> Int
 | 0 => 0
 | i + 1 => tsI row s i + (if hasB s i = true then 2 ^ (row.getD i 0).toNat else 0)
def tset (row : List Int) (s : Int) : Int := tsI row s 3
theorem set8c {s : Int} (h : 0 <= s /\ s <= 7) : s = 0 \/ s = 1 \/ s = 2 \/ s = 3 \/ s = 4 \/ s = 5 \/ s = 6 \/ s = 7 := by omega
theorem ts_or {row : List Int} {s : Int} {i : Nat} (hr : rowB row 3 = true) (hs : 0 <= s /\ s <= 7) (hi : i < 3) :
  IntKind.i64.wrap ((BitVec.ofInt 64 (tsI row s i) ||| BitVec.ofInt 64 (2 ^ (row.getD i 0).toNat)).toNat : Nat) = tsI row s i + 2 ^ (row.getD i 0).toNat /\ IntKind.i64.wrap (tsI row s i + 2 ^ (row.getD i 0).toNat) = tsI row s i + 2 ^ (row.getD i 0).toNat /\ IntKind.i64.wrap (1 * 2 ^ (min (row.getD i 0).toNat 64)) = 2 ^ (row.getD i 0).toNat := by
 have qi : i = 0 \/ i = 1 \/ i = 2 := by omega
 rcases row3 hr with rfl | rfl | rfl | rfl | rfl | rfl <;> rcases qi with rfl | rfl | rfl <;> rcases set8c hs with rfl | rfl | rfl | rfl | rfl | rfl | rfl | rfl <;> decide +kernel
theorem binI_or (k : IntKind) (x y : Int) : binI .or k x y = some (.int k (k.wrap ((BitVec.ofInt k.bits x ||| BitVec.ofInt k.bits y).toNat : Nat))) := rfl
theorem binI_shl {k : IntKind} {x y : Int} (h : 0 <= y) : binI .shl k x y = some (.int k (k.wrap (x * 2 ^ (min y.toNat k.bits)))) := by
 show (if y < 0 then none else _) = _
 rw [if_neg (by omega)]
theorem getD_int {l : List Int} {i : Nat} (h : i < l.length) : l.getD i 0 = l[i] := by simp [List.getD,h]
theorem turned_ok {F : Nat -> Option IFn} {f : Nat} (hf : F f = some c_turned) (gh : HasOk F 45) : ∀ (H : Heap) (s : Int) (v : Value) (row : List Int),0 <= s /\ s <= 7 -> rowB row 3 = true -> SlR Co.int (vw 0 H) v row -> QC F f [.int .i64 s,v] H (.int .i64 (tset row s)) := by
 intro H s v row hs hr r
 obtain ⟨_,a,rfl,_⟩ := id r
 obtain ⟨hr1,hr2,hr3⟩ := rowB_iff.1 hr
 refine QC.mk hf rfl ?_
 refine seq_reg ?_
 simp only [go_sem,binC]
 refine seq_reg ?_
 simp only [go_sem,binC]
 refine seq_assoc (seq_reg ?_)
 simp only [go_sem,binC]
 refine seq_block (wpc_loop ?_)
 suffices h : ∀ (k i : Nat) (e : Env),i + k = 3 -> e 0 = .int .i64 s -> e 5 = .int .i64 (tsI row s i) -> e 8 = .slice a row.length row.length -> e 9 = .int .i64 row.length -> e 10 = .int .i64 i -> W F H.length _ e H _ from
  h 3 0 _ rfl (by simp only [go_sem,binC]) (by (simp only [go_sem,binC]) <;> rfl) (by simp only [go_sem,binC]) (by simp only [go_sem,binC]) (by (simp only [go_sem,binC]) <;> rfl)
 intro k
 induction k with
 | zero =>
   intro i e hi e0 e5 e8 e9 e10
   obtain rfl : i = 3 := hi
   refine lp_step ?_
   refine seq_reg ?_
   simp only [go_sem,binC,e9,e10]
   refine seq_cond (t := false) (by simp only [go_sem,binC]; rw [decide_eq_false (by omega)]) ?_
   simp only [go_sem,binC]
   refine seq_exit ?_
   simp only [go_sem,binC,thenX_e,out_e,thenX_n]
   refine seq_reg ?_
   simp only [go_sem,binC,e5]
   exact wpc_ret ⟨Or.inr rfl,_,(by (simp only [go_sem,binC]) <;> rfl),rfl,rfl⟩
 | succ k ih =>
   intro i e hi e0 e5 e8 e9 e10
   have hil : i < row.length := by omega
   have hw1 : IntKind.i64.wrap ((i : Int) + 1) = ((i + 1 : Nat) : Int) := by rw [wrap_id (by omega) (by omega)]; omega
   obtain ⟨b,o,hv1,hg⟩ := gcI r hil
   simp only [Value.slice.injEq,and_true] at hv1
   subst hv1
   obtain ⟨t1,t2,t3⟩ := ts_or hr hs (i := i) (by omega)
   have hgd := getD_int hil
   have h0 := (hr2 _ (List.getElem_mem hil)).1
   refine lp_step ?_
   refine seq_reg ?_
   simp only [go_sem,binC,e9,e10]
   refine seq_cond (t := true) (by simp only [go_sem,binC]; rw [decide_eq_true (by omega)]) ?_
   simp only [go_sem,binC]
   refine seq_skip (seq_block (seq_reg ?_))
   simp only [go_sem,binC,e8,e10]
   refine ⟨⟨by omega,by omega⟩,?_⟩
   simp only [go_sem,binC,Int.toNat_natCast,Nat.mul_one,hg]
   refine seq_reg ?_
   simp only [go_sem,binC,e0]
   refine op_callB (by simp only [go_sem,binC,e0]; exact gh H s i hs.1 hs.2) (fun hh => ?_) (fun hh => ?_)
   ·simp only [go_sem,binC]
    refine wpc_cond (t := true) rfl ?_
    simp only [go_sem,binC]
    refine wpc_reg ?_
    rw [hgd] at t1 t2 t3
    have hsh : binI .shl .i64 1 row[i] = some (.int .i64 (2 ^ row[i].toNat)) := by rw [binI_shl h0]; exact congrArg _ (congrArg _ t3)
    have hor : binI .or .i64 (tsI row s i) (2 ^ row[i].toNat) = some (.int .i64 (tsI row s (i + 1))) := by
     rw [binI_or]
     refine congrArg _ (congrArg _ (t1.trans ?_))
     show _ = tsI row s i + (if hasB s i = true then 2 ^ (row.getD i 0).toNat else 0)
     rw [if_pos hh,hgd]
    simp only [go_sem,binC,e5,hsh,hor]
    simp only [go_sem,binC,out_n,thenX_n]
    refine wpc_reg ?_
    simp only [go_sem,binC,e10,hw1]
    simp only [go_sem,binC,thenX_n]
    exact ih (i + 1) _ (by omega) (by simp only [go_sem,binC,e0]) (by simp only [go_sem,binC]) (by simp only [go_sem,binC,e8]) (by simp only [go_sem,binC,e9]) (by simp only [go_sem,binC])
   ·simp only [go_sem,binC]
    refine wpc_cond (t := false) rfl ?_
    simp only [go_sem,binC]
    refine wpc_skip ?_
    simp only [go_sem,binC,out_n,thenX_n]
    refine wpc_reg ?_
    simp only [go_sem,binC,e10,hw1]
    simp only [go_sem,binC,thenX_n]
    have hsm : tsI row s (i + 1) = tsI row s i := by
     show tsI row s i + (if hasB s i = true then 2 ^ (row.getD i 0).toNat else 0) = _
     rw [if_neg (by rw [hh]; simp),Int.add_zero]
    exact ih (i + 1) _ (by omega) (by simp only [go_sem,binC,e0]) (by simp only [go_sem,binC,e5,hsm]) (by simp only [go_sem,binC,e8]) (by simp only [go_sem,binC,e9]) (by simp only [go_sem,binC])
def tsetO (row : List Int) (s : Int) : Int := if (inB s 0 7 && rowB row 3) = true then tset row s else 0
def TSetOk (F : Nat -> Option IFn) (f : Nat) : Prop := ∀ (H : Heap) (s : Int) (v : Value) (row : List Int),SlR Co.int (vw 0 H) v row -> QC F f [.int .i64 s,v] H (.int .i64 (tsetO row s))
theorem sTSet_ok {F : Nat -> Option IFn} {f : Nat} (hf : F f = some c_sTSet) (gh : HasOk F 37) (gs : ∀ (H : Heap) (a : Int),QC F 35 [.int .i64 a] H (.bool (inB a 0 7))) (gr : RowOk F 36) : TSetOk F f := by
 intro H s v row r
 obtain ⟨_,a,rfl,_⟩ := id r
 refine QC.mk hf rfl ?_
 refine seq_reg ?_
 simp only [go_sem,binC]
 refine seq_reg ?_
 simp only [go_sem,binC]
 refine seq_assoc (seq_reg ?_)
 simp only [go_sem,binC]
 refine seq_block (wpc_loop ?_)
 cases hS : inB s 0 7 with
 | false =>
   refine lp_step ?_
   refine seq_assoc (seq_reg ?_)
   have hd : decide ((0 : Int) < 3) = true := rfl
   simp only [go_sem,binC,hd]
   refine op_callQ (by simp only [go_sem,binC]; exact gs H s) ?_
   simp only [go_sem,binC,hS]
   refine seq_cond (t := false) rfl ?_
   simp only [go_sem,binC]
   refine seq_exit ?_
   simp only [go_sem,binC,thenX_e,out_e,thenX_n]
   refine seq_reg ?_
   simp only [go_sem,binC]
   refine wpc_ret ⟨Or.inr rfl,.int .i64 0,(by (simp only [go_sem,binC]) <;> rfl),?_,rfl⟩
   unfold tsetO
   rw [hS]
   rfl
 | true =>
 cases hR : rowB row 3 with
 | false =>
   refine lp_step ?_
   refine seq_assoc (seq_reg ?_)
   have hd : decide ((0 : Int) < 3) = true := rfl
   simp only [go_sem,binC,hd]
   refine op_callQ (by simp only [go_sem,binC]; exact gs H s) ?_
   simp only [go_sem,binC,hS]
   refine op_callQ (by simp only [go_sem,binC]; exact gr H _ row 3 (by omega) r) ?_
   simp only [go_sem,binC,hR]
   refine seq_cond (t := false) rfl ?_
   simp only [go_sem,binC]
   refine seq_exit ?_
   simp only [go_sem,binC,thenX_e,out_e,thenX_n]
   refine seq_reg ?_
   simp only [go_sem,binC]
   refine wpc_ret ⟨Or.inr rfl,.int .i64 0,(by (simp only [go_sem,binC]) <;> rfl),?_,rfl⟩
   unfold tsetO
   rw [hS,hR]
   rfl
 | true =>
 have hs := inB_iff.1 hS
 obtain ⟨hr1,hr2,hr3⟩ := rowB_iff.1 hR
 suffices h : ∀ (k i : Nat) (e : Env),i + k = 3 -> e 0 = .int .i64 s -> e 1 = .slice a row.length row.length -> e 5 = .int .i64 (tsI row s i) -> e 6 = .int .i64 i -> W F H.length _ e H _ from
  h 3 0 _ rfl (by simp only [go_sem,binC]) (by simp only [go_sem,binC]) (by (simp only [go_sem,binC]) <;> rfl) (by (simp only [go_sem,binC]) <;> rfl)
 intro k
 induction k with
 | zero =>
   intro i e hi e0 e1 e5 e6
   obtain rfl : i = 3 := hi
   refine lp_step ?_
   refine seq_assoc (seq_reg ?_)
   have hd : decide (((3 : Nat) : Int) < 3) = false := rfl
   simp only [go_sem,binC,e6,hd]
   refine seq_cond (t := false) (by simp only [go_sem,binC]) ?_
   simp only [go_sem,binC]
   refine seq_exit ?_
   simp only [go_sem,binC,thenX_e,out_e,thenX_n]
   refine seq_reg ?_
   simp only [go_sem,binC,e5]
   refine wpc_ret ⟨Or.inr rfl,_,(by (simp only [go_sem,binC]) <;> rfl),?_,rfl⟩
   unfold tsetO
   rw [hS,hR]
   rfl
 | succ k ih =>
   intro i e hi e0 e1 e5 e6
   have hil : i < row.length := by omega
   have hw1 : IntKind.i64.wrap ((i : Int) + 1) = ((i + 1 : Nat) : Int) := by rw [wrap_id (by omega) (by omega)]; omega
   obtain ⟨b,o,hv1,hg⟩ := gcI r hil
   simp only [Value.slice.injEq,and_true] at hv1
   subst hv1
   obtain ⟨t1,t2,t3⟩ := ts_or hR hs (i := i) (by omega)
   have hgd := getD_int hil
   have h0 := (hr2 _ (List.getElem_mem hil)).1
   have hd : decide ((i : Int) < 3) = true := decide_eq_true (by omega)
   refine lp_step ?_
   refine seq_assoc (seq_reg ?_)
   simp only [go_sem,binC,e0,e6,hd]
   refine op_callQ (by simp only [go_sem,binC,e0]; exact gs H s) ?_
   simp only [go_sem,binC,e1,hS]
   refine op_callQ (by simp only [go_sem,binC,e1]; exact gr H _ row 3 (by omega) r) ?_
   simp only [go_sem,binC,hR]
   refine seq_cond (t := true) (by simp only [go_sem,binC]) ?_
   simp only [go_sem,binC]
   refine seq_skip (seq_block (seq_reg ?_))
   simp only [go_sem,binC,e0,e6]
   refine op_callB (by simp only [go_sem,binC,e0,e6]; exact gh H s i hs.1 hs.2) (fun hh => ?_) (fun hh => ?_)
   ·simp only [go_sem,binC]
    refine wpc_cond (t := true) rfl ?_
    simp only [go_sem,binC]
    refine wpc_reg ?_
    rw [hgd] at t1 t2 t3
    have hsh : binI .shl .i64 1 row[i] = some (.int .i64 (2 ^ row[i].toNat)) := by rw [binI_shl h0]; exact congrArg _ (congrArg _ t3)
    have hor : IntKind.i64.wrap (tsI row s i + 2 ^ row[i].toNat) = tsI row s (i + 1) := by
     refine t2.trans ?_
     show _ = tsI row s i + (if hasB s i = true then 2 ^ (row.getD i 0).toNat else 0)
     rw [if_pos hh,hgd]
    simp only [go_sem,binC,e1,e5,e6]
    refine ⟨⟨by omega,by omega⟩,?_⟩
    simp only [go_sem,binC,Int.toNat_natCast,Nat.mul_one,hg,e5,hsh,hor]
    simp only [go_sem,binC,out_n,thenX_n]
    refine wpc_reg ?_
    simp only [go_sem,binC,e6,hw1]
    simp only [go_sem,binC,thenX_n]
    exact ih (i + 1) _ (by omega) (by simp only [go_sem,binC,e0]) (by simp only [go_sem,binC,e1]) (by simp only [go_sem,binC]) (by simp only [go_sem,binC])
   ·simp only [go_sem,binC]
    refine wpc_cond (t := false) rfl ?_
    simp only [go_sem,binC]
    refine wpc_skip ?_
    simp only [go_sem,binC,out_n,thenX_n]
    refine wpc_reg ?_
    simp only [go_sem,binC,e6,hw1]
    simp only [go_sem,binC,thenX_n]
    have hsm : tsI row s (i + 1) = tsI row s i := by
     show tsI row s i + (if hasB s i = true then 2 ^ (row.getD i 0).toNat else 0) = _
     rw [if_neg (by rw [hh]; simp),Int.add_zero]
    exact ih (i + 1) _ (by omega) (by simp only [go_sem,binC,e0]) (by simp only [go_sem,binC,e1]) (by simp only [go_sem,binC,e5,hsm]) (by simp only [go_sem,binC])
theorem tset_bd {row : List Int} {s : Int} (hr : rowB row 3 = true) (hs : 0 <= s /\ s <= 7) : 0 <= tset row s /\ tset row s <= 7 := by
 rcases row3 hr with rfl | rfl | rfl | rfl | rfl | rfl <;> rcases set8c hs with rfl | rfl | rfl | rfl | rfl | rfl | rfl | rfl <;> decide +kernel
theorem tset_has {row : List Int} {s h : Int} (hr : rowB row 3 = true) (hs : 0 <= s /\ s <= 7) (hh : 0 <= h /\ h <= 2) : hasB (tset row s) (nameO row h) = hasB s h := by
 have q : h = 0 \/ h = 1 \/ h = 2 := by omega
 rcases row3 hr with rfl | rfl | rfl | rfl | rfl | rfl <;> rcases q with rfl | rfl | rfl <;> rcases set8c hs with rfl | rfl | rfl | rfl | rfl | rfl | rfl | rfl <;> decide +kernel
def turnLH (row : List Int) (ls : List (Int × Int)) : List (Int × Int) := ls.map fun a => (tset row a.1,tset row a.2)
theorem turnLH_len (row : List Int) (ls : List (Int × Int)) : (turnLH row ls).length = ls.length := by simp [turnLH]
theorem labB_iff {a : Int × Int} : labB a = true ↔ (0 <= a.1 /\ a.1 <= 7) /\ 0 <= a.2 /\ a.2 <= 7 := by
 simp only [labB,Bool.and_eq_true,inB_iff]
theorem turnLH_lab {row : List Int} {ls : List (Int × Int)} (hr : rowB row 3 = true) (h : ls.all labB = true) : (turnLH row ls).all labB = true := by
 rw [List.all_eq_true] at h ⊢
 intro p hp
 obtain ⟨a,ha,rfl⟩ := List.mem_map.1 hp
 have := labB_iff.1 (h a ha)
 exact labB_iff.2 ⟨tset_bd hr this.1,tset_bd hr this.2⟩
theorem nameO_bd {row : List Int} (hr : rowB row 3 = true) {x : Int} (hx : 0 <= x /\ x <= 2) : 0 <= nameO row x /\ nameO row x <= 2 := by
 have := (nameO_get hr (x := x) (by omega)).2.2
 omega
theorem turnH_good {row : List Int} {k : Nat} (hr : rowB row 3 = true) : GoodT k (turnH row) := by
 refine ⟨fun s => rfl,fun s h => h,fun s h => h,fun s h => h,fun s h => if_neg h,fun s h3 h => ?_⟩
 show inB (if s.1 = 3 then nameO row s.2.2.2 else s.2.2.2) 0 2 = true
 rw [if_pos h3]
 exact inB_iff.2 (nameO_bd hr (inB_iff.1 h))
theorem progB_labs {n : Nat} {ls : List (Int × Int)} {l : List (TStep n)} (h : progB n (ls,l) = true) : ls.all labB = true := by
 simp only [progB,Bool.and_eq_true] at h
 exact h.1.1.2
theorem turnP_ok {n : Nat} {ls : List (Int × Int)} {l : List (TStep n)} {row : List Int} (h : progB n (ls,l) = true) (hr : rowB row 3 = true) : progB n (turnLH row ls,l.map (mapT (turnH row) n)) = true :=
 progB_map (turnH_good hr) h (turnLH_len _ _) (turnLH_lab hr (progB_labs h))
end Go.Proofs.YtbjeldblaclpnaaGreatI
end
section
set_option linter.unusedVariables false
set_option linter.unusedSimpArgs false
namespace Go.Proofs.YtbjeldblaclpnaaGreatI
open Go Go.RowKit
def c_tp1 : IFn := ⟨2,18,[],
 .seq (.reg none [⟨some 3,none,.mov (.t 0)⟩,⟨some 4,none,.nilck (.t 3)⟩,⟨some 5,none,.fad 0 (.t 4)⟩,⟨some 6,none,.load false 1 (.t 5)⟩,
   ⟨some 7,none,.bin .eql (.t 6) (.c (.int .i64 3))⟩])
 (.cond (.t 7) (.reg (some 8) [⟨some 8,none,.mov (.t 0)⟩,⟨some 9,none,.load false 1 (.t 1)⟩,⟨some 10,none,.mov (.t 0)⟩,⟨some 11,none,.nilck (.t 10)⟩,
   ⟨some 12,none,.fad 5 (.t 11)⟩,⟨some 13,none,.load false 1 (.t 12)⟩,⟨some 14,none,.iad 1 (.t 9) (.t 13)⟩,⟨some 15,none,.load false 1 (.t 14)⟩,
   ⟨some 16,none,.nilck (.t 8)⟩,⟨some 17,none,.fad 5 (.t 16)⟩,⟨none,none,.store 1 (.t 17) (.t 15)⟩]) (.skip))⟩
def c_iTurnProg : IFn := ⟨2,47,[.cell true 2 4,.t 5],
 .seq (.reg none [⟨some 2,none,.box (.t 0)⟩,⟨some 3,none,.box (.t 1)⟩,⟨some 4,none,.new [(.slice none 0 0),(.slice none 0 0)]⟩,
   ⟨some 5,none,.mov (.c (.bool false))⟩])
 (.seq (.seq (.reg none [⟨some 9,none,.load true 2 (.t 2)⟩,⟨some 10,none,.call .q (.f 38) [.t 9]⟩,⟨some 11,none,.un .not (.t 10)⟩,⟨some 12,none,.mov (.t 11)⟩,
   ⟨some 13,some (12,false),.load false 1 (.t 3)⟩,⟨some 14,some (12,false),.call .q (.f 33) [.t 13,(.c (.int .i64 3))]⟩,
   ⟨some 15,some (12,false),.un .not (.t 14)⟩,⟨some 16,none,.pick (.t 12) (.c (.bool true)) (.t 15)⟩])
  (.cond (.t 16) (.seq (.reg none [⟨some 17,none,.build [(.slice none 0 0),(.slice none 0 0)] []⟩,⟨none,none,.store 2 (.t 4) (.t 17)⟩,
    ⟨some 5,none,.mov (.c (.bool false))⟩])
   (.ret)) (.skip)))
 (.seq (.reg none [⟨some 18,none,.load true 2 (.t 2)⟩,⟨some 19,none,.call .k (.f 39) [.t 18]⟩,⟨some 6,none,.new [(.slice none 0 0),(.slice none 0 0)]⟩,
   ⟨none,none,.store 2 (.t 6) (.t 19)⟩])
 (.seq (.seq (.reg none [⟨some 20,none,.fad 0 (.t 6)⟩,⟨some 21,none,.load false 1 (.t 20)⟩,⟨some 22,none,.len (.t 21)⟩,⟨some 23,none,.mov (.c (.int .i64 0))⟩])
  (.block 0 (.loop (.seq (.reg none [⟨some 24,none,.bin .lss (.t 23) (.t 22)⟩])
   (.seq (.cond (.t 24) (.skip) (.exit 0))
   (.seq (.block 1 (.seq (.reg none [⟨some 25,none,.mov (.t 23)⟩,⟨some 26,none,.iad 2 (.t 21) (.t 23)⟩,⟨some 27,none,.load true 2 (.t 26)⟩,
      ⟨some 8,none,.new [(.int .i64 0),(.int .i64 0)]⟩,⟨some 7,none,.mov (.t 25)⟩,⟨none,none,.store 2 (.t 8) (.t 27)⟩])
    (.reg (some 12) [⟨some 28,none,.fad 0 (.t 6)⟩,⟨some 29,none,.load false 1 (.t 28)⟩,⟨some 30,none,.mov (.t 7)⟩,⟨some 31,none,.fad 0 (.t 8)⟩,
     ⟨some 32,none,.load false 1 (.t 31)⟩,⟨some 33,none,.load false 1 (.t 3)⟩,⟨some 34,none,.call .q (.f 34) [.t 32,.t 33]⟩,⟨some 35,none,.fad 1 (.t 8)⟩,
     ⟨some 36,none,.load false 1 (.t 35)⟩,⟨some 37,none,.load false 1 (.t 3)⟩,⟨some 38,none,.call .q (.f 34) [.t 36,.t 37]⟩,
     ⟨some 39,none,.build [(.int .i64 0),(.int .i64 0)] [(0,1,(.t 34)),(1,1,(.t 38))]⟩,⟨some 40,none,.iad 2 (.t 29) (.t 30)⟩,
     ⟨none,none,.store 2 (.t 40) (.t 39)⟩])))
   (.reg none [⟨some 41,none,.bin .add (.t 23) (.c (.int .i64 1))⟩,⟨some 23,none,.mov (.t 41)⟩])))))))
 (.seq (.reg none [⟨some 42,none,.fad 1 (.t 6)⟩,⟨some 43,none,.load false 1 (.t 42)⟩,⟨some 44,none,.mkf 41 [] [.t 3]⟩,
   ⟨some 45,none,.call .n (.f 40) [.t 43,.t 44]⟩])
 (.seq (.reg none [⟨some 46,none,.load true 2 (.t 6)⟩,⟨none,none,.store 2 (.t 4) (.t 46)⟩,⟨some 5,none,.mov (.c (.bool true))⟩])
 (.ret))))))⟩
theorem setL_same8 {cs a : List Value} {o : Nat} (ha : a.length = 8) (h : (cs.drop o).take 8 = a) (ho : o + 8 <= cs.length) : setL cs o a = cs := by
 have h0 : 0 < a.length := by omega
 have e := set8 (v := a[0]) ha h ho (j := 0) (by omega)
 rw [List.set_getElem_self] at e
 rw [<- e]
 have h1 : o + 0 < cs.length := by omega
 have h2 : a[0] = cs[o + 0] := by
  have : a[0]? = cs[o + 0]? := by rw [<- h,List.getElem?_take_of_lt (by omega),List.getElem?_drop]
  rw [List.getElem?_eq_getElem h0,List.getElem?_eq_getElem h1,Option.some.injEq] at this
  exact this
 rw [h2,List.set_getElem_self]
theorem tp1_ok {F : Nat -> Option IFn} {H0 : Heap} {rb k : Nat} {w : Value} {row : List Int} (hf : F 41 = some c_tp1) (hw : SlR Co.int (vw 0 H0) w row) (hrb : H0[rb]? = some ⟨[w],0,0,false,true⟩) (hrow : rowB row 3 = true) : CloOk F 41 #[] #[ptr rb 0] H0 (okS k) (turnH row) := by
 intro H b cs i s tv ev lo hx0 hb0 hlo hb hl8 h8 hrg hP otv oev
 obtain ⟨sk,sx,⟨sa,sb,sc⟩,sg⟩ := s
 obtain ⟨p1,p2,p3,p4,p5⟩ := hP
 simp only at p5
 have hrgT : shRg (turnH row (sk,sx,(sa,sb,sc),sg)) := by
  obtain ⟨r1,r2,r3,r4,r5,r6⟩ := hrg
  refine ⟨r1,r2,r3,r4,r5,?_⟩
  show RgI (if sk = 3 then nameO row sg else sg)
  split
  ·rename_i h
   have := nameO_bd hrow (p5 h)
   unfold RgI; omega
  ·exact r6
 refine ⟨hrgT,?_⟩
 simp only [List.nil_append,List.singleton_append]
 refine NC.mkE hf rfl ?_
 obtain ⟨hrl,ra,rfl,_⟩ := id hw
 have hbl := (List.getElem?_eq_some_iff.1 hb).1
 have g0 := gc_k (j := 0) hb hl8 h8 (v := .int .i64 sk) rfl (by omega)
 have g5 := gc_k (j := 5) hb hl8 h8 (v := .int .i64 sg) rfl (by omega)
 rw [Nat.add_zero] at g0
 refine seq_reg ?_
 simp only [go_sem,binC,g0]
 by_cases h3 : sk = 3
 ·simp only [go_sem,binC,beq_t h3]
  refine wpc_cond (t := true) rfl ?_
  simp only [go_sem,binC]
  obtain ⟨hgl,hge,hgr⟩ := nameO_get hrow (x := sg) (by have := p5 h3; omega)
  obtain ⟨rblk,ro,hrv,_⟩ := gcI0 hw hgl
  simp only [Value.slice.injEq,and_true] at hrv
  subst hrv
  have hro : getCells H rblk (ro + sg.toNat) 1 = some [.int .i64 row[sg.toNat]] := gcI2 (hw.mono (agx_sub hx0)) hgl
  have hrbx : H[rb]? = some ⟨[.slice (some ⟨rblk,ro,none⟩) row.length row.length],0,0,false,true⟩ := hx0.get hrb (by simp)
  refine wpc_regD ?_
  simp only [go_sem,binC,gc_of hrbx,inBlk_some,g5]
  refine ⟨⟨by have := p5 h3; omega,by omega⟩,?_⟩
  simp only [go_sem,binC,Nat.mul_one,hro,hb]
  refine ⟨⟨by omega,by omega⟩,?_⟩
  rw [set8 (shV_len _ _ _) h8 hl8 (by omega),<- hge]
  refine ⟨Or.inl rfl,_,rfl,rfl,?_⟩
  show H.set b ⟨setL cs (i * 8) (shV (sk,sx,(sa,sb,sc),nameO row sg) tv ev),8,54,true,true⟩ = _
  rw [show turnH row (sk,sx,(sa,sb,sc),sg) = (sk,sx,(sa,sb,sc),nameO row sg) by simp [turnH,h3]]
 ·simp only [go_sem,binC,beq_f h3]
  refine wpc_cond (t := false) rfl ?_
  simp only [go_sem,binC]
  refine wpc_skip ⟨Or.inl rfl,_,rfl,rfl,?_⟩
  rw [show turnH row (sk,sx,(sa,sb,sc),sg) = (sk,sx,(sa,sb,sc),sg) by simp [turnH,h3],setL_same8 (shV_len _ _ _) h8 hl8]
  rw [List.getElem?_eq_getElem hbl,Option.some.injEq] at hb
  rw [<- hb,List.set_getElem_self]
theorem iTurnProg_ok {F : Nat -> Option IFn} {f : Nat} (hf : F f = some c_iTurnProg) (gp : ProgOk F 38) (gr : RowOk F 33) (gpc : PCloneOk F 39) (hch : F 40 = some c_change) (hc1 : F 41 = some c_tp1) (gt : ∀ (H : Heap) (s : Int) (v : Value) (row : List Int),0 <= s /\ s <= 7 -> rowB row 3 = true -> SlR Co.int (vw 0 H) v row -> QC F 34 [.int .i64 s,v] H (.int .i64 (tset row s))) : TurnPOk F f (fun _ => 3) turnLH turnH := by
 intro H n lv sv w ls l row r1 r2 hsm r3
 suffices h : ∃ v H',KC F f [.agg #[lv,sv],w] H v H' /\ (∃ lv' sv',v = .tuple #[.agg #[lv',sv'],.bool (turnB n (fun _ => 3) ls l row)] /\ AgX [] H H' /\ SlR Co.p2 (vw 0 H') lv' (turnO n (fun _ => 3) turnLH turnH ls l row).1 /\ SlR (Co.step n) (vw 0 H') sv' (turnO n (fun _ => 3) turnLH turnH ls l row).2) by
  obtain ⟨_,H',h1,lv',sv',rfl,h2⟩ := h
  exact ⟨lv',sv',H',h1,h2⟩
 have osv : one sv = true := by obtain ⟨_,a,rfl,_⟩ := r2; rfl
 obtain ⟨_,wa,rfl,_⟩ := id r3
 obtain ⟨_,la,rfl,_⟩ := id r1
 have hls0 : ls.length <= 1048576 := hsm.1.1
 refine KC.mk hf rfl ?_
 refine seq_reg ?_
 simp only [go_sem,binC,osv]
 refine wpc_gen fun H1 hH1 => ?_
 have hx1 : AgX [] H H1 := hH1 ▸ AgX.app [] _ _
 have hb2 : H1[H.length]? = some ⟨[.slice la ls.length ls.length,sv],0,0,false,true⟩ := hH1 ▸ get_new0 _ _
 have hb3 : H1[H.length + 1]? = some ⟨[.slice wa row.length row.length],0,0,false,true⟩ := hH1 ▸ get_new _ _ 1
 have hb4 : H1[H.length + 2]? = some ⟨[nilS,nilS],0,0,false,true⟩ := hH1 ▸ get_new _ _ 2
 have hln1 : H1.length = H.length + 3 := by rw [hH1]; simp
 clear hH1
 have r1' := r1.mono (agx_sub hx1)
 have r2' := r2.mono (agx_sub hx1)
 have r3' := r3.mono (agx_sub hx1)
 have hb4l := (List.getElem?_eq_some_iff.1 hb4).1
 refine seq_assoc (seq_reg ?_)
 simp only [go_sem,binC,gc_of hb2,inBlk_some,osv]
 refine op_callB (by simp only [go_sem,binC]; exact gp H1 n _ (ls,l) (prog_rd r1' r2') hsm) (fun hP => ?_) (fun hP => ?_)
 rotate_left
 ·simp only [go_sem,binC]
  refine seq_cond (t := true) rfl ?_
  simp only [go_sem,binC]
  refine seq_assoc (seq_reg ?_)
  simp only [go_sem,binC,hb4]
  have hB : turnB n (fun _ => 3) ls l row = false := by simp [turnB,hP]
  have hr : turnO n (fun _ => 3) turnLH turnH ls l row = ([],[]) := if_neg (by rw [hB]; simp)
  refine seq_ret ⟨Or.inr rfl,.tuple #[.agg #[nilS,nilS],.bool false],?_,nilS,nilS,by rw [hB],hx1.setN (by omega) _,?_,?_⟩
  ·simp [resV,resL,res1,putE_get,notT,ptr,gc_set hb4l,inBlk_some,valOf]
  all_goals (rw [hr]; exact ⟨by simp,none,rfl,.inl rfl⟩)
 have hls : ls.length <= 4 := by
  have := hP
  simp only [progB,Bool.and_eq_true,decide_eq_true_eq] at this; have := this.1.1.1; omega
 simp only [go_sem,binC,gc_of hb3,inBlk_some]
 refine op_callB (by simp only [go_sem,binC]; exact gr H1 _ row 3 (by omega) r3') (fun hR => ?_) (fun hR => ?_)
 rotate_left
 ·simp only [go_sem,binC]
  refine seq_cond (t := true) rfl ?_
  simp only [go_sem,binC]
  refine seq_assoc (seq_reg ?_)
  simp only [go_sem,binC,hb4]
  have hB : turnB n (fun _ => 3) ls l row = false := by simp [turnB,hR]
  have hr : turnO n (fun _ => 3) turnLH turnH ls l row = ([],[]) := if_neg (by rw [hB]; simp)
  refine seq_ret ⟨Or.inr rfl,.tuple #[.agg #[nilS,nilS],.bool false],?_,nilS,nilS,by rw [hB],hx1.setN (by omega) _,?_,?_⟩
  ·simp [resV,resL,res1,putE_get,notT,ptr,gc_set hb4l,inBlk_some,valOf]
  all_goals (rw [hr]; exact ⟨by simp,none,rfl,.inl rfl⟩)
 have hB : turnB n (fun _ => 3) ls l row = true := by simp [turnB,hP,hR]
 have hO : turnO n (fun _ => 3) turnLH turnH ls l row = (turnLH row ls,l.map (mapT (turnH row) n)) := if_pos hB
 obtain ⟨hr1,hr2,hr3⟩ := rowB_iff.1 hR
 simp only [go_sem,binC]
 refine seq_cond (t := false) rfl ?_
 simp only [go_sem,binC]
 refine seq_skip (seq_reg ?_)
 simp only [go_sem,binC,gc_of hb2,inBlk_some,osv]
 obtain ⟨lv2,sv2,B,H2,k2,hx2,hL2,o2⟩ := gpc H1 n _ sv ls l r1' r2' hsm
 obtain ⟨la2,hlv2⟩ := hL2.shape
 obtain ⟨_,sa2,hsv2⟩ := id o2.len
 refine op_callK (by simp only [go_sem,binC]; exact k2) ?_
 simp only [go_sem,binC]
 rw [hlv2,hsv2]
 simp only [go_sem,binC,get_new0]
 refine ⟨by have := hx1.1; have := hx2.1; omega,?_⟩
 rw [<- hlv2,<- hsv2]
 refine wpc_genH fun H3 hH3 => ?_
 have hx3 : AgX [] H2 H3 := hH3 ▸ AgX.app [] _ _
 have hb6 : H3[H2.length]? = some ⟨[lv2,sv2],0,0,false,true⟩ := hH3 ▸ get_new0 _ _
 clear hH3
 have hx23 := hx2.tr hx3
 have hL3 := hL2.keep (Nat.le_refl _) hx3 (fun b _ _ => by simp)
 have o3 : OwnT H1.length H3 n sv2 l B := o2.keep (Nat.le_refl _) fun b hb => hx3.2 b (o2.ge b hb).2.1 (by simp)
 have hl2 := hx2.1
 have hl3 := hx3.1
 have hb6l := (List.getElem?_eq_some_iff.1 hb6).1
 have hb23 := hx23.get hb2 (by simp)
 have hb33 := hx23.get hb3 (by simp)
 have hb43 := hx23.get hb4 (by simp)
 have hbB : ∀ b ∈ blkOf lv2,b ∉ B := fun b h1 h2 => by
  obtain ⟨_,_,q⟩ := hL3.blk h1
  obtain ⟨_,_,cs,q2⟩ := o3.ge b h2
  rw [q] at q2
  simp at q2
 clear k2
 have hlab := List.all_eq_true.1 (progB_labs hP)
 refine seq_assoc (seq_reg ?_)
 simp only [go_sem,binC,gc_of hb6,inBlk_some]
 rw [hlv2]
 simp only [go_sem,binC]
 refine seq_block (wpc_loop ?_)
 suffices h : ∀ (k i : Nat) (e : Env) (Hc : Heap) (cur : List (Int × Int)),i + k = ls.length -> AgX (blkOf lv2) H3 Hc -> cur.length = ls.length -> LabV H1.length Hc lv2 cur -> (∀ p ∈ cur,RgI p.1 /\ RgI p.2) -> (∀ j (h' : j < ls.length),cur[j]? = some (if j < i then (tset row ls[j].1,tset row ls[j].2) else ls[j])) -> e 2 = ptr H.length 0 -> e 3 = ptr (H.length + 1) 0 -> e 4 = ptr (H.length + 2) 0 -> e 6 = ptr H2.length 0 -> e 21 = .slice la2 ls.length ls.length -> e 22 = .int .i64 ls.length -> e 23 = .int .i64 i -> W F H.length _ e Hc _ from
  h ls.length 0 _ H3 ls (by omega) (AgX.refl _ _) rfl hL3 (p2_rg r1) (fun j h' => by rw [if_neg (by omega),List.getElem?_eq_getElem h']) (by simp only [go_sem,binC]) (by simp only [go_sem,binC]) (by simp only [go_sem,binC]) (by simp only [go_sem,binC]) (by (simp only [go_sem,binC]) <;> rfl) (by (simp only [go_sem,binC]) <;> rfl) (by (simp only [go_sem,binC]) <;> rfl)
 intro k
 induction k with
 | zero =>
   intro i e Hc cur hi hxc hcl hLc hrg hcur e2 e3 e4 e6 e21 e22 e23
   refine lp_step ?_
   refine seq_reg ?_
   simp only [go_sem,binC,e22,e23]
   refine seq_cond (t := false) (by simp only [go_sem,binC]; rw [decide_eq_false (by omega)]) ?_
   simp only [go_sem,binC]
   refine seq_exit ?_
   simp only [go_sem,binC,thenX_e,out_e,thenX_n]
   have hb6c := hxc.get hb6 (fun h => by have := (hL3.blk h).2.2; rw [hb6] at this; simp at this)
   have hb3c := hxc.get hb33 (fun h => by have := (hL3.blk h).1; omega)
   have hb4c := hxc.get hb43 (fun h => by have := (hL3.blk h).1; omega)
   have hx1c : AgX [] H1 Hc := hx23.trans hxc (fun _ h _ => h) (fun b h1 h2 => by have := (hL3.blk h1).1; omega)
   have hcT : cur = turnLH row ls := List.ext_getElem (by rw [turnLH_len,hcl]) fun j h1 h2 => by
    have hj : j < ls.length := by omega
    have := hcur j hj
    rw [List.getElem?_eq_getElem h1,Option.some.injEq,if_pos (by omega)] at this
    rw [this]
    simp [turnLH]
   have oc : OwnT H1.length Hc n sv2 l B := o3.keep (Nat.le_refl _) fun b hb => hxc.2 b (o3.ge b hb).2.1 (fun h => hbB b h hb)
   have hclo : CloOk F 41 #[] #[ptr (H.length + 1) 0] H1 (okS ls.length) (turnH row) := tp1_ok hc1 r3' hb3 hR
   obtain ⟨H5,k5,o5,hx5⟩ := change_all hch hclo n Hc sv2 l B H.length oc hx1c (by omega) (progB_okS hP)
   have osv2 := o2.one
   refine seq_reg ?_
   simp only [go_sem,binC,e6,e3,gc_of hb6c,inBlk_some,osv2]
   refine ⟨rfl,?_⟩
   refine op_callN (by simp only [go_sem,binC]; exact k5) ?_
   have hBb : ∀ b,(∃ cs,Hc[b]? = some ⟨cs,0,0,false,true⟩) -> b ∉ B := fun b h1 h2 => by
    obtain ⟨cs,h1⟩ := h1
    obtain ⟨_,_,cs2,q2⟩ := oc.ge b h2
    rw [h1] at q2
    simp at q2
   have hb65 := hx5.get hb6c (hBb _ ⟨_,hb6c⟩)
   have hb45 := hx5.get hb4c (hBb _ ⟨_,hb4c⟩)
   have hb45l := (List.getElem?_eq_some_iff.1 hb45).1
   simp only [go_sem,binC]
   refine seq_reg ?_
   rw [hlv2,hsv2] at hb65
   simp only [go_sem,binC,e6,e4,gc_of hb65,inBlk_some,hb45]
   have hx15 : AgX [] H1 H5 := hx1c.trans hx5 (fun _ h _ => h) (fun b h1 h2 => by have := (oc.ge b h1).1; omega)
   have hxf : AgX [H.length + 2] H5 (H5.set (H.length + 2) ⟨[.slice la2 ls.length ls.length,.slice sa2 l.length l.length],0,0,false,true⟩) := AgX.set _ _ _
   have hL5 := (hLc.keep (Nat.le_refl _) hx5 (fun b h1 h2 h3 => by
    obtain ⟨_,_,cs2,q2⟩ := oc.ge b h3
    rw [h2] at q2
    simp at q2)).keep (Nat.le_refl _) hxf (fun b h1 _ h2 => by simp only [List.mem_singleton] at h2; omega)
   have o6 := o5.keep (lo' := H1.length) (H' := H5.set (H.length + 2) ⟨[.slice la2 ls.length ls.length,.slice sa2 l.length l.length],0,0,false,true⟩) (Nat.le_refl _) fun b hb => hxf.2 b (o5.ge b hb).2.1 (fun h => by simp only [List.mem_singleton] at h; have := (o5.ge b hb).1; omega)
   refine wpc_ret ⟨Or.inr rfl,.tuple #[.agg #[lv2,sv2],.bool true],?_,lv2,sv2,by rw [hB],(hx1.tr hx15).setN (by omega) _,?_,?_⟩
   ·rw [hlv2,hsv2]
    simp [resV,resL,res1,putE_get,notT,ptr,gc_set hb45l,inBlk_some,valOf,e4]
   ·rw [hO]
    show SlR Co.p2 _ _ (turnLH row ls)
    rw [<- hcT]
    exact hL5.sl hrg (by omega)
   ·rw [hO]
    exact (o6.sl.mono (vws_vw _ _)).mono (vw_grow (Nat.zero_le _) fun _ _ _ => rfl)
 | succ k ih =>
   intro i e Hc cur hi hxc hcl hLc hrg hcur e2 e3 e4 e6 e21 e22 e23
   have hil : i < ls.length := by omega
   have hw1 : IntKind.i64.wrap ((i : Int) + 1) = ((i + 1 : Nat) : Int) := by rw [wrap_id (by omega) (by omega)]; omega
   have hx1c : AgX [] H1 Hc := hx23.trans hxc (fun _ h _ => h) (fun b h1 h2 => by have := (hL3.blk h1).1; omega)
   have hb6c := hxc.get hb6 (fun h => by have := (hL3.blk h).2.2; rw [hb6] at this; simp at this)
   have hb3c := hxc.get hb33 (fun h => by have := (hL3.blk h).1; omega)
   have hne : cur ≠ [] := fun h => by rw [h] at hcl; simp at hcl; omega
   obtain ⟨bl,hbl0,hlv,_,hbl⟩ := hLc.resolve_left (fun h => hne h.2)
   have hbll := (List.getElem?_eq_some_iff.1 hbl).1
   have hci := hcur i hil
   rw [if_neg (by omega)] at hci
   have hcil : i < cur.length := by omega
   obtain ⟨pb,po,hpv,hpg⟩ := gcP (blk_slP hbl hrg (by omega)) hcil
   rw [<- hlv,hlv2,hcl] at hpv
   simp only [Value.slice.injEq,and_true] at hpv
   obtain rfl := hpv
   rw [List.getElem?_eq_getElem hcil,Option.some.injEq] at hci
   rw [hci] at hpg
   have hlb := labB_iff.1 (hlab ls[i] (List.getElem_mem hil))
   have hlv' : lv2 = sli bl 0 ls.length := by rw [<- hcl]; exact hlv
   rw [hlv2] at hlv'
   simp only [sli,Value.slice.injEq,Option.some.injEq,Addr.mk.injEq,and_true] at hlv'
   obtain ⟨rfl,rfl⟩ := hlv'
   simp only [Nat.zero_add] at hpg
   refine lp_step ?_
   refine seq_reg ?_
   simp only [go_sem,binC,e22,e23]
   refine seq_cond (t := true) (by simp only [go_sem,binC]; rw [decide_eq_true (by omega)]) ?_
   simp only [go_sem,binC]
   refine seq_skip (seq_block (seq_reg ?_))
   simp only [go_sem,binC,e21,e23]
   refine ⟨⟨by omega,by omega⟩,?_⟩
   simp only [go_sem,binC,hpg,Int.toNat_natCast]
   refine ⟨by have := hx1.1; have := hx1c.1; omega,?_⟩
   refine wpc_genH fun H5 hH5 => ?_
   have hx5 : AgX [] Hc H5 := hH5 ▸ AgX.app [] _ _
   have hb8 : H5[Hc.length]? = some ⟨[.int .i64 ls[i].1,.int .i64 ls[i].2],0,0,false,true⟩ := hH5 ▸ get_new0 _ _
   clear hH5
   have hb65 := hx5.get hb6c (by simp)
   have hb35 := hx5.get hb3c (by simp)
   have hbl5 := hx5.get hbl (by simp)
   have hfl := flat_len (fl := fp) (w := 2) (fun _ => rfl) cur
   rw [hlv2] at hb65
   have r35 := r3'.mono (agx_sub (hx1c.tr hx5))
   refine wpc_regD ?_
   simp only [go_sem,binC,e6,e3,gc_of hb65,gc_of hb35,gc_of hb8,inBlk_some]
   refine op_callQ (by simp only [go_sem,binC]; exact gt H5 _ _ row hlb.1 hR r35) ?_
   simp only [go_sem,binC,e3,gc_of hb35,gc_of hb8,inBlk_some]
   refine op_callQ (by simp only [go_sem,binC]; exact gt H5 _ _ row hlb.2 hR r35) ?_
   simp only [go_sem,binC,e23]
   refine ⟨⟨by omega,by omega⟩,?_⟩
   simp only [go_sem,binC,Int.toNat_natCast,hbl5]
   refine ⟨⟨by omega,by omega⟩,?_⟩
   simp only [go_sem,binC,out_n,thenX_n,Nat.zero_add]
   rw [show ((cur.flatMap fp).set (i * 2) (.int .i64 (tset row ls[i].1))).set (i * 2 + 1) (.int .i64 (tset row ls[i].2)) = (cur.set i (tset row ls[i].1,tset row ls[i].2)).flatMap fp from flat_set _ _ (tset row ls[i].1,tset row ls[i].2) hcil]
   have hbl5l := (List.getElem?_eq_some_iff.1 hbl5).1
   generalize hT : ((tset row ls[i].1,tset row ls[i].2) : Int × Int) = tv
   have hxs : AgX [pb] H5 (H5.set pb ⟨(cur.set i tv).flatMap fp,2,57,true,true⟩) := AgX.set _ _ _
   have hgs : (H5.set pb ⟨(cur.set i tv).flatMap fp,2,57,true,true⟩)[pb]? = some ⟨(cur.set i tv).flatMap fp,2,57,true,true⟩ := List.getElem?_set_self hbl5l
   refine wpc_reg ?_
   simp only [go_sem,binC,e23,hw1]
   simp only [go_sem,binC,thenX_n]
   refine ih (i + 1) _ _ (cur.set i tv) (by omega) ((hxc.trans hx5 (fun _ h _ => h) (fun _ h _ => by simp at h)).trans hxs (fun _ h _ => h) (fun b' h1 _ => by simp only [List.mem_singleton] at h1; subst h1; rw [hlv2]; simp [blkOf])) (by rw [List.length_set]; exact hcl) (.inr ⟨pb,hbl0,by rw [List.length_set]; exact hlv,fun h => hne (List.eq_nil_of_length_eq_zero (by simpa using congrArg List.length h)),hgs⟩) (fun p hp => ?_) (fun j hj => ?_) (by simp only [go_sem,binC,e2]) (by simp only [go_sem,binC,e3]) (by simp only [go_sem,binC,e4]) (by simp only [go_sem,binC,e6]) (by simp only [go_sem,binC,e21]) (by simp only [go_sem,binC,e22]) (by simp only [go_sem,binC])
   ·rcases List.mem_or_eq_of_mem_set hp with h | h
    ·exact hrg p h
    ·have a1 := tset_bd hR hlb.1
     have a2 := tset_bd hR hlb.2
     rw [h,<- hT]
     exact ⟨by show RgI (tset row ls[i].1); unfold RgI; omega,by show RgI (tset row ls[i].2); unfold RgI; omega⟩
   ·rw [List.getElem?_set]
    by_cases hji : i = j
    ·subst hji
     rw [if_pos rfl,if_pos hcil,if_pos (by omega),<- hT]
    ·rw [if_neg hji,hcur j hj]
     by_cases hlt : j < i
     ·rw [if_pos hlt,if_pos (by omega)]
     ·rw [if_neg hlt,if_neg (by omega)]
end Go.Proofs.YtbjeldblaclpnaaGreatI
end
section
set_option linter.unusedVariables false
set_option linter.unusedSimpArgs false
namespace Go.Proofs.YtbjeldblaclpnaaGreatI
open Go Go.RowKit
def LsV {α : Type} (V : Vw) (A : Co α) (es et lo : Nat) (H : Heap) (v : Value) (l : List α) : Prop := (v = nilS /\ l = []) \/ ∃ b so cs,lo <= b /\ v = sli b 0 l.length /\ l ≠ [] /\ l.length <= 1048576 /\ H[b]? = some ⟨cs,es,et,true,so⟩ /\ cs.length = l.length * es /\ ∀ i (h : i < l.length),A.rd V ((cs.drop (i * es)).take es) l[i]
section
variable {α : Type} {V : Vw} {A : Co α} {es et lo : Nat} {H : Heap} {v : Value} {l : List α}
theorem LsV.nil : LsV V A es et lo H nilS ([] : List α) := .inl ⟨rfl,rfl⟩
theorem LsV.one (h : LsV V A es et lo H v l) : Go.Proofs.YtbjeldblaclpnaaGreatI.one v = true := by
 rcases h with ⟨rfl,_⟩ | ⟨b,so,cs,_,rfl,_⟩ <;> rfl
theorem LsV.shape (h : LsV V A es et lo H v l) : ∃ a,v = .slice a l.length l.length := by
 rcases h with ⟨rfl,rfl⟩ | ⟨b,so,cs,_,rfl,_⟩
 ·exact ⟨none,rfl⟩
 ·exact ⟨_,rfl⟩
theorem LsV.len (h : LsV V A es et lo H v l) : l.length <= 1048576 := by
 rcases h with ⟨_,rfl⟩ | ⟨b,so,cs,_,_,_,h,_⟩
 ·simp
 ·exact h
theorem LsV.keep {H' : Heap} {lo' : Nat} {xs : List Nat} (h : LsV V A es et lo H v l) (hl : lo' <= lo) (hx : AgX xs H H') (hn : ∀ b,b ∈ blkOf v -> b ∉ xs) : LsV V A es et lo' H' v l := by
 rcases h with h | ⟨b,so,cs,h1,rfl,h3,h4,h5,h6⟩
 ·exact .inl h
 ·exact .inr ⟨b,so,cs,by omega,rfl,h3,h4,hx.get h5 (hn b (by simp [blkOf,sli])),h6⟩
theorem LsV.mono {V' : Vw} (h : LsV V A es et lo H v l) (hs : Sub V V') : LsV V' A es et lo H v l := by
 rcases h with h | ⟨b,so,cs,h1,rfl,h3,h4,h5,h6,h7⟩
 ·exact .inl h
 ·exact .inr ⟨b,so,cs,h1,rfl,h3,h4,h5,h6,fun i hi => A.mono hs (h7 i hi)⟩
theorem LsV.blk (h : LsV V A es et lo H v l) {b : Nat} (hb : b ∈ blkOf v) : lo <= b /\ b < H.length /\ ∃ cs so,H[b]? = some ⟨cs,es,et,true,so⟩ := by
 rcases h with ⟨rfl,_⟩ | ⟨b',so,cs,h1,rfl,h3,h4,h5,h6⟩
 ·simp [blkOf,nilS] at hb
 ·simp only [blkOf,sli,List.mem_singleton] at hb
  subst hb
  exact ⟨h1,(List.getElem?_eq_some_iff.1 h5).1,cs,so,h5⟩
theorem LsV.nbox (h : LsV V A es et lo H v l) {b : Nat} {cs : List Value} {x y : Nat} {so : Bool} (hb : H[b]? = some ⟨cs,x,y,false,so⟩) : b ∉ blkOf v := fun hm => by
 obtain ⟨_,_,cs',so',h'⟩ := h.blk hm
 rw [hb] at h'
 simp at h'
theorem LsV.sl (h : LsV V A es et lo H v l) (hw : A.w = es) (hs : Sub V (vw 0 H)) : SlR A (vw 0 H) v l := by
 rcases h with ⟨rfl,rfl⟩ | ⟨b,so,cs,h1,rfl,h3,h4,h5,h6,h7⟩
 ·exact ⟨by simp,none,rfl,.inl rfl⟩
 ·refine ⟨by omega,_,rfl,.inr ⟨b,0,rfl,fun i hi => ⟨_,?_,A.mono hs (h7 i hi)⟩⟩⟩
  have hi2 : i * es + es <= l.length * es := by rw [<- Nat.succ_mul]; exact Nat.mul_le_mul_right _ hi
  unfold rng vw
  rw [if_pos (Nat.zero_le _),h5,hw]
  simp only [Option.map_some,Nat.zero_add]
  rw [if_pos (by omega)]
theorem LsV.at (h : LsV V A es et lo H v l) {i : Nat} (hi : i < l.length) : ∃ b cs,v = .slice (some ⟨b,0,none⟩) l.length l.length /\ getCells H b (i * es) es = some cs /\ A.rd V cs l[i] := by
 rcases h with ⟨rfl,rfl⟩ | ⟨b,so,cs,h1,rfl,h3,h4,h5,h6,h7⟩
 ·simp at hi
 ·have hi2 : i * es + es <= l.length * es := by rw [<- Nat.succ_mul]; exact Nat.mul_le_mul_right _ hi
  refine ⟨b,_,rfl,?_,h7 i hi⟩
  unfold getCells
  rw [h5]
  simp only
  rw [if_pos (by omega)]
def BlkN (H : Heap) (v w : Value) : Prop := ∀ b,b ∈ blkOf w -> b ∈ blkOf v \/ H.length <= b
theorem cells_of {cs : List Value} {m b o : Nat} {Hx : Heap} (h : getCells Hx b o m = some cs) : cs.length = m := by
 unfold getCells at h
 split at h
 ·split at h
  ·simp only [Option.some.injEq] at h
   subst h
   rw [List.length_take,List.length_drop]
   omega
  ·cases h
 ·cases h
theorem take_es {cs ys : List Value} {n i es : Nat} (h : cs.length = n * es) (hi : i < n) : ((cs ++ ys).drop (i * es)).take es = (cs.drop (i * es)).take es := by
 have hi2 : i * es + es <= n * es := by rw [<- Nat.succ_mul]; exact Nat.mul_le_mul_right _ hi
 rw [List.drop_append_of_le_length (by omega),List.take_append_of_le_length (by rw [List.length_drop]; omega)]
theorem drop_es {cs ys : List Value} {n i es : Nat} (h : cs.length = n * es) : ((cs ++ ys).drop ((n + i) * es)).take es = (ys.drop (i * es)).take es := by
 rw [List.drop_append,List.drop_of_length_le (by rw [h]; exact Nat.mul_le_mul_right _ (by omega)),List.nil_append,h,Nat.add_mul,Nat.add_sub_cancel_left]
theorem op_app_lsC {F : Nat -> Option IFn} {lo0 bytes m c2 b2 o2 : Nat} {x y : Opd} {e : Env} {ys : List Value} {l2 : List α} {K : Value -> Heap -> Prop} (hv : LsV V A es et lo H v l) (hx : x.ev e = v) (hy : y.ev e = .slice (some ⟨b2,o2,none⟩) l2.length c2) (hne : l2 ≠ []) (hg : getCells H b2 o2 (l2.length * es) = some ys)
  (hr : ∀ i (h : i < l2.length),A.rd V ((ys.drop (i * es)).take es) l2[i]) (hlo0 : lo0 <= lo) (hlo : lo <= H.length) (hl : l.length + l2.length <= 1048576) (hb : bytes <= 1048576)
  (k : ∀ H' w',AgX (blkOf v) H H' -> CA H H' -> BlkN H v w' -> LsV V A es et lo H' w' (l ++ l2) -> K w' H') : wpOp F lo0 (.app es et bytes false x y) e H K := by
 have hm : l2.length ≠ 0 := fun h => hne (List.eq_nil_of_length_eq_zero h)
 have hyl := cells_of hg
 have hbytes : (l.length + l2.length) * bytes <= 1048576 * 1048576 := Nat.mul_le_mul hl hb
 have hne2 : l ++ l2 ≠ [] := fun h => hne (List.append_eq_nil_iff.1 h).2
 rcases hv with ⟨rfl,rfl⟩ | ⟨b,so,cs,h1,rfl,h3,h4,h5,h6,h7⟩
 ·simp only [List.length_nil,Nat.zero_add] at hbytes hl
  refine op_app_nil _ _ _ _ _ (n := 0) (c := 0) (a := ⟨b2,o2,none⟩) (m := l2.length) (c' := c2) (ys := ys) hx hy hm hg (by omega) (by omega) ?_
  refine k _ _ (AgX.app _ _ _) (CA.app _ _) (fun b hb => .inr ?_) (.inr ⟨H.length,true,ys,by omega,rfl,hne,by simpa using hl,get_new0 _ _,hyl,hr⟩)
  simp only [blkOf,sli,List.mem_singleton] at hb
  omega
 ·have hbl := (List.getElem?_eq_some_iff.1 h5).1
  refine op_app _ _ _ _ _ (b := ⟨b,0,none⟩) (n := l.length) (c := l.length) (a := ⟨b2,o2,none⟩) (m := l2.length) (c' := c2) (ys := ys) (kb := ⟨cs,es,et,true,so⟩) hx hy hm hg h5 ⟨by show lo0 <= b; omega,rfl,rfl,rfl,rfl,h6,by omega,by omega⟩ ?_
  simp only [Bool.false_eq_true,if_false,Bool.or_false]
  have hca : CA H (H.set b ⟨cs,es,et,false,so && l.length == 0⟩ ++ ([⟨cs ++ ys,es,et,true,so && l.length == 0⟩] : Heap)) := by
   intro b' k' hk'
   by_cases hbb : b' = b
   ·subst hbb
    rw [h5] at hk'
    cases hk'
    exact ⟨⟨cs,es,et,false,so && l.length == 0⟩,by rw [List.getElem?_append_left (by rw [List.length_set]; exact hbl),List.getElem?_set_self hbl],rfl⟩
   ·exact ⟨k',by rw [List.getElem?_append_left (by rw [List.length_set]; exact (List.getElem?_eq_some_iff.1 hk').1),List.getElem?_set_ne (fun h => hbb h.symm)]; exact hk',rfl⟩
  have hset : ∀ kb : Blk,(H.set b kb).length = H.length := fun kb => List.length_set
  refine k _ _ ((AgX.set H b _).trans (AgX.app [] _ _) (fun b' h _ => by simpa [blkOf,sli] using h) (fun b' h _ => by cases h)) hca (fun b' hb' => .inr ?_) (.inr ⟨H.length,so && l.length == 0,cs ++ ys,by omega,by rw [List.length_append],hne2,by rw [List.length_append]; exact hl,?_,by rw [List.length_append,List.length_append,h6,hyl,Nat.add_mul],fun i hi => ?_⟩)
  ·simp only [blkOf,sli,List.mem_singleton] at hb'
   omega
  ·conv => lhs; rw [<- hset ⟨cs,es,et,false,so && l.length == 0⟩]
   exact get_new0 _ _
  ·rw [List.length_append] at hi
   by_cases hlt : i < l.length
   ·rw [List.getElem_append_left hlt,take_es h6 hlt]
    exact h7 i hlt
   ·have hir : l.length + (i - l.length) = i := by omega
    rw [List.getElem_append_right (by omega)]
    have := drop_es (cs := cs) (ys := ys) (i := i - l.length) h6
    rw [hir] at this
    rw [this]
    exact hr (i - l.length) (by omega)
theorem op_app_ls1 {F : Nat -> Option IFn} {lo0 bytes : Nat} {x y : Opd} {e : Env} {ys : List Value} {a : α} {K : Value -> Heap -> Prop} (hv : LsV V A es et lo H v l) (hx : x.ev e = v) (hy : y.ev e = sli H.length 0 1) (hw : A.w = es) (hr : A.rd V ys a) (hlo0 : lo0 <= lo) (hlo : lo <= H.length) (hl : l.length < 1048576) (hb : bytes <= 1048576)
  (k : ∀ H' w',AgX (blkOf v) H H' -> CA H H' -> BlkN H v w' -> LsV V A es et lo H' w' (l ++ [a]) -> K w' H') : wpOp F lo0 (.app es et bytes false x y) e (H ++ [⟨ys,es,et,true,true⟩]) K := by
 have hyl : ys.length = es := by rw [A.len hr,hw]
 have hv' : LsV V A es et lo (H ++ [⟨ys,es,et,true,true⟩]) v l := hv.keep (Nat.le_refl _) (AgX.app [] H _) (fun _ _ => by simp)
 refine op_app_lsC (m := 1) (l2 := [a]) (b2 := H.length) (o2 := 0) (c2 := 1) (ys := ys) hv' hx hy (by simp) ?_ (fun i hi => ?_) hlo0 (by rw [List.length_append]; omega) (by simp; omega) hb fun H' w' h1 hc h2 h3 => k H' w' ?_ ((CA.app _ _).trans hc) ?_ h3
 ·rw [gc_new0,List.getElem?_cons_zero,inBlk_some,List.length_singleton,Nat.one_mul,Nat.zero_add,if_pos (by omega),List.drop_zero,List.take_of_length_le (by omega)]
 ·obtain rfl : i = 0 := by simpa using hi
  rw [Nat.zero_mul,List.drop_zero,List.take_of_length_le (by omega)]
  exact hr
 ·exact (AgX.app [] H _).trans h1 (fun _ h _ => by cases h) (fun _ h _ => h)
 ·intro b hb
  rcases h2 b hb with h | h
  ·exact .inl h
  ·exact .inr (by rw [List.length_append] at h; omega)
theorem op_app_lsN {F : Nat -> Option IFn} {lo0 lo2 bytes : Nat} {x y : Opd} {e : Env} {v2 : Value} {l2 : List α} {K : Value -> Heap -> Prop} (hv : LsV V A es et lo H v l) (hx : x.ev e = v) (hy : y.ev e = v2) (hv2 : LsV V A es et lo2 H v2 l2) (hlo0 : lo0 <= lo) (hlo : lo <= H.length) (hl : l.length + l2.length <= 1048576) (hb : bytes <= 1048576)
  (k : ∀ H' w',AgX (blkOf v) H H' -> CA H H' -> BlkN H v w' -> LsV V A es et lo H' w' (l ++ l2) -> K w' H') : wpOp F lo0 (.app es et bytes false x y) e H K := by
 rcases hv2 with ⟨rfl,rfl⟩ | ⟨b,so,cs,h1,rfl,h3,h4,h5,h6,h7⟩
 ·obtain ⟨a,ha⟩ := hv.shape
  refine op_app_zero _ _ _ _ _ (hx.trans ha) hy ?_
  rw [<- ha]
  exact k H v (AgX.refl _ _) (CA.refl _) (fun b hb => .inl hb) (by rw [List.append_nil]; exact hv)
 ·refine op_app_lsC (m := l2.length) hv hx hy h3 ?_ h7 hlo0 hlo hl hb k
  unfold getCells
  rw [h5]
  simp only [Nat.zero_add]
  rw [if_pos (by omega),List.drop_zero,List.take_of_length_le (by omega)]
end
end Go.Proofs.YtbjeldblaclpnaaGreatI
end
