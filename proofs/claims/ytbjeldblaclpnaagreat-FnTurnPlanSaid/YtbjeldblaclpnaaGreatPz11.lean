/- Texts of this proof, merged: K2, K3, K4, K5, K7, K8, K9, K10. -/
import Derived.Test.YtbjeldblaclpnaaGreatPz10
section
set_option linter.unusedVariables false
set_option linter.unusedSimpArgs false
namespace Go.Proofs.YtbjeldblaclpnaaGreatI
open Go Go.RowKit
def c_iMakes : IFn := ⟨1,12,[.t 2],
 .seq (.reg none [⟨some 1,none,.box (.t 0)⟩,⟨some 2,none,.mov (.c (.slice none 0 0))⟩])
 (.seq (.seq (.reg none [⟨some 3,none,.fad 0 (.t 1)⟩,⟨some 4,none,.load false 1 (.t 3)⟩,⟨some 5,none,.bin .eql (.t 4) (.c (.int .i64 1))⟩])
  (.cond (.t 5) (.seq (.reg none [⟨some 6,none,.fad 2 (.t 1)⟩,⟨some 7,none,.load true 3 (.t 6)⟩,⟨some 8,none,.call .k (.f 80) [.t 7]⟩,
    ⟨some 2,none,.mov (.t 8)⟩])
   (.ret)) (.skip)))
 (.seq (.reg none [⟨some 9,none,.fad 1 (.t 1)⟩,⟨some 10,none,.load false 1 (.t 9)⟩,⟨some 11,none,.lit 1 3 1 [(.int .i64 0)] [(0,1,(.t 10))]⟩,
   ⟨some 2,none,.mov (.t 11)⟩])
 (.ret)))⟩
def c_iDoes : IFn := ⟨6,71,[.t 12],
 .seq (.reg none [⟨some 6,none,.box (.t 0)⟩,⟨some 9,none,.box (.t 3)⟩,⟨some 10,none,.box (.t 4)⟩,⟨some 12,none,.mov (.c (.bool false))⟩])
 (.seq (.seq (.reg none [⟨some 15,none,.fad 0 (.t 10)⟩,⟨some 16,none,.load false 1 (.t 15)⟩,⟨some 17,none,.mov (.t 5)⟩,
   ⟨some 18,none,.call .q (.f 45) [.t 16,.t 17]⟩,⟨some 19,none,.un .not (.t 18)⟩,⟨some 20,none,.mov (.t 19)⟩,⟨some 21,some (20,false),.load true 2 (.t 6)⟩,
   ⟨some 22,some (20,false),.load true 8 (.t 9)⟩,
   ⟨some 23,some (20,false),.lit 8 54 1 [(.int .i64 0),(.int .i64 0),(.int .i64 0),(.int .i64 0),(.int .i64 0),(.int .i64 0),(.slice none 0 0),(.slice none 0 0)] [(0,8,(.t 22))]⟩,
   ⟨some 24,some (20,false),.call .q (.f 53) [.t 21,.t 23]⟩,⟨some 25,some (20,false),.mov (.t 1)⟩,⟨some 26,some (20,false),.mov (.t 5)⟩,
   ⟨some 27,some (20,false),.call .q (.f 50) [.t 25,.t 26]⟩,⟨some 28,some (20,false),.call .q (.f 49) [.t 24,.t 27]⟩,
   ⟨some 29,some (20,false),.un .not (.t 28)⟩,⟨some 30,none,.pick (.t 20) (.c (.bool true)) (.t 29)⟩])
  (.cond (.t 30) (.seq (.reg none [⟨some 12,none,.mov (.c (.bool false))⟩])
   (.ret)) (.skip)))
 (.seq (.seq (.reg none [⟨some 31,none,.load true 8 (.t 9)⟩,⟨some 32,none,.call .k (.f 54) [.t 31]⟩,⟨some 33,none,.len (.t 32)⟩,
   ⟨some 34,none,.mov (.c (.int .i64 0))⟩])
  (.block 0 (.loop (.seq (.reg none [⟨some 35,none,.bin .lss (.t 34) (.t 33)⟩])
   (.seq (.cond (.t 35) (.skip) (.exit 0))
   (.seq (.block 1 (.seq (.reg none [⟨some 36,none,.iad 1 (.t 32) (.t 34)⟩,⟨some 37,none,.load false 1 (.t 36)⟩,⟨some 14,none,.mov (.t 37)⟩])
    (.seq (.reg (some 16) [⟨some 38,none,.fad 0 (.t 6)⟩,⟨some 39,none,.load false 1 (.t 38)⟩,⟨some 40,none,.mov (.t 14)⟩,⟨some 41,none,.iad 2 (.t 39) (.t 40)⟩,
      ⟨some 42,none,.fad 0 (.t 41)⟩,⟨some 43,none,.load false 1 (.t 42)⟩,⟨some 44,none,.mov (.t 5)⟩,⟨some 45,none,.call .q (.f 45) [.t 43,.t 44]⟩,
      ⟨some 46,none,.un .not (.t 45)⟩,⟨some 47,none,.mov (.t 46)⟩,⟨some 48,some (47,false),.fad 0 (.t 10)⟩,⟨some 49,some (47,false),.load false 1 (.t 48)⟩,
      ⟨some 50,some (47,false),.mov (.t 2)⟩,⟨some 51,some (47,false),.mov (.t 14)⟩,⟨some 52,some (47,false),.iad 1 (.t 50) (.t 51)⟩,
      ⟨some 53,some (47,false),.load false 1 (.t 52)⟩,⟨some 54,some (47,false),.call .q (.f 45) [.t 49,.t 53]⟩,⟨some 55,some (47,false),.un .not (.t 54)⟩,
      ⟨some 56,none,.pick (.t 47) (.c (.bool true)) (.t 55)⟩])
    (.cond (.t 56) (.seq (.reg none [⟨some 12,none,.mov (.c (.bool false))⟩])
     (.ret)) (.skip)))))
   (.reg none [⟨some 57,none,.bin .add (.t 34) (.c (.int .i64 1))⟩,⟨some 34,none,.mov (.t 57)⟩])))))))
 (.seq (.reg (some 11) [⟨some 58,none,.fad 0 (.t 9)⟩,⟨some 59,none,.load false 1 (.t 58)⟩,⟨some 60,none,.bin .neq (.t 59) (.c (.int .i64 1))⟩,
   ⟨some 61,none,.mov (.t 60)⟩,⟨some 62,some (61,false),.fad 0 (.t 10)⟩,⟨some 63,some (61,false),.load false 1 (.t 62)⟩,⟨some 64,some (61,false),.mov (.t 2)⟩,
   ⟨some 65,some (61,false),.fad 1 (.t 9)⟩,⟨some 66,some (61,false),.load false 1 (.t 65)⟩,⟨some 67,some (61,false),.iad 1 (.t 64) (.t 66)⟩,
   ⟨some 68,some (61,false),.load false 1 (.t 67)⟩,⟨some 69,some (61,false),.call .q (.f 45) [.t 63,.t 68]⟩,
   ⟨some 70,none,.pick (.t 61) (.c (.bool true)) (.t 69)⟩,⟨some 12,none,.mov (.t 70)⟩])
 (.ret))))⟩
def c_sVars21 : IFn := ⟨1,29,[.t 2],
 .seq (.reg none [⟨some 1,none,.box (.t 0)⟩,⟨some 2,none,.mov (.c (.slice none 0 0))⟩])
 (.seq (.seq (.reg none [⟨some 3,none,.fad 0 (.t 1)⟩,⟨some 4,none,.load false 1 (.t 3)⟩])
  (.block 0 (.seq (.reg none [⟨some 6,none,.bin .eql (.t 4) (.c (.int .i64 1))⟩,⟨some 5,none,.mov (.t 6)⟩])
   (.cond (.t 5) (.seq (.seq (.reg none [⟨some 7,none,.fad 2 (.t 1)⟩,⟨some 8,none,.fad 0 (.t 7)⟩,⟨some 9,none,.load false 1 (.t 8)⟩])
    (.block 1 (.seq (.reg none [⟨some 11,none,.bin .eql (.t 9) (.c (.int .i64 1))⟩,⟨some 10,none,.mov (.t 11)⟩])
     (.cond (.t 10) (.seq (.reg none [⟨some 12,none,.lit 1 3 0 [] []⟩,⟨some 2,none,.mov (.t 12)⟩])
      (.ret)) (.seq (.reg none [⟨some 14,none,.bin .eql (.t 9) (.c (.int .i64 2))⟩,⟨some 13,none,.mov (.t 14)⟩])
      (.cond (.t 13) (.seq (.reg none [⟨some 15,none,.fad 2 (.t 1)⟩,⟨some 16,none,.fad 1 (.t 15)⟩,⟨some 17,none,.load false 1 (.t 16)⟩,
        ⟨some 18,none,.lit 1 3 1 [(.int .i64 0)] [(0,1,(.t 17))]⟩,⟨some 2,none,.mov (.t 18)⟩])
       (.ret)) (.skip)))))))
    (.seq (.reg none [⟨some 19,none,.fad 2 (.t 1)⟩,⟨some 20,none,.fad 1 (.t 19)⟩,⟨some 21,none,.load false 1 (.t 20)⟩,⟨some 22,none,.fad 2 (.t 1)⟩,
      ⟨some 23,none,.fad 2 (.t 22)⟩,⟨some 24,none,.load false 1 (.t 23)⟩,⟨some 25,none,.lit 1 3 2 [(.int .i64 0),(.int .i64 0)] [(0,1,(.t 21)),(1,1,(.t 24))]⟩,
      ⟨some 2,none,.mov (.t 25)⟩])
    (.ret))) (.skip)))))
 (.seq (.reg none [⟨some 26,none,.fad 1 (.t 1)⟩,⟨some 27,none,.load false 1 (.t 26)⟩,⟨some 28,none,.lit 1 3 1 [(.int .i64 0)] [(0,1,(.t 27))]⟩,
   ⟨some 2,none,.mov (.t 28)⟩])
 (.ret)))⟩
def makesL (s : Shal) : List Int := if s.1 = 1 then varsL s.2.2.1 else [s.2.1]
def MakesOk (F : Nat -> Option IFn) (f : Nat) : Prop := ∀ (H : Heap) (kk : Nat) (k x a b c g : Int) (tv ev : Value),one tv = true -> one ev = true -> (RgI k /\ RgI x /\ RgI a /\ RgI b /\ RgI c /\ RgI g) -> shB kk (k,x,(a,b,c),g) = true -> ∃ w H',KC F f [.agg #[.int .i64 k,.int .i64 x,.int .i64 a,.int .i64 b,.int .i64 c,.int .i64 g,tv,ev]] H w H' /\ (AgX [] H H' /\ SlR Co.int (vwl H.length [] H') w (makesL (k,x,(a,b,c),g)))
theorem iMakes_ok {F : Nat -> Option IFn} {f : Nat} (hf : F f = some c_iMakes) (gv : F 80 = some c_vars) : MakesOk F f := by
 intro H kk k x a b c g tv ev otv oev rg hsh
 refine KC.mk hf rfl ?_
 refine seq_reg ?_
 simp only [go_sem,binC,otv,oev]
 refine wpc_gen fun H1 hH1 => ?_
 have hx1 : AgX [] H H1 := hH1 ▸ AgX.app [] _ _
 have hb1 : H1[H.length]? = some ⟨[.int .i64 k,.int .i64 x,.int .i64 a,.int .i64 b,.int .i64 c,.int .i64 g,tv,ev],0,0,false,true⟩ := hH1 ▸ get_new0 _ _
 have hl1 : H1.length = H.length + 1 := by rw [hH1,List.length_append]; rfl
 clear hH1
 refine seq_assoc (seq_reg ?_)
 simp only [go_sem,binC,gc_of hb1,inBlk_some]
 by_cases k1 : k = 1
 ·simp only [go_sem,binC,beq_t k1]
  refine seq_cond (t := true) rfl ?_
  simp only [go_sem,binC]
  refine seq_assoc (seq_reg ?_)
  simp only [go_sem,binC,gc_of hb1,inBlk_some]
  obtain ⟨w,L,kc,hs⟩ := vars_okV gv H1 a b c rg.2.2.2.1 rg.2.2.2.2.1
  refine op_callK (by simp only [go_sem,binC]; exact kc) ?_
  simp only [go_sem,binC]
  refine seq_ret ⟨Or.inr rfl,_,(by (simp only [go_sem,binC]) <;> rfl),hx1.tr (AgX.app [] _ _),?_⟩
  unfold makesL
  rw [if_pos k1]
  exact hs.mono (vwl_sub (AgX.refl [] _) (by omega) fun b' _ _ h => ⟨by simp,h⟩)
 ·simp only [go_sem,binC,beq_f k1]
  refine seq_cond (t := false) rfl ?_
  simp only [go_sem,binC]
  refine seq_skip (seq_reg ?_)
  simp only [go_sem,binC,gc_of hb1,inBlk_some]
  refine wpc_ret ⟨Or.inr rfl,_,(by (simp only [go_sem,binC]) <;> rfl),hx1.tr (AgX.app [] _ _),?_⟩
  unfold makesL
  rw [if_neg k1]
  exact ints_sl (o := 0) (lo := H.length) (xs := []) (l := [x]) (get_new0 _ _) (by omega) (by simp) (by intro y hy; simp at hy; subst hy; exact rg.2.1) (Nat.zero_le _) (by simp)
theorem sVars21_ok {F : Nat -> Option IFn} {f : Nat} (hf : F f = some c_sVars21) : MakesOk F f := by
 intro H kk k x a b c g tv ev otv oev rg hsh
 refine KC.mk hf rfl ?_
 refine seq_reg ?_
 simp only [go_sem,binC,otv,oev]
 refine wpc_gen fun H1 hH1 => ?_
 have hx1 : AgX [] H H1 := hH1 ▸ AgX.app [] _ _
 have hb1 : H1[H.length]? = some ⟨[.int .i64 k,.int .i64 x,.int .i64 a,.int .i64 b,.int .i64 c,.int .i64 g,tv,ev],0,0,false,true⟩ := hH1 ▸ get_new0 _ _
 have hl1 : H1.length = H.length + 1 := by rw [hH1,List.length_append]; rfl
 clear hH1
 refine seq_assoc (seq_reg ?_)
 simp only [go_sem,binC,gc_of hb1,inBlk_some]
 refine seq_block ?_
 refine seq_reg ?_
 by_cases k1 : k = 1
 ·simp only [go_sem,binC,beq_t k1]
  refine wpc_cond (t := true) rfl ?_
  simp only [go_sem,binC]
  have hv : valB kk (a,b,c) = true := by
   have := hsh
   simp only [shB,Bool.and_eq_true] at this
   have h2 := this.2
   rwa [if_pos k1] at h2
  have hm : makesL (k,x,(a,b,c),g) = varsL (a,b,c) := by unfold makesL; rw [if_pos k1]
  rw [hm]
  refine seq_assoc (seq_reg ?_)
  simp only [go_sem,binC,gc_of hb1,inBlk_some]
  refine seq_block ?_
  refine seq_reg ?_
  by_cases a1 : a = 1
  ·simp only [go_sem,binC,beq_t a1]
   refine wpc_cond (t := true) rfl ?_
   simp only [go_sem,binC]
   refine seq_reg ?_
   simp only [go_sem,binC]
   refine wpc_ret ?_
   simp only [go_sem,binC,out_r,thenX_r]
   refine ⟨Or.inr rfl,_,(by (simp only [go_sem,binC]) <;> rfl),hx1.tr (AgX.app [] _ _),?_⟩
   have h1 : varsL (a,b,c) = [] := by subst a1; simp [varsL]
   rw [h1]
   exact ⟨by simp,_,rfl,.inl rfl⟩
  simp only [go_sem,binC,beq_f a1]
  refine wpc_cond (t := false) rfl ?_
  simp only [go_sem,binC]
  refine seq_reg ?_
  by_cases a2 : a = 2
  ·simp only [go_sem,binC,beq_t a2]
   refine wpc_cond (t := true) rfl ?_
   simp only [go_sem,binC]
   refine seq_reg ?_
   simp only [go_sem,binC,gc_of hb1,inBlk_some]
   refine wpc_ret ?_
   simp only [go_sem,binC,out_r,thenX_r]
   refine ⟨Or.inr rfl,_,(by (simp only [go_sem,binC]) <;> rfl),hx1.tr (AgX.app [] _ _),?_⟩
   have h1 : varsL (a,b,c) = [b] := by subst a2; simp [varsL]
   rw [h1]
   exact ints_sl (o := 0) (lo := H.length) (xs := []) (l := [b]) (get_new0 _ _) (by omega) (by simp) (by intro y hy; simp at hy; subst hy; exact rg.2.2.2.1) (Nat.zero_le _) (by simp)
  simp only [go_sem,binC,beq_f a2]
  refine wpc_cond (t := false) rfl ?_
  simp only [go_sem,binC]
  refine wpc_skip ?_
  simp only [go_sem,binC,out_n,thenX_n]
  have a34 : a = 3 \/ a = 4 := by
   unfold valB at hv
   simp only at hv
   rw [if_neg a1,if_neg a2] at hv
   by_cases h : a = 3 \/ a = 4
   ·exact h
   ·rw [if_neg h] at hv; cases hv
  refine seq_reg ?_
  simp only [go_sem,binC,gc_of hb1,inBlk_some]
  refine wpc_ret ?_
  simp only [go_sem,binC,out_r,thenX_r]
  refine ⟨Or.inr rfl,_,(by (simp only [go_sem,binC]) <;> rfl),hx1.tr (AgX.app [] _ _),?_⟩
  have h1 : varsL (a,b,c) = [b,c] := by simp [varsL,a2,a34]
  rw [h1]
  exact ints_sl (o := 0) (lo := H.length) (xs := []) (l := [b,c]) (get_new0 _ _) (by omega) (by simp) (by intro y hy; simp at hy; rcases hy with rfl | rfl; exact rg.2.2.2.1; exact rg.2.2.2.2.1) (Nat.zero_le _) (by simp)
 ·simp only [go_sem,binC,beq_f k1]
  refine wpc_cond (t := false) rfl ?_
  simp only [go_sem,binC]
  refine wpc_skip ?_
  simp only [go_sem,binC,out_n,thenX_n]
  refine seq_reg ?_
  simp only [go_sem,binC,gc_of hb1,inBlk_some]
  refine wpc_ret ⟨Or.inr rfl,_,(by (simp only [go_sem,binC]) <;> rfl),hx1.tr (AgX.app [] _ _),?_⟩
  unfold makesL
  rw [if_neg k1]
  exact ints_sl (o := 0) (lo := H.length) (xs := []) (l := [x]) (get_new0 _ _) (by omega) (by simp) (by intro y hy; simp at hy; subst hy; exact rg.2.1) (Nat.zero_le _) (by simp)
theorem bne_fJ {a b : Int} (h : a = b) : (a != b) = false := by simp [h]
theorem bne_tJ {a b : Int} (h : ¬ a = b) : (a != b) = true := by simp [h]
theorem makesL_in {kk : Nat} {s : Shal} (h : shB kk s = true) : ∀ v ∈ makesL s,0 <= v /\ v < kk := by
 obtain ⟨k,x,v,g⟩ := s
 simp only [shB,Bool.and_eq_true] at h
 intro y hy
 unfold makesL at hy
 simp only at hy
 by_cases k1 : k = 1
 ·rw [if_pos k1] at hy h
  exact varsL_in h.2 y hy
 ·rw [if_neg k1] at hy
  simp only [List.mem_singleton] at hy
  subst hy
  exact varB_i.1 h.1
def mkP (ls : List (Int × Int)) (homes : List Int) (own : Int × Int) (h v : Int) : Bool := hasB (ls.getD v.toNat (0,0)).1 h && hasB own.1 (homes.getD v.toNat 0)
def doesB (ls : List (Int × Int)) (ts homes : List Int) (s : Shal) (st : Int) (own : Int × Int) (h : Int) : Bool := (hasB own.1 h && witB st (byS ts h 3)) && ((makesL s).all (mkP ls homes own h) && (decide (s.1 ≠ 1) || hasB own.1 (homes.getD s.2.1.toNat 0)))
def stA (ls : List (Int × Int)) (s : AnyS) : Int := stT (s.1 + 1) ls s.2
def homesP (k : Nat) (homes : List Int) : Prop := homes.length = k /\ ∀ x ∈ homes,0 <= x /\ x <= 2
def okA (k : Nat) (s : AnyS) : Prop := shB k (shA s) = true /\ ∀ t ∈ allT (s.1 + 1) s.2,varB k t.2.1 = true
def DoesOk (F : Nat -> Option IFn) (f : Nat) : Prop := ∀ (H : Heap) (lv sv tw hw : Value) (cs : List Value) (ls : List (Int × Int)) (ts homes : List Int) (s : AnyS) (own : Int × Int) (h : Int),one sv = true -> SlR Co.p2 (vw 0 H) lv ls -> ls.all labB = true -> SlR Co.int (vw 0 H) tw ts -> trP ts -> SlR Co.int (vw 0 H) hw homes -> homesP ls.length homes -> Co.anyS.rd (vw 0 H) cs s -> okA ls.length s -> labB own = true -> 0 <= h -> h <= 2 ->
 QC F f [.agg #[lv,sv],tw,hw,.agg cs.toArray,.agg #[.int .i64 own.1,.int .i64 own.2],.int .i64 h] H (.bool (doesB ls ts homes (shA s) (stA ls s) own h))
theorem iDoes_ok {F : Nat -> Option IFn} {f : Nat} (hf : F f = some c_iDoes) (gh : HasOk F 45) (gw : WitOk F 49) (gb : ByOk F 50) (gs : ∀ n,STOk F 53 n) (gm : MakesOk F 54) : DoesOk F f := by
 intro H lv sv tw hw cs ls ts homes s own h osv r1 hlab r2 htr r3 hho rds hok hown hh0 hh2
 obtain ⟨_,la,rfl,_⟩ := id r1
 obtain ⟨_,ta,rfl,_⟩ := id r2
 obtain ⟨_,ha,rfl,_⟩ := id r3
 obtain ⟨sk,sx,sa,sbb,sc,sg,tv,ev,tl,el,hs2,rfl,rg,otv,oev,htl,hel⟩ := anyS_rd rds
 have hsh : shA s = (sk,sx,(sa,sbb,sc),sg) := by unfold shA; rw [hs2]
 obtain ⟨hok1,hok2⟩ := hok
 rw [hsh] at hok1
 have hvx : 0 <= sx /\ sx < ls.length := by
  have := hok1
  simp only [shB,Bool.and_eq_true] at this
  exact varB_i.1 this.1
 have hmin := makesL_in hok1
 obtain ⟨ho1,ho2⟩ := hown |> fun h => labB_i.1 h
 obtain ⟨hhl,hhr⟩ := hho
 have hst := stT_bd hlab (s.1 + 1) s.2
 have hby := byS_lt ts h 3
 have h8 : (2 : Int) ^ 3 = 8 := by decide
 rw [h8] at hby
 rw [hsh]
 refine QC.mk hf rfl ?_
 refine seq_reg ?_
 simp only [go_sem,binC,osv,otv,oev]
 refine wpc_gen fun H1 hH1 => ?_
 have hx1 : AgX [] H H1 := hH1 ▸ AgX.app [] _ _
 have hb6 : H1[H.length]? = some ⟨[.slice la ls.length ls.length,sv],0,0,false,true⟩ := hH1 ▸ get_new0 _ _
 have hb9 : H1[H.length + 1]? = some ⟨[.int .i64 sk,.int .i64 sx,.int .i64 sa,.int .i64 sbb,.int .i64 sc,.int .i64 sg,tv,ev],0,0,false,true⟩ := hH1 ▸ get_new _ _ 1
 have hb10 : H1[H.length + 2]? = some ⟨[.int .i64 own.1,.int .i64 own.2],0,0,false,true⟩ := hH1 ▸ get_new _ _ 2
 clear hH1
 have hl1 := (List.getElem?_eq_some_iff.1 hb10).1
 refine seq_assoc (seq_reg ?_)
 simp only [go_sem,binC,gc_of hb10,inBlk_some]
 refine op_callQ (by simp only [go_sem,binC]; exact gh H1 own.1 h ho1.1 ho1.2) ?_
 cases q1 : hasB own.1 h with
 | false =>
   simp only [go_sem,binC]
   refine seq_cond (t := true) rfl ?_
   simp only [go_sem,binC]
   refine seq_assoc (seq_reg ?_)
   simp only [go_sem,binC]
   refine seq_ret ⟨Or.inr rfl,.bool false,(by (simp only [go_sem,binC]) <;> rfl),?_,rfl⟩
   unfold doesB
   rw [q1]
   rfl
 | true =>
 simp only [go_sem,binC,gc_of hb6,gc_of hb9,inBlk_some,osv,otv,oev]
 generalize hH2 : H1 ++ [(⟨[.int .i64 sk,.int .i64 sx,.int .i64 sa,.int .i64 sbb,.int .i64 sc,.int .i64 sg,tv,ev],8,54,true,true⟩ : Blk)] = H2
 have hx2 : AgX [] H1 H2 := hH2 ▸ AgX.app [] _ _
 have hbl : H2[H1.length]? = some ⟨[.int .i64 sk,.int .i64 sx,.int .i64 sa,.int .i64 sbb,.int .i64 sc,.int .i64 sg,tv,ev],8,54,true,true⟩ := hH2 ▸ get_new0 _ _
 clear hH2
 have hx02 := hx1.tr hx2
 have hlist : SlR (Co.step (s.1 + 1)) (vw 0 H2) (sli H1.length 0 1) [s.2] := by
  refine ⟨by simp,_,rfl,.inr ⟨H1.length,0,rfl,fun i hi => ?_⟩⟩
  obtain rfl : i = 0 := by simpa using hi
  refine ⟨[.int .i64 sk,.int .i64 sx,.int .i64 sa,.int .i64 sbb,.int .i64 sc,.int .i64 sg,tv,ev],?_,(Co.step (s.1 + 1)).mono (agx_sub hx02) rds⟩
  unfold rng vw
  rw [if_pos (Nat.zero_le _),hbl,step_w]
  rfl
 have hsets := gs (s.1 + 1) H2 _ sv _ ls [s.2] osv (r1.mono (agx_sub hx02)) hlist hlab (fun t ht => hok2 t (by simpa [allL] using ht))
 have hst1 : stL (s.1 + 1) ls [s.2] = stA ls s := by
  unfold stL stA
  simp only [List.map_cons,List.map_nil,List.foldl_cons,List.foldl_nil]
  exact orS_0 hst
 rw [hst1] at hsets
 refine op_callQ (by simp only [go_sem,binC]; exact hsets) ?_
 simp only [go_sem,binC]
 refine op_callQ (by simp only [go_sem,binC]; exact gb H2 _ ts h (r2.mono (agx_sub hx02)) htr hh0 hh2) ?_
 simp only [go_sem,binC]
 refine op_callQ (by simp only [go_sem,binC]; exact gw H2 _ _ hst.1 hst.2 hby.1 (by omega)) ?_
 have hst2 : R7 (stA ls s) := hst
 have hb62 := hx2.get hb6 (by simp)
 have hb92 := hx2.get hb9 (by simp)
 have hb102 := hx2.get hb10 (by simp)
 have hl2 := hx2.1
 generalize hstg : stA ls s = st
 cases q2 : witB st (byS ts h 3) with
 | false =>
   simp only [go_sem,binC]
   refine seq_cond (t := true) rfl ?_
   simp only [go_sem,binC]
   refine seq_assoc (seq_reg ?_)
   simp only [go_sem,binC]
   refine seq_ret ⟨Or.inr rfl,.bool false,(by (simp only [go_sem,binC]) <;> rfl),?_,rfl⟩
   unfold doesB
   rw [q1,q2]
   rfl
 | true =>
 simp only [go_sem,binC]
 refine seq_cond (t := false) rfl ?_
 simp only [go_sem,binC]
 refine seq_skip (seq_assoc (seq_reg ?_))
 simp only [go_sem,binC,gc_of hb92,inBlk_some,otv,oev]
 obtain ⟨mw,H3,k3,hx3,hm3⟩ := gm H2 ls.length sk sx sa sbb sc sg tv ev otv oev rg hok1
 refine op_callK (by simp only [go_sem,binC]; exact k3) ?_
 obtain ⟨_,ma,rfl,_⟩ := id hm3
 simp only [go_sem,binC]
 have hx03 := hx02.tr hx3
 have hb63 := hx3.get hb62 (by simp)
 have hb93 := hx3.get hb92 (by simp)
 have hb103 := hx3.get hb102 (by simp)
 have r13 := r1.mono (agx_sub hx03)
 have r33 := r3.mono (agx_sub hx03)
 have hm3' := hm3.mono (vwl0 _ _ _)
 generalize hML : makesL (sk,sx,(sa,sbb,sc),sg) = ml at *
 have hdo : doesB ls ts homes (sk,sx,(sa,sbb,sc),sg) st own h = (ml.all (mkP ls homes own h) && (decide (sk ≠ 1) || hasB own.1 (homes.getD sx.toNat 0))) := by
  unfold doesB
  rw [q1,q2,hML]
  rfl
 rw [hdo]
 have hhome : ∀ v : Int,0 <= v -> v < ls.length -> ∃ hb ho,ha = some ⟨hb,ho,none⟩ /\ getCells H3 hb (ho + v.toNat) 1 = some [.int .i64 (homes.getD v.toNat 0)] := fun v h1 h2 => by
  have hl : v.toNat < homes.length := by omega
  obtain ⟨b,o,hv,hg⟩ := gcJ r33 hl
  simp only [Value.slice.injEq,and_true] at hv
  refine ⟨b,o,hv,?_⟩
  rw [hg]
  simp [List.getD,hl]
 have hlabel : ∀ v : Int,0 <= v -> v < ls.length -> ∃ lb lo',la = some ⟨lb,lo',none⟩ /\ getCells H3 lb (lo' + v.toNat * 2) 1 = some [.int .i64 (ls.getD v.toNat (0,0)).1] := fun v h1 h2 => by
  obtain ⟨lb,lo',hla,hgl0,_⟩ := lab_at r13 (H := H3) (fun _ _ h => h) h1 h2
  simp only [Value.slice.injEq,and_true] at hla
  have hgl1 := hgl0 []
  rw [List.append_nil] at hgl1
  have := gc_part (off := 0) (k := 1) hgl1 (by omega)
  exact ⟨lb,lo',hla,by simpa using this⟩
 refine seq_block (wpc_loop ?_)
 suffices hh : ∀ (m i : Nat) (e : Env),i + m = ml.length -> (ml.take i).all (mkP ls homes own h) = true -> e 2 = .slice ha homes.length homes.length -> e 5 = .int .i64 h -> e 6 = ptr H.length 0 -> e 9 = ptr (H.length + 1) 0 -> e 10 = ptr (H.length + 2) 0 -> e 32 = .slice ma ml.length ml.length -> e 33 = .int .i64 ml.length -> e 34 = .int .i64 i -> W F H.length _ e H3 _ from
  hh ml.length 0 _ (by omega) rfl (by simp only [go_sem,binC]) (by simp only [go_sem,binC]) (by simp only [go_sem,binC]) (by simp only [go_sem,binC]) (by simp only [go_sem,binC]) (by simp only [go_sem,binC]) (by simp only [go_sem,binC]) (by (simp only [go_sem,binC]) <;> rfl)
 intro m
 induction m with
 | zero =>
   intro i e hi hall e2 e5 e6 e9 e10 e32 e33 e34
   rw [List.take_of_length_le (by omega)] at hall
   refine lp_step ?_
   refine seq_reg ?_
   simp only [go_sem,binC,e33,e34]
   refine seq_cond (t := false) (by simp only [go_sem,binC]; rw [decide_eq_false (by omega)]) ?_
   simp only [go_sem,binC]
   refine seq_exit ?_
   simp only [go_sem,binC,thenX_e,out_e,thenX_n]
   refine seq_regD ?_
   simp only [go_sem,binC,e9,gc_of hb93,inBlk_some]
   by_cases k1 : sk = 1
   ·simp only [go_sem,binC,bne_fJ k1]
    obtain ⟨hb,ho,rfl,hg⟩ := hhome sx hvx.1 hvx.2
    simp only [go_sem,binC,e2,e9,e10,gc_of hb93,gc_of hb103,inBlk_some]
    refine ⟨⟨by omega,by omega⟩,?_⟩
    simp only [go_sem,binC,Int.toNat_natCast,Nat.mul_one,hg]
    refine op_callQ (by simp only [go_sem,binC]; exact gh H3 own.1 _ ho1.1 ho1.2) ?_
    simp only [go_sem,binC]
    refine wpc_ret ⟨Or.inr rfl,_,(by (simp only [go_sem,binC]) <;> rfl),?_,rfl⟩
    rw [hall,decide_eq_false (by simpa using k1)]
    rfl
   ·simp only [go_sem,binC,bne_tJ k1]
    refine wpc_ret ⟨Or.inr rfl,_,(by (simp only [go_sem,binC]) <;> rfl),?_,rfl⟩
    rw [hall,decide_eq_true (by simpa using k1)]
    rfl
 | succ m ih =>
   intro i e hi hall e2 e5 e6 e9 e10 e32 e33 e34
   have hil : i < ml.length := by omega
   have hw1 : IntKind.i64.wrap ((i : Int) + 1) = ((i + 1 : Nat) : Int) := by rw [wrap_id (by omega) (by omega)]; omega
   have hvi := hmin _ (List.getElem_mem hil)
   obtain ⟨mb,mo,hmv,hmg⟩ := gcJ hm3' hil
   simp only [Value.slice.injEq,and_true] at hmv
   subst hmv
   obtain ⟨lb,lo',rfl,hlg⟩ := hlabel _ hvi.1 hvi.2
   obtain ⟨hb,ho,rfl,hhg⟩ := hhome _ hvi.1 hvi.2
   have hlx := labB_i.1 (lab_getD hlab ml[i].toNat)
   have hPf : mkP ls homes own h ml[i] = false -> ml.all (mkP ls homes own h) = false := fun hp => by
    rw [Bool.eq_false_iff]
    intro hall'
    have := List.all_eq_true.1 hall' _ (List.getElem_mem hil)
    rw [hp] at this
    cases this
   refine lp_step ?_
   refine seq_reg ?_
   simp only [go_sem,binC,e33,e34]
   refine seq_cond (t := true) (by simp only [go_sem,binC]; rw [decide_eq_true (by omega)]) ?_
   simp only [go_sem,binC]
   refine seq_skip (seq_block ?_)
   refine seq_reg ?_
   simp only [go_sem,binC,e32,e34]
   refine ⟨⟨by omega,by omega⟩,?_⟩
   simp only [go_sem,binC,Int.toNat_natCast,Nat.mul_one,hmg]
   refine seq_regD ?_
   simp only [go_sem,binC,e5,e6,gc_of hb63,inBlk_some]
   refine ⟨⟨by omega,by omega⟩,?_⟩
   simp only [go_sem,binC,hlg,e5]
   refine op_callQ (by simp only [go_sem,binC,e5]; exact gh H3 _ h hlx.1.1 hlx.1.2) ?_
   cases p1 : hasB (ls.getD ml[i].toNat (0,0)).1 h with
   | false =>
     simp only [go_sem,binC]
     refine wpc_cond (t := true) rfl ?_
     simp only [go_sem,binC]
     refine seq_reg ?_
     simp only [go_sem,binC]
     refine wpc_ret ?_
     simp only [go_sem,binC,out_r,thenX_r]
     refine ⟨Or.inr rfl,.bool false,(by (simp only [go_sem,binC]) <;> rfl),?_,rfl⟩
     rw [hPf (by unfold mkP; rw [p1]; rfl)]
     rfl
   | true =>
   simp only [go_sem,binC,e2,e10,gc_of hb103,inBlk_some]
   refine ⟨⟨by omega,by omega⟩,?_⟩
   simp only [go_sem,binC,Int.toNat_natCast,Nat.mul_one,hhg]
   refine op_callQ (by simp only [go_sem,binC]; exact gh H3 own.1 _ ho1.1 ho1.2) ?_
   cases p2 : hasB own.1 (homes.getD ml[i].toNat 0) with
   | false =>
     simp only [go_sem,binC]
     refine wpc_cond (t := true) rfl ?_
     simp only [go_sem,binC]
     refine seq_reg ?_
     simp only [go_sem,binC]
     refine wpc_ret ?_
     simp only [go_sem,binC,out_r,thenX_r]
     refine ⟨Or.inr rfl,.bool false,(by (simp only [go_sem,binC]) <;> rfl),?_,rfl⟩
     rw [hPf (by unfold mkP; rw [p1,p2]; rfl)]
     rfl
   | true =>
   simp only [go_sem,binC]
   refine wpc_cond (t := false) rfl ?_
   simp only [go_sem,binC]
   refine wpc_skip ?_
   simp only [go_sem,binC,out_n,thenX_n]
   refine wpc_reg ?_
   simp only [go_sem,binC,e34,hw1]
   simp only [go_sem,binC,thenX_n]
   refine ih (i + 1) _ (by omega) ?_ (by simp only [go_sem,binC,e2]) (by simp only [go_sem,binC,e5]) (by simp only [go_sem,binC,e6]) (by simp only [go_sem,binC,e9]) (by simp only [go_sem,binC,e10]) (by simp only [go_sem,binC,e32]) (by simp only [go_sem,binC,e33]) (by simp only [go_sem,binC])
   rw [List.take_add_one,List.getElem?_eq_getElem hil,List.all_append,hall]
   simp only [Option.toList,List.all_cons,List.all_nil,Bool.true_and,Bool.and_true]
   unfold mkP
   rw [p1,p2]
   rfl
end Go.Proofs.YtbjeldblaclpnaaGreatI
end
section
set_option linter.unusedVariables false
set_option linter.unusedSimpArgs false
namespace Go.Proofs.YtbjeldblaclpnaaGreatI
open Go Go.RowKit
def c_iHome1 : IFn := ⟨4,29,[.t 8],
 .seq (.reg none [⟨some 4,none,.box (.t 0)⟩,⟨some 8,none,.mov (.c (.bool false))⟩])
 (.seq (.reg (some 18) [⟨some 9,none,.fad 0 (.t 4)⟩,⟨some 10,none,.load false 1 (.t 9)⟩,⟨some 11,none,.mov (.t 2)⟩,⟨some 12,none,.iad 2 (.t 10) (.t 11)⟩,
   ⟨some 13,none,.fad 0 (.t 12)⟩,⟨some 14,none,.load false 1 (.t 13)⟩,⟨some 15,none,.mov (.t 3)⟩,⟨some 16,none,.call .q (.f 45) [.t 14,.t 15]⟩,
   ⟨some 17,none,.mov (.t 16)⟩,⟨some 18,some (17,true),.fad 0 (.t 4)⟩,⟨some 19,some (17,true),.load false 1 (.t 18)⟩,⟨some 20,some (17,true),.mov (.t 2)⟩,
   ⟨some 21,some (17,true),.iad 2 (.t 19) (.t 20)⟩,⟨some 22,some (17,true),.fad 1 (.t 21)⟩,⟨some 23,some (17,true),.load false 1 (.t 22)⟩,
   ⟨some 24,some (17,true),.mov (.t 1)⟩,⟨some 25,some (17,true),.mov (.t 3)⟩,⟨some 26,some (17,true),.call .q (.f 50) [.t 24,.t 25]⟩,
   ⟨some 27,some (17,true),.call .q (.f 49) [.t 23,.t 26]⟩,⟨some 28,none,.pick (.t 17) (.t 27) (.c (.bool false))⟩,⟨some 8,none,.mov (.t 28)⟩])
 (.ret))⟩
def hmB (ls : List (Int × Int)) (ts : List Int) (v h : Int) : Bool := hasB (ls.getD v.toNat (0,0)).1 h && witB (ls.getD v.toNat (0,0)).2 (byS ts h 3)
def HomeI (F : Nat -> Option IFn) (f : Nat) : Prop := ∀ (H : Heap) (lv sv tw : Value) (ls : List (Int × Int)) (ts : List Int) (v h : Int),one sv = true -> SlR Co.p2 (vw 0 H) lv ls -> ls.all labB = true -> SlR Co.int (vw 0 H) tw ts -> trP ts -> 0 <= v -> v < ls.length -> 0 <= h -> h <= 2 -> QC F f [.agg #[lv,sv],tw,.int .i64 v,.int .i64 h] H (.bool (hmB ls ts v h))
theorem iHome1_ok {F : Nat -> Option IFn} {f : Nat} (hf : F f = some c_iHome1) (gh : HasOk F 45) (gw : WitOk F 49) (gb : ByOk F 50) : HomeI F f := by
 intro H lv sv tw ls ts v h osv r1 hlab r2 htr hv0 hv1 hh0 hh2
 obtain ⟨_,la,rfl,_⟩ := id r1
 obtain ⟨_,ta,rfl,_⟩ := id r2
 have hlx := labB_i.1 (lab_getD hlab v.toNat)
 have hby := byS_lt ts h 3
 have h8 : (2 : Int) ^ 3 = 8 := by decide
 rw [h8] at hby
 refine QC.mk hf rfl ?_
 refine seq_reg ?_
 simp only [go_sem,binC,osv]
 refine wpc_gen fun H1 hH1 => ?_
 have hx1 : AgX [] H H1 := hH1 ▸ AgX.app [] _ _
 have hb1 : H1[H.length]? = some ⟨[.slice la ls.length ls.length,sv],0,0,false,true⟩ := hH1 ▸ get_new0 _ _
 clear hH1
 obtain ⟨lb,lo',hla,hgl0,_⟩ := lab_at (r1.mono (agx_sub hx1)) (H := H1) (fun _ _ h => h) hv0 hv1
 simp only [Value.slice.injEq,and_true] at hla
 subst hla
 have hgl := hgl0 []
 rw [List.append_nil] at hgl
 have g0 : getCells H1 lb (lo' + v.toNat * 2) 1 = some [.int .i64 (ls.getD v.toNat (0,0)).1] := by have := gc_part (off := 0) (k := 1) hgl (by omega); simpa using this
 have g1 : getCells H1 lb (lo' + v.toNat * 2 + 1) 1 = some [.int .i64 (ls.getD v.toNat (0,0)).2] := gc_part (off := 1) (k := 1) hgl (by omega)
 refine seq_regD ?_
 simp only [go_sem,binC,gc_of hb1,inBlk_some]
 refine ⟨⟨by omega,by omega⟩,?_⟩
 simp only [go_sem,binC,g0]
 refine op_callQ (by simp only [go_sem,binC]; exact gh H1 _ h hlx.1.1 hlx.1.2) ?_
 unfold hmB
 cases q1 : hasB (ls.getD v.toNat (0,0)).1 h with
 | false =>
   simp only [go_sem,binC]
   exact wpc_ret ⟨Or.inr rfl,_,(by (simp only [go_sem,binC]) <;> rfl),rfl,rfl⟩
 | true =>
   simp only [go_sem,binC,gc_of hb1,inBlk_some]
   refine ⟨⟨by omega,by omega⟩,?_⟩
   simp only [go_sem,binC,g1]
   refine op_callQ (by simp only [go_sem,binC]; exact gb H1 _ ts h (r2.mono (agx_sub hx1)) htr hh0 hh2) ?_
   simp only [go_sem,binC]
   refine op_callQ (by simp only [go_sem,binC]; exact gw H1 _ _ hlx.2.1 hlx.2.2 hby.1 (by omega)) ?_
   simp only [go_sem,binC]
   exact wpc_ret ⟨Or.inr rfl,_,(by (simp only [go_sem,binC]) <;> rfl),rfl,rfl⟩
theorem sl_intsJ {H : Heap} {v : Value} {l : List Int} (h : SlR Co.int (vw 0 H) v l) (hl : l ≠ []) : ∃ b o,v = .slice (some ⟨b,o,none⟩) l.length l.length /\ getCells H b o (l.length * 1) = some (ints l) := by
 obtain ⟨b,o,ys,h1,h2,h3,h4⟩ := sl_cells (w := 1) rfl h hl
 refine ⟨b,o,h1,?_⟩
 have : ys = ints l := by
  refine List.ext_getElem (by simp [ints]; omega) fun i hi hj => ?_
  have hil : i < l.length := by omega
  obtain ⟨h5,_⟩ := h4 i hil
  have h6 : (ys.drop (i * 1)).head? = some (.int .i64 l[i]) := by
   cases hd : ys.drop (i * 1) with
   | nil => rw [hd] at h5; cases h5
   | cons c r => rw [hd] at h5; simpa using h5
  rw [List.head?_drop,Nat.mul_one,List.getElem?_eq_getElem hi] at h6
  simpa [ints] using h6
 rw [h2,this]
theorem sl_rg {V : Vw} {v : Value} {l : List Int} (h : SlR Co.int V v l) : ∀ x ∈ l,RgI x := by
 intro x hx
 obtain ⟨i,hi,rfl⟩ := List.getElem_of_mem hx
 obtain ⟨_,a,rfl,h2⟩ := h
 rcases h2 with h2 | ⟨b,o,rfl,h2⟩
 ·rw [h2] at hi; simp at hi
 ·obtain ⟨cs,h3,h4⟩ := h2 i hi
  exact h4.2
def hostsL (P : Int -> Bool) (j : Nat) : List Int := (([0,1,2] : List Int).take j).filter P
def hmL (ls : List (Int × Int)) (ts : List Int) : Nat -> List (List Int)
 | 0 => [[]]
 | v + 1 => (hmL ls ts v).flatMap fun l => (hostsL (hmB ls ts v) 3).map fun h => l ++ [h]
theorem hostsL_rg {P : Int -> Bool} {j : Nat} : ∀ x ∈ hostsL P j,0 <= x /\ x <= 2 := by
 intro x hx
 have := List.mem_of_mem_take (List.mem_filter.1 hx).1
 simp only [List.mem_cons,List.not_mem_nil,or_false] at this
 omega
theorem hmL_el {ls : List (Int × Int)} {ts : List Int} : ∀ v,∀ l ∈ hmL ls ts v,l.length = v /\ (∀ x ∈ l,0 <= x /\ x <= 2) /\ ∀ i (h : i < l.length),hmB ls ts i l[i] = true
 | 0 => by
   intro l hl
   simp only [hmL,List.mem_singleton] at hl
   subst hl
   exact ⟨rfl,by simp,fun i h => by simp at h⟩
 | v + 1 => by
   intro l hl
   simp only [hmL,List.mem_flatMap,List.mem_map] at hl
   obtain ⟨l0,h1,x,h2,rfl⟩ := hl
   obtain ⟨q1,q2,q3⟩ := hmL_el v l0 h1
   have hx := hostsL_rg x h2
   have hP : hmB ls ts v x = true := (List.mem_filter.1 h2).2
   refine ⟨by simp [q1],fun y hy => ?_,fun i hi => ?_⟩
   ·simp only [List.mem_append,List.mem_singleton] at hy
    rcases hy with hy | rfl
    ·exact q2 y hy
    ·exact hx
   ·rw [List.length_append,List.length_singleton] at hi
    by_cases hlt : i < l0.length
    ·rw [List.getElem_append_left hlt]
     exact q3 i hlt
    ·obtain rfl : i = l0.length := by omega
     simp only [List.getElem_concat_length]
     rw [q1]
     exact hP
end Go.Proofs.YtbjeldblaclpnaaGreatI
end
section
set_option linter.unusedVariables false
set_option linter.unusedSimpArgs false
namespace Go.Proofs.YtbjeldblaclpnaaGreatI
open Go Go.RowKit
def c_iHostsOk : IFn := ⟨2,14,[.t 4],
 .seq (.reg none [⟨some 4,none,.mov (.c (.bool false))⟩])
 (.seq (.reg none [⟨some 5,none,.mov (.t 0)⟩,⟨some 6,none,.len (.t 5)⟩,⟨some 7,none,.mov (.t 1)⟩,⟨some 8,none,.bin .eql (.t 6) (.t 7)⟩,
   ⟨some 9,none,.mov (.t 8)⟩,⟨some 10,some (9,true),.mov (.t 0)⟩,⟨some 11,some (9,true),.call .q (.f 46) [.t 10,.f 47]⟩,
   ⟨some 12,some (9,true),.un .not (.t 11)⟩,⟨some 13,none,.pick (.t 9) (.t 12) (.c (.bool false))⟩,⟨some 4,none,.mov (.t 13)⟩])
 (.ret))⟩
def c_hk1 : IFn := ⟨1,6,[.t 2],
 .seq (.reg none [⟨some 2,none,.mov (.c (.bool false))⟩])
 (.seq (.reg none [⟨some 3,none,.mov (.t 0)⟩,⟨some 4,none,.call .q (.f 48) [.t 3]⟩,⟨some 5,none,.un .not (.t 4)⟩,⟨some 2,none,.mov (.t 5)⟩])
 (.ret))⟩
def c_cfInt : IFn := ⟨2,9,[.t 4],
 .seq (.reg none [⟨some 4,none,.mov (.c (.bool false))⟩])
 (.seq (.reg none [⟨some 5,none,.mov (.t 0)⟩,⟨some 6,none,.mov (.t 1)⟩,⟨some 7,none,.call .q (.f 78) [.t 5,.t 6]⟩,
   ⟨some 8,none,.bin .geq (.t 7) (.c (.int .i64 0))⟩,⟨some 4,none,.mov (.t 8)⟩])
 (.ret))⟩
def c_ifInt : IFn := ⟨2,19,[.t 4],
 .seq (.reg none [⟨some 4,none,.mov (.c (.int .i64 0))⟩])
 (.seq (.seq (.reg none [⟨some 6,none,.mov (.t 0)⟩,⟨some 7,none,.len (.t 6)⟩,⟨some 8,none,.mov (.c (.int .i64 0))⟩])
  (.block 0 (.loop (.seq (.reg none [⟨some 9,none,.bin .lss (.t 8) (.t 7)⟩])
   (.seq (.cond (.t 9) (.skip) (.exit 0))
   (.seq (.block 1 (.seq (.reg none [⟨some 10,none,.mov (.t 8)⟩,⟨some 5,none,.mov (.t 10)⟩])
    (.seq (.reg none [⟨some 11,none,.mov (.t 1)⟩,⟨some 12,none,.mov (.t 0)⟩,⟨some 13,none,.mov (.t 5)⟩,⟨some 14,none,.iad 1 (.t 12) (.t 13)⟩,
      ⟨some 15,none,.load false 1 (.t 14)⟩,⟨some 16,none,.call .q (.t 11) [.t 15]⟩])
    (.cond (.t 16) (.seq (.reg none [⟨some 17,none,.mov (.t 5)⟩,⟨some 4,none,.mov (.t 17)⟩])
     (.ret)) (.skip)))))
   (.reg none [⟨some 18,none,.bin .add (.t 8) (.c (.int .i64 1))⟩,⟨some 8,none,.mov (.t 18)⟩])))))))
 (.seq (.reg none [⟨some 4,none,.mov (.c (.int .i64 (-1)))⟩])
 (.ret)))⟩
def firstH (P : Int -> Bool) : Int := if P 0 = true then 0 else if P 1 = true then 1 else if P 2 = true then 2 else -1
def doerV (ls : List (Int × Int)) (ts homes : List Int) (s : Shal) (st : Int) (own : Int × Int) : Int := firstH (doesB ls ts homes s st own)
def trK (ts : List Int) : Bool := decide (ts.length = 3) && (List.range 3).all fun i => inB (ts.getD i 0) 0 7 && hasB (ts.getD i 0) (i : Int)
theorem trK_iff {ts : List Int} : trK ts = true ↔ trP ts := by
 unfold trK trP
 simp only [Bool.and_eq_true,decide_eq_true_eq,List.all_eq_true,List.mem_range]
 refine and_congr_right fun hl => ⟨fun h i hi => ?_,fun h i hi => ?_⟩
 ·have := h i (by omega)
  rwa [List.getD_eq_getElem?_getD,List.getElem?_eq_getElem hi] at this
 ·rw [List.getD_eq_getElem?_getD,List.getElem?_eq_getElem (by omega)]
  exact h i (by omega)
theorem TrOk.k {F : Nat -> Option IFn} {f : Nat} (h : TrOk F f) : ∀ (H : Heap) (u : Value) (ts : List Int),SlR Co.int (vw 0 H) u ts -> QC F f [u] H (.bool (trK ts)) := by
 intro H u ts hu
 obtain ⟨b,h1,h2⟩ := h H u ts hu
 have : b = trK ts := by rw [Bool.eq_iff_iff,h2,trK_iff]
 exact this ▸ h1
def hostsB (l : List Int) : Bool := l.all fun h => inB h 0 2
theorem ifInt_ok {F : Nat -> Option IFn} {f g : Nat} {first cap : Array Value} {P : Int -> Bool} (hf : F f = some c_ifInt) (H : Heap) (gp : ∀ x,QC F g (first.toList ++ [.int .i64 x] ++ cap.toList) H (.bool (P x))) : ∀ (v : Value) (l : List Int),SlR Co.int (vw 0 H) v l -> ∃ r : Int,QC F f [v,.func (.func g) first cap] H (.int .i64 r) /\ (0 <= r ↔ l.any P = true) := by
 intro v l hv
 have hv0 := hv
 obtain ⟨hl0,a,rfl,_⟩ := id hv
 suffices hh : ∃ w,QC F f [.slice a l.length l.length,.func (.func g) first cap] H w /\ ∃ r : Int,w = .int .i64 r /\ (0 <= r ↔ l.any P = true) by
  obtain ⟨w,h1,r,rfl,h2⟩ := hh
  exact ⟨r,h1,h2⟩
 refine QC.mkE hf rfl ?_
 refine seq_reg ?_
 simp only [go_sem,binC]
 refine seq_assoc (seq_reg ?_)
 simp only [go_sem,binC]
 refine seq_block (wpc_loop ?_)
 suffices hh : ∀ (m i : Nat) (e : Env),i + m = l.length -> (l.take i).any P = false -> e 0 = .slice a l.length l.length -> e 1 = .func (.func g) first cap -> e 7 = .int .i64 l.length -> e 8 = .int .i64 i -> W F H.length _ e H _ from
  hh l.length 0 _ (by omega) (by simp) (by simp only [go_sem,binC]) (by simp only [go_sem,binC]) (by simp only [go_sem,binC]) (by (simp only [go_sem,binC]) <;> rfl)
 intro m
 induction m with
 | zero =>
   intro i e hi hn e0 e1 e7 e8
   rw [List.take_of_length_le (by omega)] at hn
   refine lp_step ?_
   refine seq_reg ?_
   simp only [go_sem,binC,e7,e8]
   refine seq_cond (t := false) (by simp only [go_sem,binC]; rw [decide_eq_false (by omega)]) ?_
   simp only [go_sem,binC]
   refine seq_exit ?_
   simp only [go_sem,binC,thenX_e,out_e,thenX_n]
   refine seq_reg ?_
   simp only [go_sem,binC]
   exact wpc_ret ⟨Or.inr rfl,.int .i64 (-1),(by (simp only [go_sem,binC]) <;> rfl),⟨-1,rfl,⟨fun h => by omega,fun h => by rw [hn] at h; cases h⟩⟩,rfl⟩
 | succ m ih =>
   intro i e hi hn e0 e1 e7 e8
   have hil : i < l.length := by omega
   have hw1 : IntKind.i64.wrap ((i : Int) + 1) = ((i + 1 : Nat) : Int) := by rw [wrap_id (by omega) (by omega)]; omega
   obtain ⟨b,o,hv1,hg⟩ := gcJ hv0 hil
   simp only [Value.slice.injEq,and_true] at hv1
   subst hv1
   refine lp_step ?_
   refine seq_reg ?_
   simp only [go_sem,binC,e7,e8]
   refine seq_cond (t := true) (by simp only [go_sem,binC]; rw [decide_eq_true (by omega)]) ?_
   simp only [go_sem,binC]
   refine seq_skip (seq_block (seq_reg ?_))
   simp only [go_sem,binC,e8]
   refine seq_reg ?_
   simp only [go_sem,binC,e0,e1]
   refine ⟨⟨by omega,by omega⟩,?_⟩
   simp only [go_sem,binC,Int.toNat_natCast,Nat.mul_one,hg,e1]
   refine op_callQc (g := g) (first := first) (cap := cap) (by simp only [go_sem,binC,e1]) (by simp only [go_sem,binC]; exact gp l[i]) ?_
   cases hx : P l[i] with
   | true =>
     simp only [go_sem,binC]
     refine wpc_cond (t := true) rfl ?_
     simp only [go_sem,binC]
     refine seq_reg ?_
     simp only [go_sem,binC]
     refine wpc_ret ?_
     simp only [go_sem,binC,out_r,thenX_r]
     exact ⟨Or.inr rfl,.int .i64 i,(by (simp only [go_sem,binC]) <;> rfl),⟨i,rfl,⟨fun _ => List.any_eq_true.2 ⟨_,List.getElem_mem hil,hx⟩,fun _ => by omega⟩⟩,rfl⟩
   | false =>
     simp only [go_sem,binC]
     refine wpc_cond (t := false) rfl ?_
     simp only [go_sem,binC]
     refine wpc_skip ?_
     simp only [go_sem,binC,out_n,thenX_n]
     refine wpc_reg ?_
     simp only [go_sem,binC,e8,hw1]
     simp only [go_sem,binC,thenX_n]
     refine ih (i + 1) _ (by omega) ?_ (by simp only [go_sem,binC,e0]) (by simp only [go_sem,binC,e1]) (by simp only [go_sem,binC,e7]) (by simp only [go_sem,binC])
     rw [List.take_add_one,List.getElem?_eq_getElem hil,List.any_append,hn]
     simp [hx]
theorem cfInt_ok {F : Nat -> Option IFn} {f g : Nat} {first cap : Array Value} {P : Int -> Bool} (hf : F f = some c_cfInt) (gi : F 78 = some c_ifInt) (H : Heap) (gp : ∀ x,QC F g (first.toList ++ [.int .i64 x] ++ cap.toList) H (.bool (P x))) : ∀ (v : Value) (l : List Int),SlR Co.int (vw 0 H) v l -> QC F f [v,.func (.func g) first cap] H (.bool (l.any P)) := by
 intro v l hv
 obtain ⟨r,h1,h2⟩ := ifInt_ok gi H gp v l hv
 refine QC.mk hf rfl ?_
 refine seq_reg ?_
 simp only [go_sem,binC]
 refine seq_reg ?_
 simp only [go_sem,binC]
 refine op_callQ (by simp only [go_sem,binC]; exact h1) ?_
 simp only [go_sem,binC]
 refine wpc_ret ⟨Or.inr rfl,_,(by (simp only [go_sem,binC]) <;> rfl),?_,rfl⟩
 have : decide (0 <= r) = l.any P := by
  rw [Bool.eq_iff_iff,decide_eq_true_eq]
  exact h2
 rw [this]
def HostsI (F : Nat -> Option IFn) (f : Nat) : Prop := ∀ (H : Heap) (v : Value) (l : List Int) (m : Int),SlR Co.int (vw 0 H) v l -> QC F f [v,.int .i64 m] H (.bool (decide ((l.length : Int) = m) && hostsB l))
theorem iHostsOk_ok {F : Nat -> Option IFn} {f : Nat} (hf : F f = some c_iHostsOk) (gc : F 46 = some c_cfInt) (gi : F 78 = some c_ifInt) (gk : F 47 = some c_hk1) (gh : ∀ (H : Heap) (a : Int),QC F 48 [.int .i64 a] H (.bool (inB a 0 2))) : HostsI F f := by
 intro H v l m hv
 obtain ⟨_,a,rfl,_⟩ := id hv
 have hk : ∀ (H : Heap) (x : Int),QC F 47 [.int .i64 x] H (.bool (!inB x 0 2)) := fun H x => by
  refine QC.mk gk rfl ?_
  refine seq_reg ?_
  simp only [go_sem,binC]
  refine seq_reg ?_
  simp only [go_sem,binC]
  refine op_callQ (by simp only [go_sem,binC]; exact gh H x) ?_
  simp only [go_sem,binC]
  exact wpc_ret ⟨Or.inr rfl,_,(by (simp only [go_sem,binC]) <;> rfl),rfl,rfl⟩
 have hcf := cfInt_ok (g := 47) (first := #[]) (cap := #[]) (P := fun x => !inB x 0 2) gc gi H (fun x => by simpa using hk H x) _ l hv
 refine QC.mk hf rfl ?_
 refine seq_reg ?_
 simp only [go_sem,binC]
 refine seq_reg ?_
 simp only [go_sem,binC]
 by_cases hl : (l.length : Int) = m
 ·simp only [go_sem,binC,beq_t hl]
  refine op_callQ (by simp only [go_sem,binC]; exact hcf) ?_
  simp only [go_sem,binC]
  refine wpc_ret ⟨Or.inr rfl,_,(by (simp only [go_sem,binC]) <;> rfl),?_,rfl⟩
  rw [decide_eq_true hl]
  have : (!l.any fun x => !inB x 0 2) = hostsB l := by
   unfold hostsB
   rw [<- List.not_all_eq_any_not,Bool.not_not]
  rw [this]
  rfl
 ·simp only [go_sem,binC,beq_f hl]
  refine wpc_ret ⟨Or.inr rfl,_,(by (simp only [go_sem,binC]) <;> rfl),?_,rfl⟩
  rw [decide_eq_false hl]
  rfl
end Go.Proofs.YtbjeldblaclpnaaGreatI
end
section
set_option linter.unusedVariables false
set_option linter.unusedSimpArgs false
namespace Go.Proofs.YtbjeldblaclpnaaGreatI
open Go Go.RowKit
theorem allS_sub : ∀ (n : Nat) (s : TStep n),∀ a ∈ allS n s,∀ t ∈ allT (a.1 + 1) a.2,t ∈ allT n s
 | 0,s => s.elim
 | n + 1,(k,x,v,h,th,el) => by
   intro a ha t ht
   have go : ∀ l : List (TStep n),a ∈ allSL n l -> t ∈ allL n l := fun l hl => by
    unfold allSL at hl
    simp only [List.mem_flatten,List.mem_map] at hl
    obtain ⟨_,⟨s,hs,rfl⟩,h2⟩ := hl
    unfold allL
    simp only [List.mem_flatten,List.mem_map]
    exact ⟨_,⟨s,hs,rfl⟩,allS_sub n s a h2 t ht⟩
   rw [allS_succ,List.mem_cons,List.mem_append] at ha
   rcases ha with rfl | h | h
   ·exact ht
   ·rw [allT_succ]
    exact List.mem_cons_of_mem _ (List.mem_append_left _ (go _ h))
   ·rw [allT_succ]
    exact List.mem_cons_of_mem _ (List.mem_append_right _ (go _ h))
theorem allSL_sub {n : Nat} {l : List (TStep n)} {a : AnyS} (ha : a ∈ allSL n l) : ∀ t ∈ allT (a.1 + 1) a.2,t ∈ allL n l := fun t ht => by
 unfold allSL at ha
 simp only [List.mem_flatten,List.mem_map] at ha
 obtain ⟨_,⟨s,hs,rfl⟩,h2⟩ := ha
 unfold allL
 simp only [List.mem_flatten,List.mem_map]
 exact ⟨_,⟨s,hs,rfl⟩,allS_sub n s a h2 t ht⟩
theorem shB_var {k : Nat} {t : Shal} (h : shB k t = true) : varB k t.2.1 = true := by
 simp only [shB,Bool.and_eq_true] at h
 exact h.1
theorem progB_okA {n : Nat} {ls : List (Int × Int)} {l : List (TStep n)} (h : progB n (ls,l) = true) {a : AnyS} (ha : a ∈ allSL n l) : okA ls.length a := by
 have hs := progB_sh h
 refine ⟨hs _ ?_,fun t ht => shB_var (hs t (allSL_sub ha t ht))⟩
 show shA a ∈ allL n l
 rw [<- allSL_sh]
 exact List.mem_map_of_mem ha
def doesL (n : Nat) (p : TProg n) (ts homes : List Int) : List Int := List.zipWith (fun s own => doerV p.1 ts homes (shA s) (stA p.1 s) own) (allSL n p.2) (atL n p.1 (7,7) p.2)
theorem doesL_len {n : Nat} {p : TProg n} {ts homes : List Int} : (doesL n p ts homes).length = (allL n p.2).length := by
 unfold doesL
 rw [List.length_zipWith,allSL_len,atL_len,Nat.min_self]
def fitsB (n : Nat) (p : TProg n) (ts homes : List Int) : Bool := !decide (-1 ∈ doesL n p ts homes)
def findV (n : Nat) (p : TProg n) (ts : List Int) : Option (List Int) := if (typeP n p && trK ts) = true then (hmL p.1 ts p.1.length).find? (fitsB n p ts) else none
theorem progB_len {n : Nat} {ls : List (Int × Int)} {l : List (TStep n)} (h : progB n (ls,l) = true) : ls.length <= 4 := by
 have := h
 unfold progB at this
 simp only [Bool.and_eq_true,decide_eq_true_eq] at this
 omega
end Go.Proofs.YtbjeldblaclpnaaGreatI
end
section
set_option linter.unusedVariables false
set_option linter.unusedSimpArgs false
namespace Go.Proofs.YtbjeldblaclpnaaGreatI
open Go Go.RowKit
def Co.fix {α : Type} (V : Vw) (A : Co α) : Co α := ⟨A.w,fun _ cs a => A.rd V cs a,A.sm,fun _ h => h,fun h => A.len h,fun h => A.ones h⟩
def AllA (F : Nat -> Option IFn) (f n : Nat) : Prop := ∀ (V : Vw) (H : Heap) (v : Value) (l : List (TStep n)),Sub V (vw 0 H) -> SlR (Co.step n) V v l -> (allL n l).length <= 1048576 -> ∃ v' H',KC F f [v] H v' H' /\ AgX [] H H' /\ ∃ b so,v' = sli b 0 (allSL n l).length /\ OwnL (Co.fix V Co.anyS) 8 54 H.length [] H' b so (allSL n l)
theorem sAllA_ok {F : Nat -> Option IFn} {f n : Nat} (hf : F f = some c_sAllSteps) (ih : ∀ m,n = m + 1 -> AllA F 58 m) : AllA F f n := by
 intro V H v l hV hv hcnt
 have hv0 := hv
 obtain ⟨h0,av,rfl,hv1⟩ := hv
 suffices h : ∃ v' H',KC F f [.slice av l.length l.length] H v' H' /\ (AgX [] H H' /\ ∃ b so,v' = sli b 0 (allSL n l).length /\ OwnL (Co.fix V Co.anyS) 8 54 H.length [] H' b so (allSL n l)) from h
 refine KC.mk hf rfl ?_
 refine seq_reg ?_
 simp only [go_sem,binC]
 refine seq_reg ?_
 simp only [go_sem,binC]
 refine seq_assoc (seq_reg ?_)
 simp only [go_sem,binC]
 refine wpc_gen fun Hb hHb => ?_
 have ht0 : AgX [] H Hb := hHb ▸ AgX.app [] _ _
 have ho0 : OwnL (Co.fix V Co.anyS) 8 54 H.length [] Hb H.length true [] := hHb ▸ OwnG.nil (Nat.le_refl _)
 clear hHb
 refine seq_block (wpc_loop ?_)
 suffices h : ∀ (k i : Nat) (e : Env) (Hc : Heap) (b : Nat) (so : Bool),i + k = l.length -> AgX [] H Hc -> OwnL (Co.fix V Co.anyS) 8 54 H.length [] Hc b so (allSL n (l.take i)) -> e 0 = .slice av l.length l.length -> e 3 = sli b 0 (allSL n (l.take i)).length -> e 4 = .int .i64 i -> W F H.length _ e Hc _ from
  h l.length 0 _ Hb H.length true (by omega) ht0 ho0 (by simp only [go_sem,binC]) (by (simp only [go_sem,binC]) <;> rfl) (by (simp only [go_sem,binC]) <;> rfl)
 intro k
 induction k with
 | zero =>
   intro i e Hc b so hi ht ho e0 e3 e4
   refine lp_step ?_
   refine seq_assoc (seq_reg ?_)
   simp only [go_sem,binC,e0,e4]
   refine seq_cond (t := false) (by simp only [go_sem,binC]; rw [decide_eq_false (by omega)]) ?_
   simp only [go_sem,binC]
   refine seq_exit ?_
   simp only [go_sem,binC,thenX_e,out_e,thenX_n]
   refine seq_reg ?_
   simp only [go_sem,binC,e3]
   rw [List.take_of_length_le (by omega)] at ho ⊢
   refine wpc_ret ⟨Or.inr rfl,_,(by (simp only [go_sem,binC]) <;> rfl),ht,b,so,rfl,ho⟩
 | succ k ihk =>
   intro i e Hc b so hi ht ho e0 e3 e4
   have hil : i < l.length := by omega
   cases n with
   | zero => exact (l[i]).elim
   | succ n =>
   obtain ⟨vb,vo,sk,sx,sa,sbb,sc,sg,tv,ev,tl,el,hav,hs,rg,otv,oev,hgc,htl,hel⟩ := step_atW hv0 hil
   simp only [Value.slice.injEq,and_true] at hav
   subst hav
   have hA := ih n rfl
   have htake := allL_take l i hil
   rw [hs,allT_succ] at htake
   have hle := allL_take_le l (i + 1)
   have hn1 := allSL_len (l.take i)
   have hn2 := allSL_len tl
   have hn3 := allSL_len el
   rw [htake,List.length_append,List.length_cons,List.length_append] at hle
   have hgp : ∀ {H' : Heap} (_ : Sub V (vw 0 H')) (off kk : Nat),off + kk <= 8 -> getCells H' vb (vo + i * 8 + off) kk = some (([.int .i64 sk,.int .i64 sx,.int .i64 sa,.int .i64 sbb,.int .i64 sc,.int .i64 sg,tv,ev].drop off).take kk) := fun hs off kk h => gc_part (hgc _ hs) h
   refine lp_step ?_
   refine seq_assoc (seq_reg ?_)
   simp only [go_sem,binC,e0,e4]
   refine seq_cond (t := true) (by simp only [go_sem,binC]; rw [decide_eq_true (by omega)]) ?_
   simp only [go_sem,binC]
   refine seq_skip (seq_block ?_)
   refine seq_reg ?_
   simp only [go_sem,binC,e0,e3,e4,hgc _ (hV.trans <| agx_sub ht)]
   refine ⟨⟨by omega,by omega⟩,?_⟩
   simp only [go_sem,binC,otv,oev]
   have hob := (by obtain ⟨_,_,cs,h,_⟩ := ho; exact (List.getElem?_eq_some_iff.1 h).1 : b < Hc.length)
   have ho1 := ho.sub (AgX.app [] Hc [⟨[.int .i64 sk,.int .i64 sx,.int .i64 sa,.int .i64 sbb,.int .i64 sc,.int .i64 sg,tv,ev],8,54,true,true⟩]) (xs' := []) (by simp) (fun _ _ _ _ _ => ⟨by simp,by simp⟩)
   refine op_app_ownN (l2 := [mkA n sk sx (sa,sbb,sc) sg tl el]) ho1 (by simp only [go_sem,binC,e3]) (by (simp only [go_sem,binC]) <;> rfl) (Nat.le_refl _) rfl (by rw [List.length_singleton,gc_new0]; rfl) (fun j hj => by
    obtain rfl : j = 0 := by simpa using hj
    exact step_rd rg.1 rg.2.1 rg.2.2.1 rg.2.2.2.1 rg.2.2.2.2.1 rg.2.2.2.2.2 htl hel) (by simp only [List.length_append,List.length_cons,List.length_nil]; omega) (by omega) (by simp) (Nat.le_refl _) fun H2 b2 so2 hx2 hc2 hb2 ho2 => ?_
   simp only [go_sem,binC]
   have hb1 := ho.1
   have ht2 : AgX [] H H2 := agx_nil (ht.appN _) hx2 hb1
   refine seq_reg ?_
   simp only [go_sem,binC,e0,e4,hgp (hV.trans <| agx_sub ht2) 6 1 (by omega)]
   refine ⟨⟨by omega,by omega⟩,?_⟩
   obtain ⟨v3,H3,k3,x3,b3,so3,rfl,o3⟩ := hA V H2 tv tl (hV.trans (agx_sub ht2)) htl (by omega)
   refine op_callK (by simp only [go_sem,binC]; exact k3) ?_
   simp only [go_sem,binC]
   have ht3 : AgX [] H H3 := ht2.tr x3
   have ho3 := ho2.sub x3 (xs' := []) (by simp) (fun _ _ _ _ _ => ⟨by simp,by simp⟩)
   obtain ⟨ys3,g3,r3⟩ := o3.cells
   refine op_app_ownN (l2 := allSL n tl) ho3 (by simp only [go_sem,binC]) (by (simp only [go_sem,binC]) <;> rfl) (Nat.le_refl _) rfl g3 (fun j hj => r3 j hj) (by simp only [List.length_append,List.length_cons,List.length_nil]; omega) (by omega) (by simp) (Nat.le_refl _) fun H4 b4 so4 hx4 hc4 hb4 ho4 => ?_
   simp only [go_sem,binC]
   have ht4 : AgX [] H H4 := agx_nil ht3 hx4 ho3.1
   refine wpc_reg ?_
   simp only [go_sem,binC,e0,e4,hgp (hV.trans <| agx_sub ht4) 7 1 (by omega)]
   refine ⟨⟨by omega,by omega⟩,?_⟩
   obtain ⟨v5,H5,k5,x5,b5,so5,rfl,o5⟩ := hA V H4 ev el (hV.trans (agx_sub ht4)) hel (by omega)
   refine op_callK (by simp only [go_sem,binC]; exact k5) ?_
   simp only [go_sem,binC]
   have ht5 : AgX [] H H5 := ht4.tr x5
   have ho5 := ho4.sub x5 (xs' := []) (by simp) (fun _ _ _ _ _ => ⟨by simp,by simp⟩)
   obtain ⟨ys5,g5,r5⟩ := o5.cells
   refine op_app_ownN (l2 := allSL n el) ho5 (by simp only [go_sem,binC]) (by (simp only [go_sem,binC]) <;> rfl) (Nat.le_refl _) rfl g5 (fun j hj => r5 j hj) (by simp only [List.length_append,List.length_cons,List.length_nil]; omega) (by omega) (by simp) (Nat.le_refl _) fun H6 b6 so6 hx6 hc6 hb6 ho6 => ?_
   simp only [go_sem,binC,out_n,thenX_n]
   have ht6 : AgX [] H H6 := agx_nil ht5 hx6 ho5.1
   refine wpc_reg ?_
   simp only [go_sem,binC,e4]
   have hw1 : IntKind.i64.wrap ((i : Int) + 1) = ((i + 1 : Nat) : Int) := by rw [wrap_id (by omega) (by omega)]; omega
   rw [hw1]
   simp only [go_sem,binC,thenX_n]
   have hfin : allSL (n + 1) (l.take i) ++ [mkA n sk sx (sa,sbb,sc) sg tl el] ++ allSL n tl ++ allSL n el = allSL (n + 1) (l.take (i + 1)) := by rw [allSL_take l i hil,hs,allS_succ]; simp
   rw [hfin] at ho6
   exact ihk (i + 1) _ H6 b6 so6 (by omega) ht6 ho6 (by simp only [go_sem,binC,e0]) (by simp only [go_sem,binC]; rw [<- hfin]) (by simp only [go_sem,binC])
theorem sAllA_all {F : Nat -> Option IFn} (hf : F 58 = some c_sAllSteps) : ∀ n,AllA F 58 n
 | 0 => sAllA_ok hf fun m h => by omega
 | n + 1 => sAllA_ok hf fun m h => by cases h; exact sAllA_all hf n
end Go.Proofs.YtbjeldblaclpnaaGreatI
end
section
set_option linter.unusedVariables false
set_option linter.unusedSimpArgs false
namespace Go.Proofs.YtbjeldblaclpnaaGreatI
open Go Go.RowKit
def c_sTypeSets : IFn := ⟨1,31,[.t 2],
 .seq (.reg none [⟨some 1,none,.box (.t 0)⟩,⟨some 2,none,.mov (.c (.slice none 0 0))⟩])
 (.seq (.reg none [⟨some 6,none,.lit 1 3 0 [] []⟩,⟨some 3,none,.mov (.t 6)⟩])
 (.seq (.seq (.reg none [⟨some 7,none,.load true 2 (.t 1)⟩,⟨some 8,none,.call .q (.f 56) [.t 7]⟩,⟨some 9,none,.un .not (.t 8)⟩])
  (.cond (.t 9) (.seq (.reg none [⟨some 10,none,.mov (.t 3)⟩,⟨some 2,none,.mov (.t 10)⟩])
   (.ret)) (.skip)))
 (.seq (.reg none [⟨some 11,none,.fad 1 (.t 1)⟩,⟨some 12,none,.load false 1 (.t 11)⟩,⟨some 13,none,.call .k (.f 58) [.t 12]⟩,⟨some 4,none,.mov (.t 13)⟩])
 (.seq (.seq (.reg none [⟨some 5,none,.mov (.c (.int .i64 0))⟩])
  (.block 0 (.loop (.seq (.seq (.reg none [⟨some 14,none,.mov (.t 5)⟩,⟨some 15,none,.mov (.t 4)⟩,⟨some 16,none,.len (.t 15)⟩,
     ⟨some 17,none,.bin .lss (.t 14) (.t 16)⟩])
    (.cond (.t 17) (.skip) (.exit 0)))
   (.seq (.block 1 (.reg (some 9) [⟨some 20,none,.mov (.t 3)⟩,⟨some 21,none,.load true 2 (.t 1)⟩,⟨some 22,none,.mov (.t 4)⟩,⟨some 23,none,.mov (.t 5)⟩,
     ⟨some 24,none,.mov (.t 5)⟩,⟨some 25,none,.bin .add (.t 24) (.c (.int .i64 1))⟩,⟨some 26,none,.sub 8 (.t 22) (some (.t 23)) (some (.t 25))⟩,
     ⟨some 27,none,.call .q (.f 86) [.t 21,.t 26]⟩,⟨some 28,none,.lit 1 3 1 [(.int .i64 0)] [(0,1,(.t 27))]⟩,⟨some 29,none,.app 1 3 8 false (.t 20) (.t 28)⟩,
     ⟨some 3,none,.mov (.t 29)⟩]))
   (.reg none [⟨some 18,none,.mov (.t 5)⟩,⟨some 19,none,.bin .add (.t 18) (.c (.int .i64 1))⟩,⟨some 5,none,.mov (.t 19)⟩]))))))
 (.seq (.reg none [⟨some 30,none,.mov (.t 3)⟩,⟨some 2,none,.mov (.t 30)⟩])
 (.ret))))))⟩
def c_sSee : IFn := ⟨2,35,[.t 4],
 .seq (.reg none [⟨some 2,none,.box (.t 0)⟩,⟨some 4,none,.mov (.c (.pointer none))⟩])
 (.seq (.reg (some 9) [⟨some 7,none,.load true 2 (.t 2)⟩,⟨some 8,none,.mov (.t 1)⟩,⟨some 9,none,.fad 1 (.t 2)⟩,⟨some 10,none,.load false 1 (.t 9)⟩,
   ⟨some 11,none,.call .k (.f 58) [.t 10]⟩,⟨some 12,none,.load true 2 (.t 2)⟩,⟨some 13,none,.call .k (.f 59) [.t 12]⟩,⟨some 14,none,.load true 2 (.t 2)⟩,
   ⟨some 15,none,.call .k (.f 60) [.t 14]⟩,
   ⟨some 16,none,.build [(.slice none 0 0),(.slice none 0 0),(.slice none 0 0),(.slice none 0 0),(.slice none 0 0),(.slice none 0 0),(.slice none 0 0)] [(0,2,(.t 7)),(2,1,(.t 8)),(3,1,(.t 11)),(4,1,(.t 13)),(5,1,(.t 15))]⟩,
   ⟨some 17,none,.box (.t 16)⟩,⟨some 5,none,.mov (.t 17)⟩])
 (.seq (.seq (.reg none [⟨some 6,none,.mov (.c (.int .i64 0))⟩])
  (.block 0 (.loop (.seq (.seq (.reg none [⟨some 18,none,.mov (.t 6)⟩,⟨some 19,none,.bin .lss (.t 18) (.c (.int .i64 3))⟩])
    (.cond (.t 19) (.skip) (.exit 0)))
   (.seq (.block 1 (.regW 9 [
     ⟨some 22,none,.mov (.t 5)⟩,⟨some 23,none,.mov (.t 5)⟩,⟨some 24,none,.nilck (.t 23)⟩,⟨some 25,none,.fad 6 (.t 24)⟩,⟨some 26,none,.load false 1 (.t 25)⟩,
     ⟨some 27,none,.mov (.t 1)⟩,⟨some 28,none,.mov (.t 6)⟩,⟨some 29,none,.call .q (.f 61) [.t 27,.t 28]⟩,
     ⟨some 30,none,.lit 1 3 1 [(.int .i64 0)] [(0,1,(.t 29))]⟩,⟨some 31,none,.app 1 3 8 false (.t 26) (.t 30)⟩,⟨some 32,none,.nilck (.t 22)⟩,
     ⟨some 33,none,.fad 6 (.t 32)⟩,⟨none,none,.store 1 (.t 33) (.t 31)⟩]))
   (.reg none [⟨some 20,none,.mov (.t 6)⟩,⟨some 21,none,.bin .add (.t 20) (.c (.int .i64 1))⟩,⟨some 6,none,.mov (.t 21)⟩]))))))
 (.seq (.reg none [⟨some 34,none,.mov (.t 5)⟩,⟨some 4,none,.mov (.t 34)⟩])
 (.ret))))⟩
theorem SlR.unfix {α : Type} {A : Co α} {V U : Vw} {v : Value} {l : List α} (h : SlR (Co.fix V A) U v l) (hs : Sub V U) : SlR A U v l := by
 obtain ⟨h0,a,rfl,h1⟩ := h
 refine ⟨h0,a,rfl,?_⟩
 rcases h1 with h1 | ⟨b,o,rfl,h1⟩
 ·exact .inl h1
 ·refine .inr ⟨b,o,rfl,fun i hi => ?_⟩
  obtain ⟨cs,h2,h3⟩ := h1 i hi
  exact ⟨cs,h2,A.mono hs h3⟩
theorem OwnG.slV {α : Type} {A : Co α} {V : Vw} {es et lo : Nat} {H : Heap} {b : Nat} {so : Bool} {l : List α} (hw : A.w = es) (h : OwnL (Co.fix V A) es et lo [] H b so l) (hs : Sub V (vw 0 H)) : SlR A (vw 0 H) (sli b 0 l.length) l :=
 SlR.unfix ((h.slR (A := Co.fix V A) hw (by simp)).mono (vwl0 _ _ _)) hs
def setsA (n : Nat) (ls : List (Int × Int)) (l : List (TStep n)) : List Int := (allSL n l).map (stA ls)
def SetsOk (F : Nat -> Option IFn) (f : Nat) : Prop := ∀ (H : Heap) (n : Nat) (lv sv : Value) (ls : List (Int × Int)) (l : List (TStep n)),SlR Co.p2 (vw 0 H) lv ls -> SlR (Co.step n) (vw 0 H) sv l -> (Co.prog n).sm (ls,l) -> progB n (ls,l) = true ->
 ∃ w H',KC F f [.agg #[lv,sv]] H w H' /\ (AgX [] H H' /\ SlR Co.int (vw 0 H') w (setsA n ls l))
theorem sTypeSets_ok {F : Nat -> Option IFn} {f : Nat} (hf : F f = some c_sTypeSets) (gp : ProgOk F 56) (ga : ∀ n,AllA F 58 n) (gs : ∀ n,STOk F 86 n) : SetsOk F f := by
 intro H n lv sv ls l r1 r2 hsm hP
 have olv : one lv = true := by obtain ⟨_,a,rfl,_⟩ := r1; rfl
 have osv : one sv = true := by obtain ⟨_,a,rfl,_⟩ := r2; rfl
 have hcnt : (allL n l).length <= 8 := progB_cnt hP hsm
 have hlab : ls.all labB = true := progB_lab hP
 have hsl := allSL_len l
 refine KC.mk hf rfl ?_
 refine seq_reg ?_
 simp only [go_sem,binC,olv,osv]
 refine wpc_gen fun H1 hH1 => ?_
 have hx1 : AgX [] H H1 := hH1 ▸ AgX.app [] _ _
 have hb1 : H1[H.length]? = some ⟨[lv,sv],0,0,false,true⟩ := hH1 ▸ get_new0 _ _
 have hl1 : H1.length = H.length + 1 := by rw [hH1,List.length_append]; rfl
 clear hH1
 refine seq_reg ?_
 simp only [go_sem,binC]
 refine wpc_gen fun H2 hH2 => ?_
 have hx2 : AgX [] H1 H2 := hH2 ▸ AgX.app [] _ _
 have ho2 : OwnL Co.int 1 3 H1.length [] H2 H1.length true [] := hH2 ▸ OwnG.nil (Nat.le_refl _)
 have hl2' : H2.length = H1.length + 1 := by rw [hH2,List.length_append]; rfl
 clear hH2
 have hx02 := hx1.tr hx2
 have hb2 := hx2.get hb1 (by simp)
 have hpq : QC F 56 [.agg #[lv,sv]] H2 (.bool (progB n (ls,l))) := gp H2 n _ (ls,l) ⟨_,rfl,_,_,rfl,⟨_,rfl,r1.mono (agx_sub hx02)⟩,⟨_,rfl,r2.mono (agx_sub hx02)⟩⟩ hsm
 rw [hP] at hpq
 refine seq_assoc (seq_reg ?_)
 simp only [go_sem,binC,gc_of hb2,inBlk_some,olv,osv]
 refine op_callQ (by simp only [go_sem,binC]; exact hpq) ?_
 simp only [go_sem,binC]
 refine seq_cond (t := false) rfl ?_
 simp only [go_sem,binC]
 refine seq_skip (seq_reg ?_)
 simp only [go_sem,binC,gc_of hb2,inBlk_some,osv]
 obtain ⟨wl,H3,k3,hx3,bl,so,rfl,ol⟩ := ga n (vw 0 H) H2 sv l (agx_sub hx02) r2 (by omega)
 refine op_callK (by simp only [go_sem,binC]; exact k3) ?_
 simp only [go_sem,binC]
 have hx03 := hx02.tr hx3
 have hb3 := hx3.get hb2 (by simp)
 have ho3 := ho2.sub hx3 (xs' := []) (by simp) (fun _ _ _ _ _ => ⟨by simp,by simp⟩)
 refine seq_assoc (seq_reg ?_)
 simp only [go_sem,binC]
 refine seq_block (wpc_loop ?_)
 have hl2 := hx2.1
 have hl3 := hx3.1
 suffices hh : ∀ (k i : Nat) (e : Env) (Hc : Heap) (b : Nat) (so : Bool),i + k = (allSL n l).length -> AgX [H1.length] H3 Hc -> OwnL Co.int 1 3 H1.length [] Hc b so ((setsA n ls l).take i) -> (b = H1.length \/ H3.length <= b) -> e 1 = ptr H.length 0 -> e 3 = sli b 0 ((setsA n ls l).take i).length -> e 4 = sli bl 0 (allSL n l).length -> e 5 = .int .i64 i -> W F H.length _ e Hc _ from
  hh (allSL n l).length 0 _ H3 H1.length true (by omega) (AgX.refl _ _) (by simpa using ho3) (.inl rfl) (by simp only [go_sem,binC]) (by (simp only [go_sem,binC]) <;> rfl) (by simp only [go_sem,binC]) (by (simp only [go_sem,binC]) <;> rfl)
 have hbl2 := ol.1
 intro k
 induction k with
 | zero =>
   intro i e Hc b so' hi hxc hoc hb e1 e3 e4 e5
   refine lp_step ?_
   refine seq_assoc (seq_reg ?_)
   simp only [go_sem,binC,e4,e5]
   refine seq_cond (t := false) (by simp only [go_sem,binC]; rw [decide_eq_false (by omega)]) ?_
   simp only [go_sem,binC]
   refine seq_exit ?_
   simp only [go_sem,binC,thenX_e,out_e,thenX_n]
   refine seq_reg ?_
   simp only [go_sem,binC,e3]
   rw [List.take_of_length_le (by unfold setsA; rw [List.length_map]; omega)] at hoc ⊢
   exact wpc_ret ⟨Or.inr rfl,_,(by (simp only [go_sem,binC]) <;> rfl),hx03.trans hxc (fun _ h _ => h) (fun b' h1 h2 => by simp only [List.mem_singleton] at h1; omega),(hoc.slR rfl (by simp)).mono (vwl0 _ _ _)⟩
 | succ k ih =>
   intro i e Hc b so' hi hxc hoc hb e1 e3 e4 e5
   have hil : i < (allSL n l).length := by omega
   have hw1 : IntKind.i64.wrap ((i : Int) + 1) = ((i + 1 : Nat) : Int) := by rw [wrap_id (by omega) (by omega)]; omega
   have hxH : AgX [] H Hc := hx03.trans hxc (fun _ h _ => h) (fun b' h1 h2 => by simp only [List.mem_singleton] at h1; omega)
   have hbc := hxc.get hb3 (by simp; omega)
   have hxl := hxc.1
   obtain ⟨cs,gcs,rds⟩ := ol.at hil
   have rdsA : (Co.step ((allSL n l)[i].1 + 1)).rd (vw 0 H) cs (allSL n l)[i].2 := rds
   obtain ⟨_,_,ccs,hblk,hbll,hbrd⟩ := id ol
   have hblc := hxc.get hblk (by simp; omega)
   have hokA := progB_okA hP (List.getElem_mem hil)
   have hsub : SlR (Co.step ((allSL n l)[i].1 + 1)) (vw 0 Hc) (.slice (some ⟨bl,i * 8,none⟩) [(allSL n l)[i].2].length [(allSL n l)[i].2].length) [(allSL n l)[i].2] := by
    refine ⟨by simp,_,rfl,.inr ⟨bl,i * 8,rfl,fun j hj => ?_⟩⟩
    obtain rfl : j = 0 := by simpa using hj
    have hbr := hbrd i hil
    refine ⟨(ccs.drop (i * 8)).take 8,?_,(Co.step ((allSL n l)[i].1 + 1)).mono (agx_sub hxH) hbr⟩
    unfold rng vw
    rw [if_pos (Nat.zero_le _),hblc,step_w]
    simp only [Option.map_some,Nat.zero_mul,Nat.add_zero]
    rw [if_pos (by omega)]
   have hst : stL ((allSL n l)[i].1 + 1) ls [(allSL n l)[i].2] = stA ls (allSL n l)[i] := by
    unfold stL stA
    simp only [List.map_cons,List.map_nil,List.foldl_cons,List.foldl_nil]
    exact orS_0 (stT_bd hlab _ _)
   have hbd : R7 (stA ls (allSL n l)[i]) := stT_bd hlab _ _
   have htk : (setsA n ls l).take (i + 1) = (setsA n ls l).take i ++ [stA ls (allSL n l)[i]] := by
    unfold setsA
    rw [List.take_add_one,List.getElem?_eq_getElem (by rw [List.length_map]; exact hil),List.getElem_map]
    rfl
   have hlt : ((setsA n ls l).take i).length = i := by unfold setsA; rw [List.length_take,List.length_map]; omega
   have hsets := fun (HH : Heap) (hx : AgX [] Hc HH) => gs _ HH lv sv _ ls [(allSL n l)[i].2] osv (r1.mono (agx_sub (hxH.tr hx))) (hsub.mono (agx_sub hx)) hlab (fun t ht => hokA.2 t (by simpa [allL] using ht))
   rw [hst] at hsets
   have hsv : ∀ e' : Env,e' 23 = .int .i64 i -> e' 25 = .int .i64 ((i + 1 : Nat) : Int) -> subV 8 (sli bl 0 (allSL n l).length) e' (some (.t 23)) (some (.t 25)) = some (.slice (some ⟨bl,i * 8,none⟩) [(allSL n l)[i].2].length [(allSL n l)[i].2].length) := fun e' h23 h25 => by
    have q1 : ¬ ((i : Int) < 0) := by omega
    unfold subV sli
    simp only [subB,Opd.ev,h23,h25]
    rw [if_pos ⟨by omega,by omega⟩]
    simp only
    rw [if_pos ⟨by omega,by omega⟩]
    have q2 : (((i + 1 : Nat) : Int)).toNat - ((i : Int)).toNat = 1 := by omega
    simp [q2]
   refine lp_step ?_
   refine seq_assoc (seq_reg ?_)
   simp only [go_sem,binC,e4,e5]
   refine seq_cond (t := true) (by simp only [go_sem,binC]; rw [decide_eq_true (by omega)]) ?_
   simp only [go_sem,binC]
   refine seq_skip (seq_block (wpc_regD ?_))
   simp only [go_sem,binC,e1,e3,e4,e5,gc_of hbc,inBlk_some,olv,osv,hw1]
   rw [hsv _ (by simp only [go_sem,binC]) (by simp only [go_sem,binC])]
   simp only [go_sem,binC]
   refine op_callQ (by simp only [go_sem,binC]; exact hsets Hc (AgX.refl _ _)) ?_
   simp only [go_sem,binC]
   have hoc1 := hoc.1
   refine op_app_own (A := Co.int) (lo := H1.length) (a := stA ls (allSL n l)[i]) hoc (by simp only [go_sem,binC,e3]) (by (simp only [go_sem,binC]) <;> rfl) (by omega) rfl ⟨rfl,by have := hbd.1; omega,by have := hbd.2; omega⟩ (by omega) (by omega) (by simp) fun H4 hx4 ho4 => ?_
   simp only [go_sem,binC,out_n,thenX_n]
   rw [<- htk] at ho4
   refine wpc_reg ?_
   simp only [go_sem,binC,e5,hw1]
   simp only [go_sem,binC,thenX_n]
   have hcl := hxc.1
   refine ih (i + 1) _ H4 (Hc.length + 1) _ (by omega) (hxc.trans hx4 (fun _ h _ => h) (fun b' h1 h2 => by simp only [List.mem_singleton] at h1 ⊢; omega)) ho4 (.inr (by omega)) (by simp only [go_sem,binC,e1]) (by simp only [go_sem,binC]; rw [htk,List.length_append]; rfl) (by simp only [go_sem,binC,e4]) (by simp only [go_sem,binC])
def byL (ts : List Int) : List Int := [byS ts 0 3,byS ts 1 3,byS ts 2 3]
structure LookR (H : Heap) (W n : Nat) (ls : List (Int × Int)) (l : List (TStep n)) (ts : List Int) : Prop where
 ex : ∃ lv sv tw li la se bv : Value,one sv = true /\ H[W]? = some ⟨[lv,sv,tw,li,la,se,bv],0,0,false,true⟩ /\ SlR Co.p2 (vw 0 H) lv ls /\ SlR Co.int (vw 0 H) tw ts /\ SlR Co.anyS (vw 0 H) li (allSL n l) /\ SlR Co.p2 (vw 0 H) la (atL n ls (7,7) l) /\ SlR Co.int (vw 0 H) se (setsA n ls l) /\ SlR Co.int (vw 0 H) bv (byL ts)
theorem LookR.mono {H H' : Heap} {W n : Nat} {ls : List (Int × Int)} {l : List (TStep n)} {ts : List Int} (h : LookR H W n ls l ts) (hx : AgX [] H H') : LookR H' W n ls l ts := by
 obtain ⟨lv,sv,tw,li,la,se,bv,h0,h1,h2,h3,h4,h5,h6,h7⟩ := h.ex
 exact ⟨lv,sv,tw,li,la,se,bv,h0,hx.get h1 (by simp),h2.mono (agx_sub hx),h3.mono (agx_sub hx),h4.mono (agx_sub hx),h5.mono (agx_sub hx),h6.mono (agx_sub hx),h7.mono (agx_sub hx)⟩
def SeeOk (F : Nat -> Option IFn) (f : Nat) : Prop := ∀ (lo : Nat) (H : Heap) (n : Nat) (lv sv tw : Value) (ls : List (Int × Int)) (l : List (TStep n)) (ts : List Int),lo <= H.length -> SlR Co.p2 (vw 0 H) lv ls -> SlR (Co.step n) (vw 0 H) sv l -> (Co.prog n).sm (ls,l) -> progB n (ls,l) = true -> SlR Co.int (vw 0 H) tw ts -> trP ts ->
 ∃ W H',NC F lo f [.agg #[lv,sv],tw] H (ptr W 0) H' /\ (AgX [] H H' /\ H.length <= W /\ LookR H' W n ls l ts)
theorem sSee_ok {F : Nat -> Option IFn} {f : Nat} (hf : F f = some c_sSee) (ga : ∀ n,AllA F 58 n) (gt : TypeAtOk F 59) (gs : SetsOk F 60) (gb : ByOk F 61) : SeeOk F f := by
 intro lo H n lv sv tw ls l ts hlo r1 r2 hsm hP r3 htr
 suffices hh : ∃ v H',NC F lo f [.agg #[lv,sv],tw] H v H' /\ ∃ W,v = ptr W 0 /\ AgX [] H H' /\ H.length <= W /\ LookR H' W n ls l ts by
  obtain ⟨_,H',h1,W,rfl,h2⟩ := hh
  exact ⟨W,H',h1,h2⟩
 have olv : one lv = true := by obtain ⟨_,a,rfl,_⟩ := r1; rfl
 have osv : one sv = true := by obtain ⟨_,a,rfl,_⟩ := r2; rfl
 obtain ⟨_,ta,rfl,_⟩ := id r3
 have hcnt : (allL n l).length <= 8 := progB_cnt hP hsm
 have hts : ts.length = 3 := htr.1
 refine NC.mk hf rfl ?_
 refine seq_reg ?_
 simp only [go_sem,binC,olv,osv]
 refine wpc_gen fun H1 hH1 => ?_
 have hx1 : AgX [] H H1 := hH1 ▸ AgX.app [] _ _
 have hb1 : H1[H.length]? = some ⟨[lv,sv],0,0,false,true⟩ := hH1 ▸ get_new0 _ _
 clear hH1
 refine seq_regD ?_
 simp only [go_sem,binC,gc_of hb1,inBlk_some,olv,osv]
 obtain ⟨wl,H2,k2,hx2,bl,so,rfl,ol⟩ := ga n (vw 0 H) H1 sv l (agx_sub hx1) r2 (by omega)
 refine op_callK (by simp only [go_sem,binC]; exact k2) ?_
 have hb2 := hx2.get hb1 (by simp)
 have hx02 := hx1.tr hx2
 simp only [go_sem,binC,gc_of hb2,inBlk_some,olv,osv]
 obtain ⟨ba,soa,outa,H3,k3,hx3,oa,_,_,hout⟩ := gt H2 n lv sv ls l (r1.mono (agx_sub hx02)) (r2.mono (agx_sub hx02)) hsm hP
 subst hout
 refine op_callK (by simp only [go_sem,binC]; exact k3) ?_
 have hb3 := hx3.get hb2 (by simp)
 have hx03 := hx02.tr hx3
 simp only [go_sem,binC,gc_of hb3,inBlk_some,olv,osv]
 obtain ⟨ws,H4,k4,hx4,os⟩ := gs H3 n lv sv ls l (r1.mono (agx_sub hx03)) (r2.mono (agx_sub hx03)) hsm hP
 refine op_callK (by simp only [go_sem,binC]; exact k4) ?_
 have hx04 := hx03.tr hx4
 have ql : SlR Co.anyS (vw 0 H4) (sli bl 0 (allSL n l).length) (allSL n l) := (ol.slV rfl (agx_sub hx1 |>.trans (agx_sub hx2))).mono (agx_sub (hx3.tr hx4))
 have qa : SlR Co.p2 (vw 0 H4) (sli ba 0 (atL n ls (7,7) l).length) (atL n ls (7,7) l) := ((oa.slR rfl (by simp)).mono (vwl0 _ _ _)).mono (agx_sub hx4)
 generalize sli bl 0 (allSL n l).length = wL at *
 generalize sli ba 0 (atL n ls (7,7) l).length = wA at *
 obtain ⟨_,aL,rfl,_⟩ := id ql
 obtain ⟨_,aA,rfl,_⟩ := id qa
 obtain ⟨_,aS,rfl,_⟩ := id os
 simp only [go_sem,binC,olv,osv]
 refine wpc_gen fun H5 hH5 => ?_
 have hx5 : AgX [] H4 H5 := hH5 ▸ AgX.app [] _ _
 have hb5 : H5[H4.length]? = some ⟨[lv,sv,.slice ta ts.length ts.length,.slice aL (allSL n l).length (allSL n l).length,.slice aA (atL n ls (7,7) l).length (atL n ls (7,7) l).length,.slice aS (setsA n ls l).length (setsA n ls l).length,nilS],0,0,false,true⟩ := hH5 ▸ get_new0 _ _
 clear hH5
 have hl4 := hx04.1
 refine seq_assoc (seq_reg ?_)
 simp only [go_sem,binC]
 refine seq_block (wpc_loop ?_)
 suffices hh : ∀ (k i : Nat) (e : Env) (Hc : Heap) (w : Value),i + k = 3 -> AgX [] H4 Hc -> LsV (fun _ => none) Co.int 1 3 H4.length Hc w ((byL ts).take i) -> Hc[H4.length]? = some ⟨[lv,sv,.slice ta ts.length ts.length,.slice aL (allSL n l).length (allSL n l).length,.slice aA (atL n ls (7,7) l).length (atL n ls (7,7) l).length,.slice aS (setsA n ls l).length (setsA n ls l).length,w],0,0,false,true⟩ -> e 1 = .slice ta ts.length ts.length -> e 5 = ptr H4.length 0 -> e 6 = .int .i64 i -> W F lo _ e Hc _ from
  hh 3 0 _ H5 nilS rfl hx5 (by simpa using LsV.nil) hb5 (by simp only [go_sem,binC]) (by simp only [go_sem,binC]) (by (simp only [go_sem,binC]) <;> rfl)
 intro k
 induction k with
 | zero =>
   intro i e Hc w hi hxc hw hbc e1 e5 e6
   obtain rfl : i = 3 := by omega
   have hd3 : decide (((3 : Nat) : Int) < 3) = false := rfl
   refine lp_step ?_
   refine seq_assoc (seq_reg ?_)
   simp only [go_sem,binC,e6,hd3]
   refine seq_cond (t := false) (by simp only [go_sem,binC]) ?_
   simp only [go_sem,binC]
   refine seq_exit ?_
   simp only [go_sem,binC,thenX_e,out_e,thenX_n]
   refine seq_reg ?_
   simp only [go_sem,binC,e5]
   rw [List.take_of_length_le (by simp [byL])] at hw
   exact wpc_ret ⟨Or.inr rfl,_,(by (simp only [go_sem,binC]) <;> rfl),H4.length,rfl,hx04.tr hxc,by omega,lv,sv,_,_,_,_,w,osv,hbc,r1.mono (agx_sub (hx04.tr hxc)),r3.mono (agx_sub (hx04.tr hxc)),ql.mono (agx_sub hxc),qa.mono (agx_sub hxc),os.mono (agx_sub hxc),(hw.mono (V' := vw 0 Hc) (fun _ _ h => by cases h)).sl rfl (fun _ _ h => h)⟩
 | succ k ih =>
   intro i e Hc w hi hxc hw hbc e1 e5 e6
   have hdi : decide ((i : Int) < 3) = true := decide_eq_true (by omega)
   have hw1 : IntKind.i64.wrap ((i : Int) + 1) = ((i + 1 : Nat) : Int) := by rw [wrap_id (by omega) (by omega)]; omega
   obtain ⟨aw,haw⟩ := hw.shape
   have oww := hw.one
   have hby := byS_lt ts i 3
   have h8 : (2 : Int) ^ 3 = 8 := by decide
   rw [h8] at hby
   have htk : (byL ts).take (i + 1) = (byL ts).take i ++ [byS ts i 3] := by
    have hi3 : i = 0 \/ i = 1 \/ i = 2 := by omega
    rcases hi3 with rfl | rfl | rfl <;> rfl
   have hlt : ((byL ts).take i).length <= 3 := by rw [List.length_take]; exact Nat.le_trans (Nat.min_le_right _ _) (by simp [byL])
   have hxcl := hxc.1
   have hbcl := (List.getElem?_eq_some_iff.1 hbc).1
   refine lp_step ?_
   refine seq_assoc (seq_reg ?_)
   simp only [go_sem,binC,e6,hdi]
   refine seq_cond (t := true) (by simp only [go_sem,binC]) ?_
   simp only [go_sem,binC]
   refine seq_skip (seq_block (wpc_regW ?_))
   simp only [go_sem,binC,e1,e5,e6,gc_of hbc,inBlk_some]
   refine op_callQ (by simp only [go_sem,binC,e1]; exact gb Hc _ ts i (r3.mono (agx_sub (hx04.tr hxc))) htr (by omega) (by omega)) ?_
   simp only [go_sem,binC]
   refine op_app_ls1 (V := fun _ => none) (A := Co.int) (lo := H4.length) (a := byS ts i 3) hw (by simp only [go_sem,binC]) (by (simp only [go_sem,binC]) <;> rfl) rfl ⟨rfl,by omega,by omega⟩ (by omega) (by omega) (by omega) (by omega) fun H6 u6 hx6 hca6 hn6 ho6 => ?_
   have hb6 := hx6.get hbc (hw.nbox hbc)
   have hb6l := (List.getElem?_eq_some_iff.1 hb6).1
   obtain ⟨au,hau⟩ := ho6.shape
   subst hau
   simp only [go_sem,binC,e5,hb6]
   refine ⟨by omega,?_⟩
   simp only [go_sem,binC,out_n,thenX_n]
   have hxs : AgX [H4.length] H6 (H6.set H4.length ⟨[lv,sv,.slice ta ts.length ts.length,.slice aL (allSL n l).length (allSL n l).length,.slice aA (atL n ls (7,7) l).length (atL n ls (7,7) l).length,.slice aS (setsA n ls l).length (setsA n ls l).length,.slice au ((byL ts).take i ++ [byS ts i 3]).length ((byL ts).take i ++ [byS ts i 3]).length],0,0,false,true⟩) := AgX.set _ _ _
   have hx46 : AgX [] H4 H6 := hxc.trans hx6 (fun _ h _ => h) (fun b hb hl => by have := (hw.blk hb).1; omega)
   refine wpc_reg ?_
   simp only [go_sem,binC,e6,hw1]
   simp only [go_sem,binC,thenX_n]
   refine ih (i + 1) _ (H6.set H4.length ⟨[lv,sv,.slice ta ts.length ts.length,.slice aL (allSL n l).length (allSL n l).length,.slice aA (atL n ls (7,7) l).length (atL n ls (7,7) l).length,.slice aS (setsA n ls l).length (setsA n ls l).length,.slice au ((byL ts).take i ++ [byS ts i 3]).length ((byL ts).take i ++ [byS ts i 3]).length],0,0,false,true⟩) _ (by omega) (hx46.setN (by omega) _) (htk ▸ ho6.keep (Nat.le_refl _) hxs (fun b hb h => ?_)) (List.getElem?_set_self hb6l) (by simp only [go_sem,binC,e1]) (by simp only [go_sem,binC,e5]) (by simp only [go_sem,binC])
   simp only [List.mem_singleton] at h
   subst h
   exact ho6.nbox hb6 hb
end Go.Proofs.YtbjeldblaclpnaaGreatI
end
section
set_option linter.unusedVariables false
set_option linter.unusedSimpArgs false
namespace Go.Proofs.YtbjeldblaclpnaaGreatI
open Go Go.RowKit
def c_lHome : IFn := ⟨3,37,[.t 6],
 .seq (.reg none [⟨some 6,none,.mov (.c (.bool false))⟩])
 (.seq (.reg (some 28) [⟨some 7,none,.mov (.t 0)⟩,⟨some 8,none,.nilck (.t 7)⟩,⟨some 9,none,.fad 0 (.t 8)⟩,⟨some 10,none,.fad 0 (.t 9)⟩,
   ⟨some 11,none,.load false 1 (.t 10)⟩,⟨some 12,none,.mov (.t 1)⟩,⟨some 13,none,.iad 2 (.t 11) (.t 12)⟩,⟨some 14,none,.fad 0 (.t 13)⟩,
   ⟨some 15,none,.load false 1 (.t 14)⟩,⟨some 16,none,.mov (.t 2)⟩,⟨some 17,none,.call .q (.f 37) [.t 15,.t 16]⟩,⟨some 18,none,.mov (.t 17)⟩,
   ⟨some 19,some (18,true),.mov (.t 0)⟩,⟨some 20,some (18,true),.nilck (.t 19)⟩,⟨some 21,some (18,true),.fad 0 (.t 20)⟩,
   ⟨some 22,some (18,true),.fad 0 (.t 21)⟩,⟨some 23,some (18,true),.load false 1 (.t 22)⟩,⟨some 24,some (18,true),.mov (.t 1)⟩,
   ⟨some 25,some (18,true),.iad 2 (.t 23) (.t 24)⟩,⟨some 26,some (18,true),.fad 1 (.t 25)⟩,⟨some 27,some (18,true),.load false 1 (.t 26)⟩,
   ⟨some 28,some (18,true),.mov (.t 0)⟩,⟨some 29,some (18,true),.nilck (.t 28)⟩,⟨some 30,some (18,true),.fad 6 (.t 29)⟩,
   ⟨some 31,some (18,true),.load false 1 (.t 30)⟩,⟨some 32,some (18,true),.mov (.t 2)⟩,⟨some 33,some (18,true),.iad 1 (.t 31) (.t 32)⟩,
   ⟨some 34,some (18,true),.load false 1 (.t 33)⟩,⟨some 35,some (18,true),.call .q (.f 62) [.t 27,.t 34]⟩,
   ⟨some 36,none,.pick (.t 18) (.t 35) (.c (.bool false))⟩,⟨some 6,none,.mov (.t 36)⟩])
 (.ret))⟩
def c_lStep : IFn := ⟨4,99,[.t 8],
 .seq (.reg none [⟨some 8,none,.mov (.c (.bool false))⟩])
 (.seq (.reg none [⟨some 13,none,.mov (.t 0)⟩,⟨some 14,none,.nilck (.t 13)⟩,⟨some 15,none,.fad 3 (.t 14)⟩,⟨some 16,none,.load false 1 (.t 15)⟩,
   ⟨some 17,none,.mov (.t 2)⟩,⟨some 18,none,.iad 8 (.t 16) (.t 17)⟩,⟨some 19,none,.load true 8 (.t 18)⟩,
   ⟨some 9,none,.new [(.int .i64 0),(.int .i64 0),(.int .i64 0),(.int .i64 0),(.int .i64 0),(.int .i64 0),(.slice none 0 0),(.slice none 0 0)]⟩,
   ⟨none,none,.store 8 (.t 9) (.t 19)⟩])
 (.seq (.reg none [⟨some 20,none,.mov (.t 0)⟩,⟨some 21,none,.nilck (.t 20)⟩,⟨some 22,none,.fad 4 (.t 21)⟩,⟨some 23,none,.load false 1 (.t 22)⟩,
   ⟨some 24,none,.mov (.t 2)⟩,⟨some 25,none,.iad 2 (.t 23) (.t 24)⟩,⟨some 26,none,.load true 2 (.t 25)⟩,⟨some 10,none,.new [(.int .i64 0),(.int .i64 0)]⟩,
   ⟨none,none,.store 2 (.t 10) (.t 26)⟩])
 (.seq (.seq (.reg (some 20) [⟨some 27,none,.fad 0 (.t 10)⟩,⟨some 28,none,.load false 1 (.t 27)⟩,⟨some 29,none,.mov (.t 3)⟩,
   ⟨some 30,none,.call .q (.f 37) [.t 28,.t 29]⟩,⟨some 31,none,.un .not (.t 30)⟩,⟨some 32,none,.mov (.t 31)⟩,⟨some 33,some (32,false),.mov (.t 0)⟩,
   ⟨some 34,some (32,false),.nilck (.t 33)⟩,⟨some 35,some (32,false),.fad 5 (.t 34)⟩,⟨some 36,some (32,false),.load false 1 (.t 35)⟩,
   ⟨some 37,some (32,false),.mov (.t 2)⟩,⟨some 38,some (32,false),.iad 1 (.t 36) (.t 37)⟩,⟨some 39,some (32,false),.load false 1 (.t 38)⟩,
   ⟨some 40,some (32,false),.mov (.t 0)⟩,⟨some 41,some (32,false),.nilck (.t 40)⟩,⟨some 42,some (32,false),.fad 6 (.t 41)⟩,
   ⟨some 43,some (32,false),.load false 1 (.t 42)⟩,⟨some 44,some (32,false),.mov (.t 3)⟩,⟨some 45,some (32,false),.iad 1 (.t 43) (.t 44)⟩,
   ⟨some 46,some (32,false),.load false 1 (.t 45)⟩,⟨some 47,some (32,false),.call .q (.f 62) [.t 39,.t 46]⟩,⟨some 48,some (32,false),.un .not (.t 47)⟩,
   ⟨some 49,none,.pick (.t 32) (.c (.bool true)) (.t 48)⟩])
  (.cond (.t 49) (.seq (.reg none [⟨some 8,none,.mov (.c (.bool false))⟩])
   (.ret)) (.skip)))
 (.seq (.reg none [⟨some 50,none,.load true 8 (.t 9)⟩,⟨some 51,none,.call .k (.f 63) [.t 50]⟩,⟨some 11,none,.mov (.t 51)⟩])
 (.seq (.seq (.reg none [⟨some 12,none,.mov (.c (.int .i64 0))⟩])
  (.block 0 (.loop (.seq (.seq (.reg none [⟨some 52,none,.mov (.t 12)⟩,⟨some 53,none,.mov (.t 11)⟩,⟨some 54,none,.len (.t 53)⟩,
     ⟨some 55,none,.bin .lss (.t 52) (.t 54)⟩])
    (.cond (.t 55) (.skip) (.exit 0)))
   (.seq (.block 1 (.seq (.reg (some 25) [⟨some 58,none,.mov (.t 0)⟩,⟨some 59,none,.nilck (.t 58)⟩,⟨some 60,none,.fad 0 (.t 59)⟩,⟨some 61,none,.fad 0 (.t 60)⟩,
      ⟨some 62,none,.load false 1 (.t 61)⟩,⟨some 63,none,.mov (.t 11)⟩,⟨some 64,none,.mov (.t 12)⟩,⟨some 65,none,.iad 1 (.t 63) (.t 64)⟩,
      ⟨some 66,none,.load false 1 (.t 65)⟩,⟨some 67,none,.iad 2 (.t 62) (.t 66)⟩,⟨some 68,none,.fad 0 (.t 67)⟩,⟨some 69,none,.load false 1 (.t 68)⟩,
      ⟨some 70,none,.mov (.t 3)⟩,⟨some 71,none,.call .q (.f 37) [.t 69,.t 70]⟩,⟨some 72,none,.un .not (.t 71)⟩,⟨some 73,none,.mov (.t 72)⟩,
      ⟨some 74,some (73,false),.fad 0 (.t 10)⟩,⟨some 75,some (73,false),.load false 1 (.t 74)⟩,⟨some 76,some (73,false),.mov (.t 1)⟩,
      ⟨some 77,some (73,false),.mov (.t 11)⟩,⟨some 78,some (73,false),.mov (.t 12)⟩,⟨some 79,some (73,false),.iad 1 (.t 77) (.t 78)⟩,
      ⟨some 80,some (73,false),.load false 1 (.t 79)⟩,⟨some 81,some (73,false),.iad 1 (.t 76) (.t 80)⟩,⟨some 82,some (73,false),.load false 1 (.t 81)⟩,
      ⟨some 83,some (73,false),.call .q (.f 37) [.t 75,.t 82]⟩,⟨some 84,some (73,false),.un .not (.t 83)⟩,
      ⟨some 85,none,.pick (.t 73) (.c (.bool true)) (.t 84)⟩])
    (.cond (.t 85) (.seq (.reg none [⟨some 8,none,.mov (.c (.bool false))⟩])
     (.ret)) (.skip))))
   (.reg none [⟨some 56,none,.mov (.t 12)⟩,⟨some 57,none,.bin .add (.t 56) (.c (.int .i64 1))⟩,⟨some 12,none,.mov (.t 57)⟩]))))))
 (.seq (.reg (some 11) [⟨some 86,none,.fad 0 (.t 9)⟩,⟨some 87,none,.load false 1 (.t 86)⟩,⟨some 88,none,.bin .neq (.t 87) (.c (.int .i64 1))⟩,
   ⟨some 89,none,.mov (.t 88)⟩,⟨some 90,some (89,false),.fad 0 (.t 10)⟩,⟨some 91,some (89,false),.load false 1 (.t 90)⟩,⟨some 92,some (89,false),.mov (.t 1)⟩,
   ⟨some 93,some (89,false),.fad 1 (.t 9)⟩,⟨some 94,some (89,false),.load false 1 (.t 93)⟩,⟨some 95,some (89,false),.iad 1 (.t 92) (.t 94)⟩,
   ⟨some 96,some (89,false),.load false 1 (.t 95)⟩,⟨some 97,some (89,false),.call .q (.f 37) [.t 91,.t 96]⟩,
   ⟨some 98,none,.pick (.t 89) (.c (.bool true)) (.t 97)⟩,⟨some 8,none,.mov (.t 98)⟩])
 (.ret)))))))⟩
theorem byL_at (ts : List Int) {h : Int} (h0 : 0 <= h) (h2 : h <= 2) : ∃ hl : h.toNat < (byL ts).length,(byL ts)[h.toNat] = byS ts h 3 := by
 have hh : h = 0 \/ h = 1 \/ h = 2 := by omega
 rcases hh with rfl | rfl | rfl <;> exact ⟨by simp [byL],rfl⟩
def LHome (F : Nat -> Option IFn) (f : Nat) : Prop := ∀ (H : Heap) (W n : Nat) (ls : List (Int × Int)) (l : List (TStep n)) (ts : List Int) (v h : Int),LookR H W n ls l ts -> ls.all labB = true -> 0 <= v -> v < ls.length -> 0 <= h -> h <= 2 -> QC F f [ptr W 0,.int .i64 v,.int .i64 h] H (.bool (hmB ls ts v h))
theorem lHome_ok {F : Nat -> Option IFn} {f : Nat} (hf : F f = some c_lHome) (gh : HasOk F 37) (gw : WitOk F 62) : LHome F f := by
 intro H W n ls l ts v h hL hlab hv0 hv1 hh0 hh2
 obtain ⟨lv,sv,tw,li,la,se,bv,osv,hW,r1,r2,r3,r4,r5,r6⟩ := hL.ex
 have hlx := labB_i.1 (lab_getD hlab v.toNat)
 have hby := byS_lt ts h 3
 have h8 : (2 : Int) ^ 3 = 8 := by decide
 rw [h8] at hby
 obtain ⟨_,lva,rfl,_⟩ := id r1
 obtain ⟨_,bva,rfl,_⟩ := id r6
 obtain ⟨hbl,hbe⟩ := byL_at ts hh0 hh2
 obtain ⟨bb,bo,hbv,hbg⟩ := gcJ r6 hbl
 simp only [Value.slice.injEq,and_true] at hbv
 subst hbv
 rw [hbe] at hbg
 have hb3 : (byL ts).length = 3 := rfl
 obtain ⟨lb,lo',hla,hgl0,_⟩ := lab_at r1 (H := H) (fun _ _ h => h) hv0 hv1
 simp only [Value.slice.injEq,and_true] at hla
 subst hla
 have hgl := hgl0 []
 rw [List.append_nil] at hgl
 have g0 : getCells H lb (lo' + v.toNat * 2) 1 = some [.int .i64 (ls.getD v.toNat (0,0)).1] := by have := gc_part (off := 0) (k := 1) hgl (by omega); simpa using this
 have g1 : getCells H lb (lo' + v.toNat * 2 + 1) 1 = some [.int .i64 (ls.getD v.toNat (0,0)).2] := gc_part (off := 1) (k := 1) hgl (by omega)
 refine QC.mk hf rfl ?_
 refine seq_reg ?_
 simp only [go_sem,binC]
 refine seq_regD ?_
 simp only [go_sem,binC,gc_of hW,inBlk_some]
 refine ⟨⟨by omega,by omega⟩,?_⟩
 simp only [go_sem,binC,g0]
 refine op_callQ (by simp only [go_sem,binC]; exact gh H _ h hlx.1.1 hlx.1.2) ?_
 unfold hmB
 cases q1 : hasB (ls.getD v.toNat (0,0)).1 h with
 | false =>
   simp only [go_sem,binC]
   exact wpc_ret ⟨Or.inr rfl,_,(by (simp only [go_sem,binC]) <;> rfl),rfl,rfl⟩
 | true =>
   simp only [go_sem,binC,gc_of hW,inBlk_some]
   refine ⟨⟨by omega,by omega⟩,?_⟩
   simp only [go_sem,binC,g1,gc_of hW,inBlk_some]
   refine ⟨⟨by omega,by omega⟩,?_⟩
   simp only [go_sem,binC,Nat.mul_one,hbg]
   refine op_callQ (by simp only [go_sem,binC]; exact gw H _ _ hlx.2.1 hlx.2.2 hby.1 (by omega)) ?_
   simp only [go_sem,binC]
   exact wpc_ret ⟨Or.inr rfl,_,(by (simp only [go_sem,binC]) <;> rfl),rfl,rfl⟩
theorem slA_at {H : Heap} {v : Value} {l : List AnyS} (h : SlR Co.anyS (vw 0 H) v l) {i : Nat} (hi : i < l.length) : ∃ b o cs,v = .slice (some ⟨b,o,none⟩) l.length l.length /\ getCells H b (o + i * 8) 8 = some cs /\ Co.anyS.rd (vw 0 H) cs l[i] := by
 obtain ⟨h0,a,rfl,h1⟩ := h
 obtain ⟨b,o,rfl,h2⟩ := h1.resolve_left (fun h => by rw [h] at hi; simp at hi)
 obtain ⟨cs,h3,h4⟩ := h2 i hi
 have h5 := rng_gc h3
 exact ⟨b,o,cs,rfl,h5,h4⟩
theorem slP_at {H : Heap} {v : Value} {l : List (Int × Int)} (h : SlR Co.p2 (vw 0 H) v l) {i : Nat} (hi : i < l.length) : ∃ b o,v = .slice (some ⟨b,o,none⟩) l.length l.length /\ getCells H b (o + i * 2) 2 = some [.int .i64 l[i].1,.int .i64 l[i].2] := by
 obtain ⟨h0,a,rfl,h1⟩ := h
 obtain ⟨b,o,rfl,h2⟩ := h1.resolve_left (fun h => by rw [h] at hi; simp at hi)
 obtain ⟨cs,h3,h4⟩ := h2 i hi
 have h5 := rng_gc h3
 obtain ⟨_,_,rfl,⟨hq1,_⟩,⟨hq2,_⟩⟩ := h4
 subst hq1 hq2
 exact ⟨b,o,rfl,h5⟩
def doN (n : Nat) (ls : List (Int × Int)) (l : List (TStep n)) (ts homes : List Int) (j : Nat) (h : Int) : Bool := match (allSL n l)[j]?,(atL n ls (7,7) l)[j]? with
 | some s,some own => doesB ls ts homes (shA s) (stA ls s) own h
 | _,_ => false
theorem doN_eq {n : Nat} {ls : List (Int × Int)} {l : List (TStep n)} {ts homes : List Int} {j : Nat} {h : Int} (h1 : j < (allSL n l).length) (h2 : j < (atL n ls (7,7) l).length) : doN n ls l ts homes j h = doesB ls ts homes (shA (allSL n l)[j]) (stA ls (allSL n l)[j]) (atL n ls (7,7) l)[j] h := by
 unfold doN
 rw [List.getElem?_eq_getElem h1,List.getElem?_eq_getElem h2]
def LStep (F : Nat -> Option IFn) (f : Nat) : Prop := ∀ (H : Heap) (W n : Nat) (ls : List (Int × Int)) (l : List (TStep n)) (ts : List Int) (hw : Value) (homes : List Int) (j : Nat) (h : Int),LookR H W n ls l ts -> progB n (ls,l) = true -> SlR Co.int (vw 0 H) hw homes -> homesP ls.length homes -> j < (allSL n l).length -> 0 <= h -> h <= 2 -> QC F f [ptr W 0,hw,.int .i64 j,.int .i64 h] H (.bool (doN n ls l ts homes j h))
theorem lStep_ok {F : Nat -> Option IFn} {f : Nat} (hf : F f = some c_lStep) (gh : HasOk F 37) (gw : WitOk F 62) (gm : MakesOk F 63) : LStep F f := by
 intro H W n ls l ts hw homes j h hL hP rh hho hj hh0 hh2
 have hlab : ls.all labB = true := progB_lab hP
 have hatl := atL_len ls (7,7) l
 have hsl := allSL_len l
 have hja : j < (atL n ls (7,7) l).length := by omega
 obtain ⟨lv,sv,tw,li,la,se,bv,osv,hW,r1,r2,r3,r4,r5,r6⟩ := hL.ex
 have hokA := progB_okA hP (List.getElem_mem hj)
 have hown : labB (atL n ls (7,7) l)[j] = true := List.all_eq_true.1 (atL_lab hlab rfl l) _ (List.getElem_mem hja)
 rw [doN_eq hj hja]
 obtain ⟨_,lva,rfl,_⟩ := id r1
 obtain ⟨_,ha,rfl,_⟩ := id rh
 obtain ⟨_,sea,rfl,hse⟩ := id r5
 obtain ⟨_,bva,rfl,_⟩ := id r6
 obtain ⟨hbl,hbe⟩ := byL_at ts hh0 hh2
 obtain ⟨bb,bo,hbv,hbg⟩ := gcJ r6 hbl
 simp only [Value.slice.injEq,and_true] at hbv
 subst hbv
 rw [hbe] at hbg
 have hb3 : (byL ts).length = 3 := rfl
 have hsel : (setsA n ls l).length = (allSL n l).length := by unfold setsA; rw [List.length_map]
 obtain ⟨sb,so,hsv,hsg⟩ := gcJ r5 (i := j) (by omega)
 have hsei : (setsA n ls l)[j]'(by omega) = stA ls (allSL n l)[j] := by unfold setsA; rw [List.getElem_map]
 rw [hsei] at hsg
 simp only [Value.slice.injEq,and_true] at hsv
 subst hsv
 obtain ⟨lib,lio,css,hli,gcs,rds⟩ := slA_at r3 hj
 subst hli
 obtain ⟨lab,lao,hla,gca⟩ := slP_at r4 hja
 subst hla
 have hst := stT_bd hlab ((allSL n l)[j].1 + 1) (allSL n l)[j].2
 have hst' : R7 (stA ls (allSL n l)[j]) := hst
 generalize (allSL n l)[j] = s at *
 generalize (atL n ls (7,7) l)[j] = own at *
 obtain ⟨sk,sx,sa,sbb,sc,sg,tv,ev,tl,el,hs2,hcs,rg,otv,oev,htl,hel⟩ := anyS_rd rds
 subst hcs
 have hsh : shA s = (sk,sx,(sa,sbb,sc),sg) := by unfold shA; rw [hs2]
 obtain ⟨hok1,hok2⟩ := hokA
 rw [hsh] at hok1
 have hvx : 0 <= sx /\ sx < ls.length := by
  have := hok1
  simp only [shB,Bool.and_eq_true] at this
  exact varB_i.1 this.1
 have hmin := makesL_in hok1
 obtain ⟨ho1,ho2⟩ := hown |> fun h => labB_i.1 h
 obtain ⟨hhl,hhr⟩ := hho
 have hby := byS_lt ts h 3
 have h8 : (2 : Int) ^ 3 = 8 := by decide
 rw [h8] at hby
 rw [hsh]
 refine QC.mk hf rfl ?_
 refine seq_reg ?_
 simp only [go_sem,binC]
 refine seq_reg ?_
 simp only [go_sem,binC,gc_of hW,inBlk_some]
 refine ⟨⟨by omega,by omega⟩,?_⟩
 simp only [go_sem,binC,Int.toNat_natCast,gcs,otv,oev]
 refine wpc_gen fun H1 hH1 => ?_
 have hx1 : AgX [] H H1 := hH1 ▸ AgX.app [] _ _
 have hb9 : H1[H.length]? = some ⟨[.int .i64 sk,.int .i64 sx,.int .i64 sa,.int .i64 sbb,.int .i64 sc,.int .i64 sg,tv,ev],0,0,false,true⟩ := hH1 ▸ get_new0 _ _
 have hl1 : H1.length = H.length + 1 := by rw [hH1,List.length_append]; rfl
 clear hH1
 have hW1 := hx1.get hW (by simp)
 refine seq_reg ?_
 simp only [go_sem,binC,gc_of hW1,inBlk_some]
 refine ⟨⟨by omega,by omega⟩,?_⟩
 simp only [go_sem,binC,Int.toNat_natCast,gcK gca hx1]
 refine ⟨by omega,?_⟩
 refine wpc_gen fun H2 hH2 => ?_
 have hx2 : AgX [] H1 H2 := hH2 ▸ AgX.app [] _ _
 have hb10 : H2[H1.length]? = some ⟨[.int .i64 own.1,.int .i64 own.2],0,0,false,true⟩ := hH2 ▸ get_new0 _ _
 clear hH2
 have hx02 := hx1.tr hx2
 have hW2 := hx2.get hW1 (by simp)
 have hb92 := hx2.get hb9 (by simp)
 refine seq_assoc (seq_regD ?_)
 simp only [go_sem,binC,gc_of hb10,inBlk_some]
 refine op_callQ (by simp only [go_sem,binC]; exact gh H2 own.1 h ho1.1 ho1.2) ?_
 cases q1 : hasB own.1 h with
 | false =>
   simp only [go_sem,binC]
   refine seq_cond (t := true) rfl ?_
   simp only [go_sem,binC]
   refine seq_assoc (seq_reg ?_)
   simp only [go_sem,binC]
   refine seq_ret ⟨Or.inr rfl,.bool false,(by (simp only [go_sem,binC]) <;> rfl),?_,rfl⟩
   unfold doesB
   rw [q1]
   rfl
 | true =>
 simp only [go_sem,binC,gc_of hW2,inBlk_some]
 refine ⟨⟨by omega,by omega⟩,?_⟩
 simp only [go_sem,binC,Int.toNat_natCast,Nat.mul_one,gcK hsg hx02,gc_of hW2,inBlk_some]
 refine ⟨⟨by omega,by omega⟩,?_⟩
 simp only [go_sem,binC,Nat.mul_one,gcK hbg hx02]
 refine op_callQ (by simp only [go_sem,binC]; exact gw H2 _ _ hst'.1 hst'.2 hby.1 (by omega)) ?_
 generalize stA ls s = st at *
 cases q2 : witB st (byS ts h 3) with
 | false =>
   simp only [go_sem,binC]
   refine seq_cond (t := true) rfl ?_
   simp only [go_sem,binC]
   refine seq_assoc (seq_reg ?_)
   simp only [go_sem,binC]
   refine seq_ret ⟨Or.inr rfl,.bool false,(by (simp only [go_sem,binC]) <;> rfl),?_,rfl⟩
   unfold doesB
   rw [q1,q2]
   rfl
 | true =>
 simp only [go_sem,binC]
 refine seq_cond (t := false) rfl ?_
 simp only [go_sem,binC]
 refine seq_skip (seq_reg ?_)
 simp only [go_sem,binC,gc_of hb92,inBlk_some,otv,oev]
 obtain ⟨mw,H3,k3,hx3,hm3⟩ := gm H2 ls.length sk sx sa sbb sc sg tv ev otv oev rg hok1
 refine op_callK (by simp only [go_sem,binC]; exact k3) ?_
 obtain ⟨_,ma,rfl,_⟩ := id hm3
 simp only [go_sem,binC]
 refine seq_assoc (seq_reg ?_)
 simp only [go_sem,binC]
 have hx03 := hx02.tr hx3
 have hW3 := hx3.get hW2 (by simp)
 have hb93 := hx3.get hb92 (by simp)
 have hb103 := hx3.get hb10 (by simp)
 have r13 := r1.mono (agx_sub hx03)
 have rh3 := rh.mono (agx_sub hx03)
 have hm3' := hm3.mono (vwl0 _ _ _)
 generalize hML : makesL (sk,sx,(sa,sbb,sc),sg) = ml at *
 have hdo : doesB ls ts homes (sk,sx,(sa,sbb,sc),sg) st own h = (ml.all (mkP ls homes own h) && (decide (sk ≠ 1) || hasB own.1 (homes.getD sx.toNat 0))) := by
  unfold doesB
  rw [q1,q2,hML]
  rfl
 rw [hdo]
 have hhome : ∀ v : Int,0 <= v -> v < ls.length -> ∃ hb ho,ha = some ⟨hb,ho,none⟩ /\ getCells H3 hb (ho + v.toNat) 1 = some [.int .i64 (homes.getD v.toNat 0)] := fun v h1 h2 => by
  have hl : v.toNat < homes.length := by omega
  obtain ⟨b,o,hv,hg⟩ := gcJ rh3 hl
  simp only [Value.slice.injEq,and_true] at hv
  refine ⟨b,o,hv,?_⟩
  rw [hg]
  simp [List.getD,hl]
 have hlabel : ∀ v : Int,0 <= v -> v < ls.length -> ∃ lb lo',lva = some ⟨lb,lo',none⟩ /\ getCells H3 lb (lo' + v.toNat * 2) 1 = some [.int .i64 (ls.getD v.toNat (0,0)).1] := fun v h1 h2 => by
  obtain ⟨lb,lo',hla,hgl0,_⟩ := lab_at r13 (H := H3) (fun _ _ h => h) h1 h2
  simp only [Value.slice.injEq,and_true] at hla
  have hgl1 := hgl0 []
  rw [List.append_nil] at hgl1
  have := gc_part (off := 0) (k := 1) hgl1 (by omega)
  exact ⟨lb,lo',hla,by simpa using this⟩
 have hl3 := hx03.1
 refine seq_block (wpc_loop ?_)
 suffices hh : ∀ (m i : Nat) (e : Env),i + m = ml.length -> (ml.take i).all (mkP ls homes own h) = true -> e 0 = ptr W 0 -> e 1 = .slice ha homes.length homes.length -> e 3 = .int .i64 h -> e 9 = ptr H.length 0 -> e 10 = ptr H1.length 0 -> e 11 = .slice ma ml.length ml.length -> e 12 = .int .i64 i -> Go.Proofs.YtbjeldblaclpnaaGreatI.W F H.length _ e H3 _ from
  hh ml.length 0 _ (by omega) rfl (by simp only [go_sem,binC]) (by simp only [go_sem,binC]) (by simp only [go_sem,binC]) (by simp only [go_sem,binC]) (by simp only [go_sem,binC]) (by simp only [go_sem,binC]) (by (simp only [go_sem,binC]) <;> rfl)
 intro m
 induction m with
 | zero =>
   intro i e hi hall e0 e1 e3 e9 e10 e11 e12
   rw [List.take_of_length_le (by omega)] at hall
   refine lp_step ?_
   refine seq_assoc (seq_reg ?_)
   simp only [go_sem,binC,e11,e12]
   refine seq_cond (t := false) (by simp only [go_sem,binC]; rw [decide_eq_false (by omega)]) ?_
   simp only [go_sem,binC]
   refine seq_exit ?_
   simp only [go_sem,binC,thenX_e,out_e,thenX_n]
   refine seq_regD ?_
   simp only [go_sem,binC,e9,gc_of hb93,inBlk_some]
   by_cases k1 : sk = 1
   ·simp only [go_sem,binC,bne_fJ k1]
    obtain ⟨hb,ho,rfl,hg⟩ := hhome sx hvx.1 hvx.2
    simp only [go_sem,binC,e1,e9,e10,gc_of hb93,gc_of hb103,inBlk_some]
    refine ⟨⟨by omega,by omega⟩,?_⟩
    simp only [go_sem,binC,Int.toNat_natCast,Nat.mul_one,hg]
    refine op_callQ (by simp only [go_sem,binC]; exact gh H3 own.1 _ ho1.1 ho1.2) ?_
    simp only [go_sem,binC]
    refine wpc_ret ⟨Or.inr rfl,_,(by (simp only [go_sem,binC]) <;> rfl),?_,rfl⟩
    rw [hall,decide_eq_false (by simpa using k1)]
    rfl
   ·simp only [go_sem,binC,bne_tJ k1]
    refine wpc_ret ⟨Or.inr rfl,_,(by (simp only [go_sem,binC]) <;> rfl),?_,rfl⟩
    rw [hall,decide_eq_true (by simpa using k1)]
    rfl
 | succ m ih =>
   intro i e hi hall e0 e1 e3 e9 e10 e11 e12
   have hil : i < ml.length := by omega
   have hw1 : IntKind.i64.wrap ((i : Int) + 1) = ((i + 1 : Nat) : Int) := by rw [wrap_id (by omega) (by omega)]; omega
   have hvi := hmin _ (List.getElem_mem hil)
   obtain ⟨mb,mo,hmv,hmg⟩ := gcJ hm3' hil
   simp only [Value.slice.injEq,and_true] at hmv
   subst hmv
   obtain ⟨lb,lo',rfl,hlg⟩ := hlabel _ hvi.1 hvi.2
   obtain ⟨hb,ho,rfl,hhg⟩ := hhome _ hvi.1 hvi.2
   have hlx := labB_i.1 (lab_getD hlab ml[i].toNat)
   have hPf : mkP ls homes own h ml[i] = false -> ml.all (mkP ls homes own h) = false := fun hp => by
    rw [Bool.eq_false_iff]
    intro hall'
    have := List.all_eq_true.1 hall' _ (List.getElem_mem hil)
    rw [hp] at this
    cases this
   refine lp_step ?_
   refine seq_assoc (seq_reg ?_)
   simp only [go_sem,binC,e11,e12]
   refine seq_cond (t := true) (by simp only [go_sem,binC]; rw [decide_eq_true (by omega)]) ?_
   simp only [go_sem,binC]
   refine seq_skip (seq_block (seq_regD ?_))
   simp only [go_sem,binC,e0,e3,e11,e12,gc_of hW3,inBlk_some]
   refine ⟨⟨by omega,by omega⟩,?_⟩
   simp only [go_sem,binC,Int.toNat_natCast,Nat.mul_one,hmg]
   refine ⟨⟨by omega,by omega⟩,?_⟩
   simp only [go_sem,binC,hlg,e3]
   refine op_callQ (by simp only [go_sem,binC,e3]; exact gh H3 _ h hlx.1.1 hlx.1.2) ?_
   cases p1 : hasB (ls.getD ml[i].toNat (0,0)).1 h with
   | false =>
     simp only [go_sem,binC]
     refine wpc_cond (t := true) rfl ?_
     simp only [go_sem,binC]
     refine seq_reg ?_
     simp only [go_sem,binC]
     refine wpc_ret ?_
     simp only [go_sem,binC,out_r,thenX_r]
     refine ⟨Or.inr rfl,.bool false,(by (simp only [go_sem,binC]) <;> rfl),?_,rfl⟩
     rw [hPf (by unfold mkP; rw [p1]; rfl)]
     rfl
   | true =>
   simp only [go_sem,binC,e1,e10,e11,e12,gc_of hb103,inBlk_some]
   refine ⟨⟨by omega,by omega⟩,?_⟩
   simp only [go_sem,binC,Int.toNat_natCast,Nat.mul_one,hmg]
   refine ⟨⟨by omega,by omega⟩,?_⟩
   simp only [go_sem,binC,Int.toNat_natCast,Nat.mul_one,hhg]
   refine op_callQ (by simp only [go_sem,binC]; exact gh H3 own.1 _ ho1.1 ho1.2) ?_
   cases p2 : hasB own.1 (homes.getD ml[i].toNat 0) with
   | false =>
     simp only [go_sem,binC]
     refine wpc_cond (t := true) rfl ?_
     simp only [go_sem,binC]
     refine seq_reg ?_
     simp only [go_sem,binC]
     refine wpc_ret ?_
     simp only [go_sem,binC,out_r,thenX_r]
     refine ⟨Or.inr rfl,.bool false,(by (simp only [go_sem,binC]) <;> rfl),?_,rfl⟩
     rw [hPf (by unfold mkP; rw [p1,p2]; rfl)]
     rfl
   | true =>
   simp only [go_sem,binC]
   refine wpc_cond (t := false) rfl ?_
   simp only [go_sem,binC]
   refine wpc_skip ?_
   simp only [go_sem,binC,out_n,thenX_n]
   refine wpc_reg ?_
   simp only [go_sem,binC,e12,hw1]
   simp only [go_sem,binC,thenX_n]
   refine ih (i + 1) _ (by omega) ?_ (by simp only [go_sem,binC,e0]) (by simp only [go_sem,binC,e1]) (by simp only [go_sem,binC,e3]) (by simp only [go_sem,binC,e9]) (by simp only [go_sem,binC,e10]) (by simp only [go_sem,binC,e11]) (by simp only [go_sem,binC])
   rw [List.take_add_one,List.getElem?_eq_getElem hil,List.all_append,hall]
   simp only [Option.toList,List.all_cons,List.all_nil,Bool.true_and,Bool.and_true]
   unfold mkP
   rw [p1,p2]
   rfl
end Go.Proofs.YtbjeldblaclpnaaGreatI
end
section
set_option linter.unusedVariables false
set_option linter.unusedSimpArgs false
namespace Go.Proofs.YtbjeldblaclpnaaGreatI
open Go Go.RowKit
def c_lDoes : IFn := ⟨2,41,[.t 4,.t 5],
 .seq (.reg none [⟨some 4,none,.mov (.c (.slice none 0 0))⟩,⟨some 5,none,.mov (.c (.bool false))⟩])
 (.seq (.reg none [⟨some 10,none,.lit 1 3 0 [] []⟩,⟨some 6,none,.mov (.t 10)⟩])
 (.seq (.seq (.reg none [⟨some 7,none,.mov (.c (.int .i64 0))⟩])
  (.block 0 (.loop (.seq (.seq (.reg none [⟨some 11,none,.mov (.t 7)⟩,⟨some 12,none,.mov (.t 0)⟩,⟨some 13,none,.nilck (.t 12)⟩,⟨some 14,none,.fad 3 (.t 13)⟩,
     ⟨some 15,none,.load false 1 (.t 14)⟩,⟨some 16,none,.len (.t 15)⟩,⟨some 17,none,.bin .lss (.t 11) (.t 16)⟩])
    (.cond (.t 17) (.skip) (.exit 0)))
   (.seq (.block 1 (.seq (.reg none [⟨some 8,none,.mov (.c (.bool false))⟩])
    (.seq (.seq (.reg none [⟨some 9,none,.mov (.c (.int .i64 0))⟩])
     (.block 2 (.loop (.seq (.seq (.reg none [⟨some 20,none,.mov (.t 9)⟩,⟨some 21,none,.bin .lss (.t 20) (.c (.int .i64 3))⟩,⟨some 22,none,.mov (.t 21)⟩,
        ⟨some 23,some (22,true),.mov (.t 8)⟩,⟨some 24,some (22,true),.un .not (.t 23)⟩,⟨some 25,none,.pick (.t 22) (.t 24) (.c (.bool false))⟩])
       (.cond (.t 25) (.skip) (.exit 2)))
      (.seq (.block 3 (.seq (.reg none [⟨some 28,none,.mov (.t 0)⟩,⟨some 29,none,.mov (.t 1)⟩,⟨some 30,none,.mov (.t 7)⟩,⟨some 31,none,.mov (.t 9)⟩,
         ⟨some 32,none,.call .q (.f 31) [.t 28,.t 29,.t 30,.t 31]⟩])
       (.cond (.t 32) (.seq (.reg none [⟨some 33,none,.mov (.t 6)⟩,⟨some 34,none,.mov (.t 9)⟩,⟨some 35,none,.lit 1 3 1 [(.int .i64 0)] [(0,1,(.t 34))]⟩,
         ⟨some 36,none,.app 1 3 8 true (.t 33) (.t 35)⟩,⟨some 6,none,.mov (.t 36)⟩])
        (.reg none [⟨some 8,none,.mov (.c (.bool true))⟩])) (.skip))))
      (.reg none [⟨some 26,none,.mov (.t 9)⟩,⟨some 27,none,.bin .add (.t 26) (.c (.int .i64 1))⟩,⟨some 9,none,.mov (.t 27)⟩]))))))
    (.seq (.reg none [⟨some 37,none,.mov (.t 8)⟩,⟨some 38,none,.un .not (.t 37)⟩])
    (.cond (.t 38) (.seq (.reg none [⟨some 39,none,.lit 1 3 0 [] []⟩,⟨some 4,none,.mov (.t 39)⟩,⟨some 5,none,.mov (.c (.bool false))⟩])
     (.ret)) (.skip))))))
   (.reg none [⟨some 18,none,.mov (.t 7)⟩,⟨some 19,none,.bin .add (.t 18) (.c (.int .i64 1))⟩,⟨some 7,none,.mov (.t 19)⟩]))))))
 (.seq (.reg none [⟨some 40,none,.mov (.t 6)⟩,⟨some 4,none,.mov (.t 40)⟩,⟨some 5,none,.mov (.c (.bool true))⟩])
 (.ret))))⟩
structure IntsO (et lo : Nat) (H : Heap) (b : Nat) (so : Bool) (l : List Int) : Prop where
 ge : lo <= b
 len : l.length <= 1048576
 blk : H[b]? = some ⟨ints l,1,et,true,so⟩
 rg : ∀ x ∈ l,RgI x
theorem IntsO.sl {et lo : Nat} {H : Heap} {b : Nat} {so : Bool} {l : List Int} (h : IntsO et lo H b so l) : SlR Co.int (vw 0 H) (sli b 0 l.length) l := ints_sl0 h.blk h.rg (by have := h.len; omega)
theorem IntsO.keep {et lo lo' : Nat} {H H' : Heap} {b : Nat} {so : Bool} {l : List Int} {xs : List Nat} (h : IntsO et lo H b so l) (hl : lo' <= lo) (hx : AgX xs H H') (hn : b ∉ xs) : IntsO et lo' H' b so l := ⟨Nat.le_trans hl h.ge,h.len,hx.get h.blk hn,h.rg⟩
theorem IntsO.lt {et lo : Nat} {H : Heap} {b : Nat} {so : Bool} {l : List Int} (h : IntsO et lo H b so l) : b < H.length := (List.getElem?_eq_some_iff.1 h.blk).1
theorem IntsO.nil {et lo : Nat} {H : Heap} (h : lo <= H.length) : IntsO et lo (H ++ [⟨[],1,et,true,true⟩]) H.length true [] := ⟨h,by simp,get_new0 _ _,by simp⟩
theorem ints_app (a b : List Int) : ints a ++ ints b = ints (a ++ b) := by simp [ints]
theorem op_app_IK {F : Nat -> Option IFn} {lo0 et bytes lo b : Nat} {kill so : Bool} {x y : Opd} {e : Env} {H : Heap} {v2 : Value} {l l2 : List Int} {K : Value -> Heap -> Prop}
  (hv : IntsO et lo H b so l) (hx : x.ev e = sli b 0 l.length) (hy : y.ev e = v2) (h2 : SlR Co.int (vw 0 H) v2 l2) (hlo0 : lo0 <= lo) (hl : l.length + l2.length <= 1048576) (hb : bytes <= 1048576)
  (k : ∀ H' b' so',AgX [b] H H' -> (b' = b \/ H.length <= b') -> (kill = true -> so' = so) -> IntsO et lo H' b' so' (l ++ l2) -> K (sli b' 0 (l ++ l2).length) H') : wpOp F lo0 (.app 1 et bytes kill x y) e H K := by
 by_cases hne : l2 = []
 ·subst hne
  obtain ⟨_,a,rfl,_⟩ := h2
  refine op_app_zero _ _ _ _ _ hx hy ?_
  have := k H b so (AgX.refl _ _) (.inl rfl) (fun _ => rfl) (by rw [List.append_nil]; exact hv)
  rw [List.append_nil] at this
  exact this
 have hm : l2.length ≠ 0 := fun h => hne (List.eq_nil_of_length_eq_zero h)
 have hrg2 := sl_rg h2
 obtain ⟨b2,o2,rfl,hg⟩ := sl_intsJ h2 hne
 have hbytes : (l.length + l2.length) * bytes <= 1048576 * 1048576 := Nat.mul_le_mul (by omega) hb
 have hbl := hv.lt
 have hge := hv.ge
 refine op_app _ _ _ _ _ (b := ⟨b,0,none⟩) (n := l.length) (c := l.length) (a := ⟨b2,o2,none⟩) (m := l2.length) (c' := l2.length) (ys := ints l2) (kb := ⟨ints l,1,et,true,so⟩) hx hy hm hg hv.blk ⟨by show lo0 <= b; omega,rfl,rfl,rfl,rfl,by simp [ints],by omega,by omega⟩ ?_
 have hag : AgX [b] H (H.set b ⟨if kill then [] else ints l,1,et,false,so && l.length == 0⟩ ++ ([⟨ints l ++ ints l2,1,et,true,so && (l.length == 0 || kill)⟩] : Heap)) := (AgX.set H b _).trans (AgX.app [] _ _) (fun b h _ => h) (fun b h _ => by cases h)
 have hres := k _ H.length (so && (l.length == 0 || kill)) hag (.inr (Nat.le_refl _)) (fun h => by rw [h,Bool.or_true,Bool.and_true]) ?_
 ·rw [List.length_append] at hres; exact hres
 ·refine ⟨by omega,by rw [List.length_append]; omega,?_,fun x hx => ?_⟩
  ·have : H.length = (H.set b ⟨if kill then [] else ints l,1,et,false,so && l.length == 0⟩).length := by rw [List.length_set]
   rw [ints_app] at hag ⊢
   rw [this,get_new0]
   rfl
  ·rcases List.mem_append.1 hx with h | h
   ·exact hv.rg x h
   ·exact hrg2 x h
theorem op_app_I1 {F : Nat -> Option IFn} {lo0 et bytes lo b : Nat} {kill so : Bool} {x y : Opd} {e : Env} {H : Heap} {l : List Int} {a : Int} {K : Value -> Heap -> Prop}
  (hv : IntsO et lo H b so l) (hx : x.ev e = sli b 0 l.length) (hy : y.ev e = sli H.length 0 1) (ha : RgI a) (hlo0 : lo0 <= lo) (hl : l.length < 1048576) (hb : bytes <= 1048576)
  (k : ∀ H' b' so',AgX [b] H H' -> (b' = b \/ H.length <= b') -> (kill = true -> so' = so) -> IntsO et lo H' b' so' (l ++ [a]) -> K (sli b' 0 (l ++ [a]).length) H') : wpOp F lo0 (.app 1 et bytes kill x y) e (H ++ [⟨[.int .i64 a],1,et,true,true⟩]) K := by
 have hbl := hv.lt
 have h1 : SlR Co.int (vw 0 (H ++ [⟨[.int .i64 a],1,et,true,true⟩])) (sli H.length 0 1) [a] := ints_sl0 (l := [a]) (get_new0 _ _) (fun x hx => by simp only [List.mem_singleton] at hx; subst hx; exact ha) (by simp)
 refine op_app_IK (hv.keep (Nat.le_refl _) (AgX.app [] _ _) (by simp)) hx hy h1 hlo0 (by simp; omega) hb fun H' b' so' q1 q2 q3 q4 => k H' b' so' ((AgX.app [] H _).trans q1 (fun _ h _ => by cases h) (fun _ h _ => h)) ?_ q3 q4
 rcases q2 with h | h
 ·exact .inl h
 ·exact .inr (by rw [List.length_append] at h; omega)
theorem doesL_at {n : Nat} {ls : List (Int × Int)} {l : List (TStep n)} {ts homes : List Int} {j : Nat} (hj : j < (allSL n l).length) (h : j < (doesL n (ls,l) ts homes).length) : (doesL n (ls,l) ts homes)[j] = firstH (doN n ls l ts homes j) := by
 have hja : j < (atL n ls (7,7) l).length := by rw [atL_len,<- allSL_len]; exact hj
 have : doN n ls l ts homes j = doesB ls ts homes (shA (allSL n l)[j]) (stA ls (allSL n l)[j]) (atL n ls (7,7) l)[j] := funext fun h => doN_eq hj hja
 rw [this]
 simp [doesL,doerV]
def LDoes (F : Nat -> Option IFn) (f : Nat) : Prop := ∀ (H : Heap) (W n : Nat) (ls : List (Int × Int)) (l : List (TStep n)) (ts : List Int) (hw : Value) (homes : List Int),LookR H W n ls l ts -> progB n (ls,l) = true -> (Co.prog n).sm (ls,l) -> SlR Co.int (vw 0 H) hw homes -> homesP ls.length homes ->
 ∃ w H',KC F f [ptr W 0,hw] H w H' /\ ∃ b out,w = .tuple #[sli b 0 out.length,.bool (fitsB n (ls,l) ts homes)] /\ AgX [] H H' /\ IntsO 3 H.length H' b true out /\ (fitsB n (ls,l) ts homes = true -> out = doesL n (ls,l) ts homes)
theorem lDoes_ok {F : Nat -> Option IFn} {f : Nat} (hf : F f = some c_lDoes) (gs : LStep F 31) : LDoes F f := by
 intro H W n ls l ts hw homes hL hP hsm rh hho
 obtain ⟨_,ha,rfl,_⟩ := id rh
 have hcnt : (allL n l).length <= 8 := progB_cnt hP hsm
 have hsl := allSL_len l
 have hdl := doesL_len (n := n) (p := (ls,l)) (ts := ts) (homes := homes)
 replace hdl : (doesL n (ls,l) ts homes).length = (allL n l).length := hdl
 refine KC.mk hf rfl ?_
 refine seq_reg ?_
 simp only [go_sem,binC]
 refine seq_reg ?_
 simp only [go_sem,binC]
 refine wpc_gen fun H1 hH1 => ?_
 have hx1 : AgX [] H H1 := hH1 ▸ AgX.app [] _ _
 have ho1 : IntsO 3 H.length H1 H.length true [] := hH1 ▸ IntsO.nil (Nat.le_refl _)
 clear hH1
 refine seq_assoc (seq_reg ?_)
 simp only [go_sem,binC]
 refine seq_block (wpc_loop ?_)
 suffices hh : ∀ (k j : Nat) (e : Env) (Hc : Heap) (b : Nat),j + k = (allSL n l).length -> AgX [] H Hc -> IntsO 3 H.length Hc b true ((doesL n (ls,l) ts homes).take j) -> (∀ i (h : i < (doesL n (ls,l) ts homes).length),i < j -> (doesL n (ls,l) ts homes)[i] ≠ -1) -> e 0 = ptr W 0 -> e 1 = .slice ha homes.length homes.length -> e 6 = sli b 0 ((doesL n (ls,l) ts homes).take j).length -> e 7 = .int .i64 j -> Go.Proofs.YtbjeldblaclpnaaGreatI.W F H.length _ e Hc _ from
  hh (allSL n l).length 0 _ H1 H.length (by omega) hx1 (by simpa using ho1) (fun i h h' => by omega) (by simp only [go_sem,binC]) (by simp only [go_sem,binC]) (by (simp only [go_sem,binC]) <;> rfl) (by (simp only [go_sem,binC]) <;> rfl)
 intro k
 induction k with
 | zero =>
   intro j e Hc b hj hxc hoc hne e0 e1 e6 e7
   obtain ⟨lv,sv,tw,li,la,se,bv,osv,hW,r1,r2,r3,r4,r5,r6⟩ := (hL.mono hxc).ex
   obtain ⟨_,lia,rfl,_⟩ := id r3
   refine lp_step ?_
   refine seq_assoc (seq_reg ?_)
   simp only [go_sem,binC,e0,e7,gc_of hW,inBlk_some]
   refine seq_cond (t := false) (by simp only [go_sem,binC]; rw [decide_eq_false (by omega)]) ?_
   simp only [go_sem,binC]
   refine seq_exit ?_
   simp only [go_sem,binC,thenX_e,out_e,thenX_n]
   refine seq_reg ?_
   simp only [go_sem,binC,e6]
   rw [List.take_of_length_le (by omega)] at hoc ⊢
   have hft : fitsB n (ls,l) ts homes = true := by
    unfold fitsB
    rw [Bool.not_eq_true',decide_eq_false_iff_not]
    intro hm
    obtain ⟨i,hi,h1⟩ := List.getElem_of_mem hm
    exact hne i hi (by omega) h1
   refine wpc_ret ⟨Or.inr rfl,.tuple #[sli b 0 (doesL n (ls,l) ts homes).length,.bool true],by simp [resV,resL,res1,putE_get,notT,e6,sli],b,_,by rw [hft],hxc,hoc,fun _ => rfl⟩
 | succ k ih =>
   intro j e Hc b hj hxc hoc hne e0 e1 e6 e7
   have hjs : j < (allSL n l).length := by omega
   have hjd : j < (doesL n (ls,l) ts homes).length := by omega
   have hw1 : IntKind.i64.wrap ((j : Int) + 1) = ((j + 1 : Nat) : Int) := by rw [wrap_id (by omega) (by omega)]; omega
   have hat := doesL_at (ts := ts) (homes := homes) hjs hjd
   have htk : (doesL n (ls,l) ts homes).take (j + 1) = (doesL n (ls,l) ts homes).take j ++ [firstH (doN n ls l ts homes j)] := by
    rw [List.take_add_one,List.getElem?_eq_getElem hjd,hat]; rfl
   have hlt : ((doesL n (ls,l) ts homes).take j).length <= 8 := by rw [List.length_take]; omega
   have hcall : ∀ {HH : Heap} {h : Nat},AgX [] H HH -> h <= 2 -> QC F 31 [ptr W 0,.slice ha homes.length homes.length,.int .i64 j,.int .i64 h] HH (.bool (doN n ls l ts homes j h)) := fun {HH h} hx hh => gs HH W n ls l ts _ homes j h (hL.mono hx) hP (rh.mono (agx_sub hx)) hho hjs (by omega) (by omega)
   generalize hPd : doN n ls l ts homes j = P at *
   obtain ⟨lv,sv,tw,li,la,se,bv,osv,hW,r1,r2,r3,r4,r5,r6⟩ := (hL.mono hxc).ex
   obtain ⟨_,lia,rfl,_⟩ := id r3
   refine lp_step ?_
   refine seq_assoc (seq_reg ?_)
   simp only [go_sem,binC,e0,e7,gc_of hW,inBlk_some]
   refine seq_cond (t := true) (by simp only [go_sem,binC]; rw [decide_eq_true (by omega)]) ?_
   simp only [go_sem,binC]
   refine seq_skip (seq_block (seq_reg ?_))
   simp only [go_sem,binC]
   refine seq_assoc (seq_reg ?_)
   simp only [go_sem,binC]
   refine seq_block (wpc_loop ?_)
   suffices hh : ∀ (m i : Nat) (e : Env),i + m = 3 -> (∀ q : Nat,q < i -> P q = false) -> e 0 = ptr W 0 -> e 1 = .slice ha homes.length homes.length -> e 6 = sli b 0 ((doesL n (ls,l) ts homes).take j).length -> e 7 = .int .i64 j -> e 8 = .bool false -> e 9 = .int .i64 i -> Go.Proofs.YtbjeldblaclpnaaGreatI.W F H.length _ e Hc _ from
    hh 3 0 _ rfl (fun q h => by omega) (by simp only [go_sem,binC,e0]) (by simp only [go_sem,binC,e1]) (by simp only [go_sem,binC,e6]) (by simp only [go_sem,binC,e7]) (by simp only [go_sem,binC]) (by (simp only [go_sem,binC]) <;> rfl)
   clear e0 e1 e6 e7
   intro m
   induction m with
   | zero =>
     intro i e hi hPf e0 e1 e6 e7 e8 e9
     obtain rfl : i = 3 := by omega
     have hd3 : decide (((3 : Nat) : Int) < 3) = false := rfl
     have hfirst : firstH P = -1 := by
      have p0 := hPf 0 (by omega)
      have p1 := hPf 1 (by omega)
      have p2 := hPf 2 (by omega)
      simp only [Int.natCast_zero,Int.natCast_one] at p0 p1
      unfold firstH
      rw [p0,p1,show P 2 = false from p2]
      rfl
     have hft : fitsB n (ls,l) ts homes = false := by
      unfold fitsB
      rw [Bool.not_eq_false',decide_eq_true_eq]
      have := List.getElem_mem hjd
      rw [hat,hfirst] at this
      exact this
     refine lp_step ?_
     refine seq_assoc (seq_reg ?_)
     simp only [go_sem,binC,e9,hd3,e8]
     refine seq_cond (t := false) (by simp only [go_sem,binC]) ?_
     simp only [go_sem,binC]
     refine seq_exit ?_
     simp only [go_sem,binC,thenX_e,out_e,thenX_n]
     refine seq_reg ?_
     simp only [go_sem,binC,e8]
     refine wpc_cond (t := true) rfl ?_
     simp only [go_sem,binC]
     refine seq_reg ?_
     simp only [go_sem,binC]
     refine wpc_ret ?_
     simp only [go_sem,binC,out_r,thenX_r]
     exact ⟨Or.inr rfl,.tuple #[sli Hc.length 0 0,.bool false],by simp [resV,resL,res1,putE_get,notT,sli],Hc.length,[],by rw [hft]; rfl,hxc.tr (AgX.app [] _ _),IntsO.nil hxc.1,fun h => by rw [hft] at h; cases h⟩
   | succ m ih2 =>
     intro i e hi hPf e0 e1 e6 e7 e8 e9
     have hdi : decide ((i : Int) < 3) = true := decide_eq_true (by omega)
     have hw2 : IntKind.i64.wrap ((i : Int) + 1) = ((i + 1 : Nat) : Int) := by rw [wrap_id (by omega) (by omega)]; omega
     refine lp_step ?_
     refine seq_assoc (seq_reg ?_)
     simp only [go_sem,binC,e9,hdi,e8]
     refine seq_cond (t := true) (by simp only [go_sem,binC]) ?_
     simp only [go_sem,binC]
     refine seq_skip (seq_block (seq_reg ?_))
     simp only [go_sem,binC,e0,e1,e7,e9]
     refine op_callQ (by simp only [go_sem,binC,e0,e1,e7,e9]; exact hcall hxc (by omega)) ?_
     cases hp : P i with
     | false =>
       simp only [go_sem,binC]
       refine wpc_cond (t := false) rfl ?_
       simp only [go_sem,binC]
       refine wpc_skip ?_
       simp only [go_sem,binC,out_n,thenX_n]
       refine wpc_reg ?_
       simp only [go_sem,binC,e9,hw2]
       simp only [go_sem,binC,thenX_n]
       refine ih2 (i + 1) _ (by omega) (fun q hq => ?_) (by simp only [go_sem,binC,e0]) (by simp only [go_sem,binC,e1]) (by simp only [go_sem,binC,e6]) (by simp only [go_sem,binC,e7]) (by simp only [go_sem,binC,e8]) (by simp only [go_sem,binC])
       by_cases hqi : q = i
       ·subst hqi; exact hp
       ·exact hPf q (by omega)
     | true =>
       have hfirst : firstH P = i := by
        have hi3 : i = 0 \/ i = 1 \/ i = 2 := by omega
        unfold firstH
        rcases hi3 with rfl | rfl | rfl
        ·rw [if_pos (by simpa using hp)]; rfl
        ·have p0 := hPf 0 (by omega)
         simp only [Int.natCast_zero] at p0
         rw [if_neg (by rw [p0]; simp),if_pos (by simpa using hp)]; rfl
        ·have p0 := hPf 0 (by omega)
         have p1 := hPf 1 (by omega)
         simp only [Int.natCast_zero,Int.natCast_one] at p0 p1
         rw [if_neg (by rw [p0]; simp),if_neg (by rw [p1]; simp),if_pos (show P 2 = true from hp)]; rfl
       rw [hfirst] at htk hat
       simp only [go_sem,binC]
       refine wpc_cond (t := true) rfl ?_
       simp only [go_sem,binC]
       refine seq_reg ?_
       simp only [go_sem,binC,e6,e9]
       refine op_app_I1 (kill := true) (a := (i : Int)) hoc (by simp only [go_sem,binC,e6]) (by (simp only [go_sem,binC]) <;> rfl) ⟨by omega,by omega⟩ (Nat.le_refl _) (by omega) (by omega) fun H2 b2 so2 hx2 hb2 hso2 ho2 => ?_
       rw [hso2 rfl] at ho2
       have hoge := hoc.ge
       have hxc2 : AgX [] H H2 := hxc.trans hx2 (fun _ h _ => h) (fun b' h1 h2 => by simp only [List.mem_singleton] at h1; omega)
       simp only [go_sem,binC]
       refine wpc_reg ?_
       simp only [go_sem,binC,out_n,thenX_n]
       refine wpc_reg ?_
       simp only [go_sem,binC,e9,hw2]
       simp only [go_sem,binC,thenX_n]
       refine lp_step ?_
       refine seq_assoc (seq_reg ?_)
       rcases Bool.eq_false_or_eq_true (decide (((i + 1 : Nat) : Int) < 3)) with hd | hd
       all_goals
        simp only [go_sem,binC,hd]
        refine seq_cond (t := false) (by simp only [go_sem,binC]) ?_
        simp only [go_sem,binC]
        refine seq_exit ?_
        simp only [go_sem,binC,thenX_e,out_e,thenX_n]
        refine seq_reg ?_
        simp only [go_sem,binC]
        refine wpc_cond (t := false) rfl ?_
        simp only [go_sem,binC]
        refine wpc_skip ?_
        simp only [go_sem,binC,out_n,thenX_n]
        refine wpc_reg ?_
        simp only [go_sem,binC,e7,hw1]
        simp only [go_sem,binC,thenX_n]
        refine ih (j + 1) _ H2 b2 (by omega) hxc2 (by rw [htk]; exact ho2) (fun q hq hqj => ?_) (by simp only [go_sem,binC,e0]) (by simp only [go_sem,binC,e1]) (by simp only [go_sem,binC]; rw [htk]) (by simp only [go_sem,binC])
        by_cases hqe : q = j
        ·subst hqe
         rw [hat]
         omega
        ·exact hne q hq (by omega)
end Go.Proofs.YtbjeldblaclpnaaGreatI
end
