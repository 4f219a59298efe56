/- Texts of this proof, merged: M6. -/
import Derived.Test.YtbjeldblaclpnaaGreatPz5
section
section
set_option linter.unusedVariables false
set_option linter.unusedSimpArgs false
namespace Go.Proofs.YtbjeldblaclpnaaGreatI
open Go Go.RowKit
def dpBody : ICode := (.seq (.seq (.reg none [⟨some 15,none,.mov (.t 5)⟩,⟨some 16,none,.bin .gtr (.t 15) (.c (.int .i64 0))⟩])
     (.cond (.t 16) (.skip) (.exit 2)))
     (.seq (.block 3 (.reg (some 5) [⟨some 19,none,.fad 0 (.t 4)⟩,⟨some 20,none,.load false 1 (.t 19)⟩,⟨some 21,none,.mov (.t 0)⟩,
       ⟨some 22,none,.call .n (.f 100) [.t 21]⟩,⟨some 23,none,.lit 2 57 1 [(.int .i64 0),(.int .i64 0)] [(0,2,(.t 22))]⟩,
       ⟨some 24,none,.app 2 57 16 false (.t 20) (.t 23)⟩,⟨some 25,none,.fad 0 (.t 4)⟩,⟨none,none,.store 1 (.t 25) (.t 24)⟩]))
     (.reg none [⟨some 17,none,.mov (.t 5)⟩,⟨some 18,none,.bin .sub (.t 17) (.c (.int .i64 1))⟩,⟨some 5,none,.mov (.t 18)⟩])))
def c_drProg : IFn := ⟨1,38,[.cell true 2 2],
 .seq (.reg none [⟨some 2,none,.new [(.slice none 0 0),(.slice none 0 0)]⟩])
 (.seq (.seq (.reg none [⟨some 3,none,.mov (.c (.int .i64 0))⟩])
  (.block 0 (.loop (.seq (.seq (.reg none [⟨some 6,none,.mov (.t 3)⟩,⟨some 7,none,.bin .lss (.t 6) (.c (.int .i64 20))⟩])
    (.cond (.t 7) (.skip) (.exit 0)))
   (.seq (.block 1 (.seq (.reg none [⟨some 10,none,.lit 2 57 0 [] []⟩,⟨some 11,none,.build [(.slice none 0 0),(.slice none 0 0)] [(0,1,(.t 10))]⟩,
      ⟨some 4,none,.new [(.slice none 0 0),(.slice none 0 0)]⟩,⟨none,none,.store 2 (.t 4) (.t 11)⟩])
    (.seq (.seq (.reg none [⟨some 12,none,.mov (.t 0)⟩,⟨some 13,none,.call .n (.f 14) [.t 12,(.c (.int .i64 4))]⟩,
      ⟨some 14,none,.bin .add (.c (.int .i64 1)) (.t 13)⟩,⟨some 5,none,.mov (.t 14)⟩])
     (.block 2 (.loop dpBody)))
    (.seq (.reg none [⟨some 26,none,.mov (.t 0)⟩,⟨some 27,none,.fad 0 (.t 4)⟩,⟨some 28,none,.load false 1 (.t 27)⟩,⟨some 29,none,.len (.t 28)⟩,
      ⟨some 30,none,.call .n (.f 101) [.t 26,(.c (.int .i64 4)),(.c (.int .i64 3)),.t 29]⟩,⟨some 31,none,.fad 1 (.t 4)⟩,⟨none,none,.store 1 (.t 31) (.t 30)⟩])
    (.seq (.reg none [⟨some 32,none,.load true 2 (.t 4)⟩,⟨some 33,none,.call .q (.f 56) [.t 32]⟩])
    (.cond (.t 33) (.seq (.reg none [⟨some 34,none,.load true 2 (.t 4)⟩,⟨none,none,.store 2 (.t 2) (.t 34)⟩])
     (.ret)) (.skip)))))))
   (.reg none [⟨some 8,none,.mov (.t 3)⟩,⟨some 9,none,.bin .add (.t 8) (.c (.int .i64 1))⟩,⟨some 3,none,.mov (.t 9)⟩]))))))
 (.seq (.reg none [⟨some 35,none,.build [(.int .i64 0),(.int .i64 0)] [(0,1,(.c (.int .i64 7)))]⟩,
   ⟨some 36,none,.lit 2 57 1 [(.int .i64 0),(.int .i64 0)] [(0,2,(.t 35))]⟩,⟨some 37,none,.build [(.slice none 0 0),(.slice none 0 0)] [(0,1,(.t 36))]⟩,
   ⟨none,none,.store 2 (.t 2) (.t 37)⟩])
 (.ret)))⟩
theorem wpx_label {F : Nat -> Option IFn} {H0 B L : Heap} {rb lo : Nat} {bv : Value} {code : List Int} {p : Int} {e : Env} {x : Opd} {q d : Nat} {r : List IOper} {K : Env -> Heap -> Prop} (hf : F 100 = some c_drLabel) (hpk : F 14 = some c_pick) (hc : RdC H0 rb bv code) (hs : St H0 rb bv p B) (hp : 0 <= p) (hp2 : p + 2 <= 1000000) (hlo : lo <= rb) (hx : x.ev e = ptr rb 0)
  (k : ∀ B1,B1.length = B.length -> AgX [rb] B B1 -> St H0 rb bv (p + 2) B1 -> wpx F lo [rb] q r (putE e (some d) (.agg #[.int .i64 (labK code p),.int .i64 (labT code (p + 1))])) B1 L K) : wpx F lo [rb] (q + 1) (⟨some d,none,.call .n (.f 100) [x]⟩ :: r) e B L K := by
 have hl := hs.lt
 refine wpx_B (B' := B.set rb (rBlk bv (p + 2))) List.length_set ?_ ?_ rfl (fun E => ?_) (k _ List.length_set (AgX.set B rb _) (hs.set hc))
 ·intro b hb
  exact List.getElem?_set_ne (fun h => hb (by simp [h]))
 ·intro b k1 k2 h1 h2 j v hj
  by_cases hb : b = rb
  ·subst hb
   rw [List.getElem?_set_self hl] at h2
   rw [hs.r] at h1
   cases h1; cases h2
   unfold rBlk at hj ⊢
   match j,hj with
   | 0,hj => exact .inl hj
   | 1,hj => simp only [List.getElem?_cons_succ,List.getElem?_cons_zero,Option.some.injEq] at hj; subst hj; exact .inr rfl
   | j + 2,hj => simp at hj
  ·rw [List.getElem?_set_ne (fun h => hb h.symm),h1] at h2
   cases h2
   exact .inl hj
 ·have hs' : St H0 rb bv p (B ++ (L ++ E)) := hs.appN hc _
  obtain ⟨G,hG⟩ := drLabel_ok hf hpk hc hs' hp hp2 hlo
  rw [List.set_append_left _ _ hl] at hG
  refine ⟨G,?_⟩
  simp only [List.map_cons,List.map_nil,hx]
  rw [List.append_assoc,List.append_assoc] at hG
  exact hG
structure Pd (H0 : Heap) (rb : Nat) (bv : Value) (H : Heap) (b : Nat) (so : Bool) (ls : List (Int × Int)) (bp : Nat) (cells : List Value) (p : Int) (Hc : Heap) : Prop where
 st : St H0 rb bv p Hc
 ag : AgX [rb] H Hc
 own : OwnL Co.p2 2 57 H.length [bp,H.length] Hc b so ls
 box : Hc[bp]? = some ⟨cells,0,0,false,true⟩
 two : Hc[H.length]? = some ⟨[nilS,nilS],0,0,false,true⟩
 lo : H.length < bp
 lob : H.length < b
 ne : b ≠ bp
 rbl : rb < H.length
section
variable {H0 : Heap} {rb : Nat} {bv : Value} {code : List Int} {H : Heap} {b : Nat} {so : Bool} {ls : List (Int × Int)} {bp : Nat} {cells cells' : List Value} {p p' : Int} {Hc Hc' : Heap}
theorem Pd.draw (h : Pd H0 rb bv H b so ls bp cells p Hc) (hx : AgX [rb] Hc Hc') (hs : St H0 rb bv p' Hc') : Pd H0 rb bv H b so ls bp cells p' Hc' := by
 have h1 := h.rbl
 have h2 := h.lo
 have h3 := h.lob
 refine ⟨hs,h.ag.tr hx,h.own.sub hx (by simp; omega) (fun b' _ h5 h6 h7 => ⟨by simp; omega,h7⟩),hx.get h.box (by simp; omega),hx.get h.two (by simp; omega),h2,h3,h.ne,h1⟩
theorem Pd.store (hc : RdC H0 rb bv code) (h : Pd H0 rb bv H b so ls bp cells p Hc) : Pd H0 rb bv H b so ls bp cells' p (Hc.set bp ⟨cells',0,0,false,true⟩) := by
 have h1 := h.rbl
 have h2 := h.lo
 have h3 := h.ne
 refine ⟨h.st.setN hc (by omega) _,h.ag.setN (by omega) _,h.own.sub (AgX.set _ _ _) (by simpa using h3) (fun b' _ h5 h6 h7 => ⟨by simp only [List.mem_cons,not_or] at h7 ⊢; exact ⟨h7.1,List.not_mem_nil⟩,h7⟩),List.getElem?_set_self (List.getElem?_eq_some_iff.1 h.box).1,?_,h2,h.lob,h3,h1⟩
 rw [List.getElem?_set_ne (by omega)]
 exact h.two
theorem Pd.bl (h : Pd H0 rb bv H b so ls bp cells p Hc) : b < Hc.length := by obtain ⟨_,_,cs,h,_⟩ := h.own; exact (List.getElem?_eq_some_iff.1 h).1
theorem Pd.bpl (h : Pd H0 rb bv H b so ls bp cells p Hc) : bp < Hc.length := (List.getElem?_eq_some_iff.1 h.box).1
end
theorem dpLoop_ok {F : Nat -> Option IFn} (hlb : F 100 = some c_drLabel) (hpk : F 14 = some c_pick) {H0 : Heap} {rb : Nat} {bv : Value} {code : List Int} (hc : RdC H0 rb bv code) {H : Heap} {bp lo : Nat} {i : Int} {K : X -> Env -> Heap -> Prop} (hlo : lo <= rb) : ∀ (k : Nat) (e : Env) (Hc : Heap) (b : Nat) (so : Bool) (ls : List (Int × Int)) (p : Int),
  Pd H0 rb bv H b so ls bp [sli b 0 ls.length,nilS] p Hc -> e 0 = ptr rb 0 -> e 2 = ptr H.length 0 -> e 3 = .int .i64 i -> e 4 = ptr bp 0 -> e 5 = .int .i64 k -> ls.length + k <= 100 -> 0 <= p -> p + 2 * k <= 1000000 ->
  (∀ e' Hc' b' so' ls' p',Pd H0 rb bv H b' so' ls' bp [sli b' 0 ls'.length,nilS] p' Hc' -> e' 0 = ptr rb 0 -> e' 2 = ptr H.length 0 -> e' 3 = .int .i64 i -> e' 4 = ptr bp 0 -> ls'.length = ls.length + k -> (p <= p' /\ p' <= p + 2 * k) -> K (.e 2) e' Hc') -> W F lo (.lp dpBody) e Hc K := by
 intro k
 induction k with
 | zero =>
   intro e Hc b so ls p hP e0 e2 e3 e4 e5 hk hp hp2 hK
   unfold dpBody
   refine lp_step ?_
   refine seq_assoc (seq_reg ?_)
   simp only [go_sem,binC,e5]
   refine seq_cond (t := false) (by (simp only [go_sem,binC]) <;> rfl) ?_
   simp only [go_sem,binC]
   refine seq_exit ?_
   simp only [go_sem,binC,thenX_e]
   exact hK _ Hc b so ls p hP (by simp only [go_sem,binC,e0]) (by simp only [go_sem,binC,e2]) (by simp only [go_sem,binC,e3]) (by simp only [go_sem,binC,e4]) rfl (by omega)
 | succ k ih =>
   intro e Hc b so ls p hP e0 e2 e3 e4 e5 hk hp hp2 hK
   have hrl := hP.rbl
   have hbl := hP.bl
   have hbpl := hP.bpl
   have h1 := hP.lo
   have h2 := hP.lob
   have h3 := hP.ne
   unfold dpBody
   refine lp_step ?_
   refine seq_assoc (seq_reg ?_)
   simp only [go_sem,binC,e5]
   refine seq_cond (t := true) (by simp only [go_sem,binC]; rw [decide_eq_true (by omega)]) ?_
   simp only [go_sem,binC]
   refine seq_skip (seq_block ?_)
   obtain ⟨N,n1⟩ : ∃ N,Hc.length = N := ⟨_,rfl⟩
   refine wpc_regX [rb] (by simp; have := hP.st.lt; omega) ?_
   refine wpx_A rfl ?_
   simp only [go_sem,binC,e4]
   refine wpx_A rfl ?_
   have hg : getCells (hide [rb] Hc) bp 0 1 = some [sli b 0 ls.length] := by
    have := gc_hidO (Z := [rb]) [] (show getCells Hc bp 0 1 = some [sli b 0 ls.length] by rw [gc_of hP.box]; rfl) (by simp; omega)
    rwa [List.append_nil] at this
   simp only [go_sem,binC,hg]
   refine wpx_A rfl ?_
   simp only [go_sem,binC,e0]
   refine wpx_label hlb hpk hc hP.st hp (by omega) hlo (by simp only [go_sem,binC,e0]) fun B1 hl1 hx1 hs1 => ?_
   have hP1 := hP.draw hx1 hs1
   refine wpx_A rfl ?_
   simp only [go_sem,binC]
   refine wpx_zero ?_
   simp only [go_sem,binC,hide_length]
   refine op_app_own (xs := [bp,H.length]) hP1.own (by simp only [go_sem,binC]) (by simp only [go_sem,binC]) (by omega) rfl (a := (labK code p,labT code (p + 1))) ?_ (by omega) (by omega) (by simp; omega) fun H' hx hown => ?_
   ·have := labK_bd code p
    have := labT_bd code (p + 1)
    exact ⟨[.int .i64 (labK code p)],[.int .i64 (labT code (p + 1))],rfl,⟨rfl,by omega,by omega⟩,⟨rfl,by omega,by omega⟩⟩
   have hbx : H'[bp]? = some ⟨[sli b 0 ls.length,nilS],0,0,false,true⟩ := hx.get hP1.box (by simpa using fun h => h3 h.symm)
   have hP2 : Pd H0 rb bv H (B1.length + 1) (so && decide (ls = [])) (ls ++ [(labK code p,labT code (p + 1))]) bp [sli b 0 ls.length,nilS] (p + 2) H' := by
    have hc0 := hc.low
    refine ⟨⟨fun b' h3 h4 => by rw [hx.2 b' (by omega) (by simp; omega)]; exact hs1.ag b' h3 h4,hx.get hs1.r (by simp; omega)⟩,hP1.ag.trans hx (fun _ h _ => h) (fun b' h3 h4 => by simp only [List.mem_singleton] at h3; omega),hown,hbx,hx.get hP1.two (by simp; omega),h1,by omega,by omega,hrl⟩
   simp only [go_sem,binC,e4,hbx]
   refine ⟨by omega,?_⟩
   have hP3 := hP2.store hc (cells' := [sli (B1.length + 1) 0 (ls.length + 1),nilS])
   simp only [go_sem,binC,out_n,thenX_n]
   refine wpc_reg ?_
   simp only [go_sem,binC,e5]
   have hw1 : IntKind.i64.wrap (((k + 1 : Nat) : Int) - 1) = (k : Int) := by rw [wrap_id (by omega) (by omega)]; omega
   rw [hw1]
   simp only [go_sem,binC,thenX_n]
   refine ih _ _ (B1.length + 1) _ (ls ++ [(labK code p,labT code (p + 1))]) (p + 2) (by rw [List.length_append]; exact hP3) (by simp only [go_sem,binC,e0]) (by simp only [go_sem,binC,e2]) (by simp only [go_sem,binC,e3]) (by simp only [go_sem,binC,e4]) (by simp only [go_sem,binC]) (by simp; omega) (by omega) (by omega) fun e' Hc' b' so' ls' p' q1 q2 q3 q4 q5 q6 q7 => hK e' Hc' b' so' ls' p' q1 q2 q3 q4 q5 (by rw [q6]; simp; omega) (by omega)
end Go.Proofs.YtbjeldblaclpnaaGreatI
end
section
set_option linter.unusedVariables false
set_option linter.unusedSimpArgs false
namespace Go.Proofs.YtbjeldblaclpnaaGreatI
open Go Go.RowKit
end Go.Proofs.YtbjeldblaclpnaaGreatI
end
section
set_option linter.unusedVariables false
set_option linter.unusedSimpArgs false
namespace Go.Proofs.YtbjeldblaclpnaaGreatI
open Go Go.RowKit
attribute [local irreducible] optP wpo wpp wpc binI Kc Kp wpOp thenX
def c_iIn : IFn := ⟨3,15,[.t 6],
 .seq (.reg none [⟨some 6,none,.mov (.c (.bool false))⟩])
 (.seq (.reg none [⟨some 7,none,.mov (.t 1)⟩,⟨some 8,none,.mov (.t 0)⟩,⟨some 9,none,.bin .leq (.t 7) (.t 8)⟩,⟨some 10,none,.mov (.t 9)⟩,
   ⟨some 11,some (10,true),.mov (.t 0)⟩,⟨some 12,some (10,true),.mov (.t 2)⟩,⟨some 13,some (10,true),.bin .leq (.t 11) (.t 12)⟩,
   ⟨some 14,none,.pick (.t 10) (.t 13) (.c (.bool false))⟩,⟨some 6,none,.mov (.t 14)⟩])
 (.ret))⟩
def c_sIn : IFn := ⟨3,15,[.t 6],
 .seq (.reg none [⟨some 6,none,.mov (.c (.bool false))⟩])
 (.seq (.reg none [⟨some 7,none,.mov (.t 0)⟩,⟨some 8,none,.mov (.t 1)⟩,⟨some 9,none,.bin .geq (.t 7) (.t 8)⟩,⟨some 10,none,.mov (.t 9)⟩,
   ⟨some 11,some (10,true),.mov (.t 0)⟩,⟨some 12,some (10,true),.mov (.t 2)⟩,⟨some 13,some (10,true),.bin .leq (.t 11) (.t 12)⟩,
   ⟨some 14,none,.pick (.t 10) (.t 13) (.c (.bool false))⟩,⟨some 6,none,.mov (.t 14)⟩])
 (.ret))⟩
def c_iSet : IFn := ⟨1,5,[.t 2],
 .seq (.reg none [⟨some 2,none,.mov (.c (.bool false))⟩])
 (.seq (.reg none [⟨some 3,none,.mov (.t 0)⟩,⟨some 4,none,.call .q (.f 64) [.t 3,(.c (.int .i64 0)),(.c (.int .i64 7))]⟩,⟨some 2,none,.mov (.t 4)⟩])
 (.ret))⟩
def c_sSet : IFn := ⟨1,6,[.t 2],
 .seq (.reg none [⟨some 2,none,.mov (.c (.bool false))⟩])
 (.seq (.reg none [⟨some 3,none,.mov (.t 0)⟩,⟨some 4,none,.call .q (.f 66) []⟩,⟨some 5,none,.call .q (.f 30) [.t 3,(.c (.int .i64 0)),.t 4]⟩,
   ⟨some 2,none,.mov (.t 5)⟩])
 (.ret))⟩
def c_sAll : IFn := ⟨0,1,[.t 0],
 .seq (.reg none [⟨some 0,none,.mov (.c (.int .i64 0))⟩])
 (.seq (.reg none [⟨some 0,none,.mov (.c (.int .i64 7))⟩])
 (.ret))⟩
def c_iHost : IFn := ⟨1,5,[.t 2],
 .seq (.reg none [⟨some 2,none,.mov (.c (.bool false))⟩])
 (.seq (.reg none [⟨some 3,none,.mov (.t 0)⟩,⟨some 4,none,.call .q (.f 64) [.t 3,(.c (.int .i64 0)),(.c (.int .i64 2))]⟩,⟨some 2,none,.mov (.t 4)⟩])
 (.ret))⟩
def c_iNum : IFn := ⟨1,5,[.t 2],
 .seq (.reg none [⟨some 2,none,.mov (.c (.bool false))⟩])
 (.seq (.reg none [⟨some 3,none,.mov (.t 0)⟩,⟨some 4,none,.call .q (.f 64) [.t 3,(.c (.int .i64 0)),(.c (.int .i64 9))]⟩,⟨some 2,none,.mov (.t 4)⟩])
 (.ret))⟩
def c_iLabelOk : IFn := ⟨1,11,[.t 2],
 .seq (.reg none [⟨some 1,none,.box (.t 0)⟩,⟨some 2,none,.mov (.c (.bool false))⟩])
 (.seq (.reg none [⟨some 3,none,.fad 0 (.t 1)⟩,⟨some 4,none,.load false 1 (.t 3)⟩,⟨some 5,none,.call .q (.f 32) [.t 4]⟩,⟨some 6,none,.mov (.t 5)⟩,
   ⟨some 7,some (6,true),.fad 1 (.t 1)⟩,⟨some 8,some (6,true),.load false 1 (.t 7)⟩,⟨some 9,some (6,true),.call .q (.f 32) [.t 8]⟩,
   ⟨some 10,none,.pick (.t 6) (.t 9) (.c (.bool false))⟩,⟨some 2,none,.mov (.t 10)⟩])
 (.ret))⟩
def c_sLabelOk : IFn := ⟨1,11,[.t 2],
 .seq (.reg none [⟨some 1,none,.box (.t 0)⟩,⟨some 2,none,.mov (.c (.bool false))⟩])
 (.seq (.reg none [⟨some 3,none,.fad 0 (.t 1)⟩,⟨some 4,none,.load false 1 (.t 3)⟩,⟨some 5,none,.call .q (.f 35) [.t 4]⟩,⟨some 6,none,.mov (.t 5)⟩,
   ⟨some 7,some (6,true),.fad 1 (.t 1)⟩,⟨some 8,some (6,true),.load false 1 (.t 7)⟩,⟨some 9,some (6,true),.call .q (.f 35) [.t 8]⟩,
   ⟨some 10,none,.pick (.t 6) (.t 9) (.c (.bool false))⟩,⟨some 2,none,.mov (.t 10)⟩])
 (.ret))⟩
def c_iVar : IFn := ⟨2,11,[.t 4],
 .seq (.reg none [⟨some 2,none,.box (.t 0)⟩,⟨some 4,none,.mov (.c (.bool false))⟩])
 (.seq (.reg none [⟨some 5,none,.mov (.t 1)⟩,⟨some 6,none,.fad 0 (.t 2)⟩,⟨some 7,none,.load false 1 (.t 6)⟩,⟨some 8,none,.len (.t 7)⟩,
   ⟨some 9,none,.bin .sub (.t 8) (.c (.int .i64 1))⟩,⟨some 10,none,.call .q (.f 64) [.t 5,(.c (.int .i64 0)),.t 9]⟩,⟨some 4,none,.mov (.t 10)⟩])
 (.ret))⟩
def c_sVar : IFn := ⟨2,11,[.t 4],
 .seq (.reg none [⟨some 2,none,.box (.t 0)⟩,⟨some 4,none,.mov (.c (.bool false))⟩])
 (.seq (.reg none [⟨some 5,none,.mov (.t 1)⟩,⟨some 6,none,.fad 0 (.t 2)⟩,⟨some 7,none,.load false 1 (.t 6)⟩,⟨some 8,none,.len (.t 7)⟩,
   ⟨some 9,none,.bin .sub (.t 8) (.c (.int .i64 1))⟩,⟨some 10,none,.call .q (.f 30) [.t 5,(.c (.int .i64 0)),.t 9]⟩,⟨some 4,none,.mov (.t 10)⟩])
 (.ret))⟩
def c_iVal : IFn := ⟨2,48,[.t 4],
 .seq (.reg none [⟨some 2,none,.box (.t 0)⟩,⟨some 3,none,.box (.t 1)⟩,⟨some 4,none,.mov (.c (.bool false))⟩])
 (.seq (.seq (.reg none [⟨some 5,none,.fad 0 (.t 3)⟩,⟨some 6,none,.load false 1 (.t 5)⟩])
  (.block 0 (.seq (.reg none [⟨some 8,none,.bin .eql (.t 6) (.c (.int .i64 1))⟩,⟨some 7,none,.mov (.t 8)⟩])
   (.cond (.t 7) (.seq (.reg none [⟨some 9,none,.fad 1 (.t 3)⟩,⟨some 10,none,.load false 1 (.t 9)⟩,⟨some 11,none,.call .q (.f 99) [.t 10]⟩,
     ⟨some 12,none,.mov (.t 11)⟩,⟨some 13,some (12,true),.fad 2 (.t 3)⟩,⟨some 14,some (12,true),.load false 1 (.t 13)⟩,
     ⟨some 15,some (12,true),.bin .eql (.t 14) (.c (.int .i64 0))⟩,⟨some 16,none,.pick (.t 12) (.t 15) (.c (.bool false))⟩,⟨some 4,none,.mov (.t 16)⟩])
    (.ret)) (.seq (.reg none [⟨some 18,none,.bin .eql (.t 6) (.c (.int .i64 2))⟩,⟨some 17,none,.mov (.t 18)⟩])
    (.cond (.t 17) (.seq (.reg none [⟨some 19,none,.load true 2 (.t 2)⟩,⟨some 20,none,.fad 1 (.t 3)⟩,⟨some 21,none,.load false 1 (.t 20)⟩,
      ⟨some 22,none,.call .q (.f 89) [.t 19,.t 21]⟩,⟨some 23,none,.mov (.t 22)⟩,⟨some 24,some (23,true),.fad 2 (.t 3)⟩,
      ⟨some 25,some (23,true),.load false 1 (.t 24)⟩,⟨some 26,some (23,true),.bin .eql (.t 25) (.c (.int .i64 0))⟩,
      ⟨some 27,none,.pick (.t 23) (.t 26) (.c (.bool false))⟩,⟨some 4,none,.mov (.t 27)⟩])
     (.ret)) (.skip)))))))
 (.seq (.reg none [⟨some 28,none,.fad 0 (.t 3)⟩,⟨some 29,none,.load false 1 (.t 28)⟩,⟨some 30,none,.bin .eql (.t 29) (.c (.int .i64 3))⟩,
   ⟨some 31,none,.mov (.t 30)⟩,⟨some 32,some (31,false),.fad 0 (.t 3)⟩,⟨some 33,some (31,false),.load false 1 (.t 32)⟩,
   ⟨some 34,some (31,false),.bin .eql (.t 33) (.c (.int .i64 4))⟩,⟨some 35,none,.pick (.t 31) (.c (.bool true)) (.t 34)⟩,⟨some 36,none,.mov (.t 35)⟩,
   ⟨some 37,some (36,true),.load true 2 (.t 2)⟩,⟨some 38,some (36,true),.fad 1 (.t 3)⟩,⟨some 39,some (36,true),.load false 1 (.t 38)⟩,
   ⟨some 40,some (36,true),.call .q (.f 89) [.t 37,.t 39]⟩,⟨some 41,none,.pick (.t 36) (.t 40) (.c (.bool false))⟩,⟨some 42,none,.mov (.t 41)⟩,
   ⟨some 43,some (42,true),.load true 2 (.t 2)⟩,⟨some 44,some (42,true),.fad 2 (.t 3)⟩,⟨some 45,some (42,true),.load false 1 (.t 44)⟩,
   ⟨some 46,some (42,true),.call .q (.f 89) [.t 43,.t 45]⟩,⟨some 47,none,.pick (.t 42) (.t 46) (.c (.bool false))⟩,⟨some 4,none,.mov (.t 47)⟩])
 (.ret)))⟩
def c_sVal : IFn := ⟨2,41,[.t 4],
 .seq (.reg none [⟨some 2,none,.box (.t 0)⟩,⟨some 3,none,.box (.t 1)⟩,⟨some 4,none,.mov (.c (.bool false))⟩])
 (.seq (.seq (.reg none [⟨some 5,none,.fad 0 (.t 3)⟩,⟨some 6,none,.load false 1 (.t 5)⟩])
  (.block 0 (.seq (.reg none [⟨some 8,none,.bin .eql (.t 6) (.c (.int .i64 1))⟩,⟨some 7,none,.mov (.t 8)⟩])
   (.cond (.t 7) (.seq (.reg none [⟨some 9,none,.fad 1 (.t 3)⟩,⟨some 10,none,.load false 1 (.t 9)⟩,
     ⟨some 11,none,.call .q (.f 30) [.t 10,(.c (.int .i64 0)),(.c (.int .i64 9))]⟩,⟨some 12,none,.mov (.t 11)⟩,⟨some 13,some (12,true),.fad 2 (.t 3)⟩,
     ⟨some 14,some (12,true),.load false 1 (.t 13)⟩,⟨some 15,some (12,true),.bin .eql (.t 14) (.c (.int .i64 0))⟩,
     ⟨some 16,none,.pick (.t 12) (.t 15) (.c (.bool false))⟩,⟨some 4,none,.mov (.t 16)⟩])
    (.ret)) (.seq (.reg none [⟨some 18,none,.bin .eql (.t 6) (.c (.int .i64 2))⟩,⟨some 17,none,.mov (.t 18)⟩])
    (.cond (.t 17) (.seq (.reg none [⟨some 19,none,.load true 2 (.t 2)⟩,⟨some 20,none,.fad 1 (.t 3)⟩,⟨some 21,none,.load false 1 (.t 20)⟩,
      ⟨some 22,none,.call .q (.f 103) [.t 19,.t 21]⟩,⟨some 23,none,.mov (.t 22)⟩,⟨some 24,some (23,true),.fad 2 (.t 3)⟩,
      ⟨some 25,some (23,true),.load false 1 (.t 24)⟩,⟨some 26,some (23,true),.bin .eql (.t 25) (.c (.int .i64 0))⟩,
      ⟨some 27,none,.pick (.t 23) (.t 26) (.c (.bool false))⟩,⟨some 4,none,.mov (.t 27)⟩])
     (.ret)) (.seq (.seq (.reg none [⟨some 29,none,.bin .eql (.t 6) (.c (.int .i64 3))⟩,⟨some 28,none,.mov (.t 29)⟩])
      (.cond (.t 28) (.skip) (.reg none [⟨some 30,none,.bin .eql (.t 6) (.c (.int .i64 4))⟩,⟨some 28,none,.mov (.t 30)⟩])))
     (.cond (.t 28) (.seq (.reg none [⟨some 31,none,.load true 2 (.t 2)⟩,⟨some 32,none,.fad 1 (.t 3)⟩,⟨some 33,none,.load false 1 (.t 32)⟩,
       ⟨some 34,none,.call .q (.f 103) [.t 31,.t 33]⟩,⟨some 35,none,.mov (.t 34)⟩,⟨some 36,some (35,true),.load true 2 (.t 2)⟩,
       ⟨some 37,some (35,true),.fad 2 (.t 3)⟩,⟨some 38,some (35,true),.load false 1 (.t 37)⟩,⟨some 39,some (35,true),.call .q (.f 103) [.t 36,.t 38]⟩,
       ⟨some 40,none,.pick (.t 35) (.t 39) (.c (.bool false))⟩,⟨some 4,none,.mov (.t 40)⟩])
      (.ret)) (.skip)))))))))
 (.seq (.reg none [⟨some 4,none,.mov (.c (.bool false))⟩])
 (.ret)))⟩
def c_iHas : IFn := ⟨2,14,[.t 4],
 .seq (.reg none [⟨some 4,none,.mov (.c (.bool false))⟩])
 (.seq (.reg none [⟨some 5,none,.mov (.t 1)⟩,⟨some 6,none,.call .q (.f 48) [.t 5]⟩,⟨some 7,none,.mov (.t 6)⟩,⟨some 8,some (7,true),.mov (.t 0)⟩,
   ⟨some 9,some (7,true),.mov (.t 1)⟩,⟨some 10,some (7,true),.bin .shr (.t 8) (.t 9)⟩,⟨some 11,some (7,true),.bin .and (.t 10) (.c (.int .i64 1))⟩,
   ⟨some 12,some (7,true),.bin .eql (.t 11) (.c (.int .i64 1))⟩,⟨some 13,none,.pick (.t 7) (.t 12) (.c (.bool false))⟩,⟨some 4,none,.mov (.t 13)⟩])
 (.ret))⟩
def c_sHas : IFn := ⟨2,18,[.t 4],
 .seq (.reg none [⟨some 4,none,.mov (.c (.bool false))⟩])
 (.seq (.reg none [⟨some 5,none,.mov (.t 1)⟩,⟨some 6,none,.bin .geq (.t 5) (.c (.int .i64 0))⟩,⟨some 7,none,.mov (.t 6)⟩,⟨some 8,some (7,true),.mov (.t 1)⟩,
   ⟨some 9,some (7,true),.bin .lss (.t 8) (.c (.int .i64 3))⟩,⟨some 10,none,.pick (.t 7) (.t 9) (.c (.bool false))⟩,⟨some 11,none,.mov (.t 10)⟩,
   ⟨some 12,some (11,true),.mov (.t 0)⟩,⟨some 13,some (11,true),.mov (.t 1)⟩,⟨some 14,some (11,true),.bin .shr (.t 12) (.t 13)⟩,
   ⟨some 15,some (11,true),.bin .rem (.t 14) (.c (.int .i64 2))⟩,⟨some 16,some (11,true),.bin .eql (.t 15) (.c (.int .i64 1))⟩,
   ⟨some 17,none,.pick (.t 11) (.t 16) (.c (.bool false))⟩,⟨some 4,none,.mov (.t 17)⟩])
 (.ret))⟩
def inB (a l h : Int) : Bool := decide (l <= a) && decide (a <= h)
theorem iIn_ok {F : Nat -> Option IFn} {f : Nat} (hf : F f = some c_iIn)  : ∀ (H : Heap) (a b c : Int),QC F f [.int .i64 a,.int .i64 b,.int .i64 c] H (.bool (inB a b c)) := by
 intro H a b c
 refine QC.mk hf rfl ?_
 repeat' (first
  | refine seq_assoc ?_
  | refine seq_reg ?_
  | refine seq_skip ?_
  | refine seq_regD ?_
  | refine seq_cond (t := true) rfl ?_
  | refine seq_cond (t := false) rfl ?_
  | refine wpc_cond (t := true) rfl ?_
  | refine wpc_cond (t := false) rfl ?_
  | refine seq_block ?_
  | refine wpc_block ?_
  | refine seq_ret ?_
  | refine wpc_ret ?_
  | refine wpc_reg ?_
  | refine wpc_regD ?_
  | refine wpc_skip ?_
  | refine fin_t rfl ?_
  | refine seq_exit ?_
  | refine wpc_exit ?_
  | refine cmp_lss (fun _ => ?_) (fun _ => ?_)
  | refine cmp_leq (fun _ => ?_) (fun _ => ?_)
  | refine cmp_gtr (fun _ => ?_) (fun _ => ?_)
  | refine cmp_geq (fun _ => ?_) (fun _ => ?_)
  | refine cmp_eql (fun _ => ?_) (fun _ => ?_)
  | refine cmp_neq (fun _ => ?_) (fun _ => ?_)
  | simp only [go_sem,out_n,out_r,out_e,thenX_n,thenX_r,thenX_e]
  )
 all_goals (refine ⟨?_,rfl⟩; simp [inB, *])
theorem sIn_ok {F : Nat -> Option IFn} {f : Nat} (hf : F f = some c_sIn)  : ∀ (H : Heap) (a b c : Int),QC F f [.int .i64 a,.int .i64 b,.int .i64 c] H (.bool (inB a b c)) := by
 intro H a b c
 refine QC.mk hf rfl ?_
 repeat' (first
  | refine seq_assoc ?_
  | refine seq_reg ?_
  | refine seq_skip ?_
  | refine seq_regD ?_
  | refine seq_cond (t := true) rfl ?_
  | refine seq_cond (t := false) rfl ?_
  | refine wpc_cond (t := true) rfl ?_
  | refine wpc_cond (t := false) rfl ?_
  | refine seq_block ?_
  | refine wpc_block ?_
  | refine seq_ret ?_
  | refine wpc_ret ?_
  | refine wpc_reg ?_
  | refine wpc_regD ?_
  | refine wpc_skip ?_
  | refine fin_t rfl ?_
  | refine seq_exit ?_
  | refine wpc_exit ?_
  | refine cmp_lss (fun _ => ?_) (fun _ => ?_)
  | refine cmp_leq (fun _ => ?_) (fun _ => ?_)
  | refine cmp_gtr (fun _ => ?_) (fun _ => ?_)
  | refine cmp_geq (fun _ => ?_) (fun _ => ?_)
  | refine cmp_eql (fun _ => ?_) (fun _ => ?_)
  | refine cmp_neq (fun _ => ?_) (fun _ => ?_)
  | simp only [go_sem,out_n,out_r,out_e,thenX_n,thenX_r,thenX_e]
  )
 all_goals (refine ⟨?_,rfl⟩; simp [inB, *])
theorem iSet_ok {F : Nat -> Option IFn} {f : Nat} (hf : F f = some c_iSet) (g0 : ∀ (H : Heap) (a b c : Int),QC F 64 [.int .i64 a,.int .i64 b,.int .i64 c] H (.bool (inB a b c))) : ∀ (H : Heap) (a : Int),QC F f [.int .i64 a] H (.bool (inB a 0 7)) := by
 intro H a
 refine QC.mk hf rfl ?_
 repeat' (first
  | refine seq_assoc ?_
  | refine seq_reg ?_
  | refine seq_skip ?_
  | refine seq_regD ?_
  | refine seq_cond (t := true) rfl ?_
  | refine seq_cond (t := false) rfl ?_
  | refine wpc_cond (t := true) rfl ?_
  | refine wpc_cond (t := false) rfl ?_
  | refine seq_block ?_
  | refine wpc_block ?_
  | refine seq_ret ?_
  | refine wpc_ret ?_
  | refine wpc_reg ?_
  | refine wpc_regD ?_
  | refine wpc_skip ?_
  | refine fin_t rfl ?_
  | refine seq_exit ?_
  | refine wpc_exit ?_
  | refine cmp_lss (fun _ => ?_) (fun _ => ?_)
  | refine cmp_leq (fun _ => ?_) (fun _ => ?_)
  | refine cmp_gtr (fun _ => ?_) (fun _ => ?_)
  | refine cmp_geq (fun _ => ?_) (fun _ => ?_)
  | refine cmp_eql (fun _ => ?_) (fun _ => ?_)
  | refine cmp_neq (fun _ => ?_) (fun _ => ?_)
  | (refine op_callB (by simp only [go_sem,out_n,out_r,out_e,thenX_n,thenX_r,thenX_e]; exact g0 _ _ _ _) (fun _ => ?_) (fun _ => ?_))
  | simp only [go_sem,out_n,out_r,out_e,thenX_n,thenX_r,thenX_e]
  )
 all_goals (refine ⟨?_,rfl⟩; simp [*])
theorem iHost_ok {F : Nat -> Option IFn} {f : Nat} (hf : F f = some c_iHost) (g0 : ∀ (H : Heap) (a b c : Int),QC F 64 [.int .i64 a,.int .i64 b,.int .i64 c] H (.bool (inB a b c))) : ∀ (H : Heap) (a : Int),QC F f [.int .i64 a] H (.bool (inB a 0 2)) := by
 intro H a
 refine QC.mk hf rfl ?_
 repeat' (first
  | refine seq_assoc ?_
  | refine seq_reg ?_
  | refine seq_skip ?_
  | refine seq_regD ?_
  | refine seq_cond (t := true) rfl ?_
  | refine seq_cond (t := false) rfl ?_
  | refine wpc_cond (t := true) rfl ?_
  | refine wpc_cond (t := false) rfl ?_
  | refine seq_block ?_
  | refine wpc_block ?_
  | refine seq_ret ?_
  | refine wpc_ret ?_
  | refine wpc_reg ?_
  | refine wpc_regD ?_
  | refine wpc_skip ?_
  | refine fin_t rfl ?_
  | refine seq_exit ?_
  | refine wpc_exit ?_
  | refine cmp_lss (fun _ => ?_) (fun _ => ?_)
  | refine cmp_leq (fun _ => ?_) (fun _ => ?_)
  | refine cmp_gtr (fun _ => ?_) (fun _ => ?_)
  | refine cmp_geq (fun _ => ?_) (fun _ => ?_)
  | refine cmp_eql (fun _ => ?_) (fun _ => ?_)
  | refine cmp_neq (fun _ => ?_) (fun _ => ?_)
  | (refine op_callB (by simp only [go_sem,out_n,out_r,out_e,thenX_n,thenX_r,thenX_e]; exact g0 _ _ _ _) (fun _ => ?_) (fun _ => ?_))
  | simp only [go_sem,out_n,out_r,out_e,thenX_n,thenX_r,thenX_e]
  )
 all_goals (refine ⟨?_,rfl⟩; simp [*])
theorem iNum_ok {F : Nat -> Option IFn} {f : Nat} (hf : F f = some c_iNum) (g0 : ∀ (H : Heap) (a b c : Int),QC F 64 [.int .i64 a,.int .i64 b,.int .i64 c] H (.bool (inB a b c))) : ∀ (H : Heap) (a : Int),QC F f [.int .i64 a] H (.bool (inB a 0 9)) := by
 intro H a
 refine QC.mk hf rfl ?_
 repeat' (first
  | refine seq_assoc ?_
  | refine seq_reg ?_
  | refine seq_skip ?_
  | refine seq_regD ?_
  | refine seq_cond (t := true) rfl ?_
  | refine seq_cond (t := false) rfl ?_
  | refine wpc_cond (t := true) rfl ?_
  | refine wpc_cond (t := false) rfl ?_
  | refine seq_block ?_
  | refine wpc_block ?_
  | refine seq_ret ?_
  | refine wpc_ret ?_
  | refine wpc_reg ?_
  | refine wpc_regD ?_
  | refine wpc_skip ?_
  | refine fin_t rfl ?_
  | refine seq_exit ?_
  | refine wpc_exit ?_
  | refine cmp_lss (fun _ => ?_) (fun _ => ?_)
  | refine cmp_leq (fun _ => ?_) (fun _ => ?_)
  | refine cmp_gtr (fun _ => ?_) (fun _ => ?_)
  | refine cmp_geq (fun _ => ?_) (fun _ => ?_)
  | refine cmp_eql (fun _ => ?_) (fun _ => ?_)
  | refine cmp_neq (fun _ => ?_) (fun _ => ?_)
  | (refine op_callB (by simp only [go_sem,out_n,out_r,out_e,thenX_n,thenX_r,thenX_e]; exact g0 _ _ _ _) (fun _ => ?_) (fun _ => ?_))
  | simp only [go_sem,out_n,out_r,out_e,thenX_n,thenX_r,thenX_e]
  )
 all_goals (refine ⟨?_,rfl⟩; simp [*])
theorem sAll_ok {F : Nat -> Option IFn} {f : Nat} (hf : F f = some c_sAll)  : ∀ (H : Heap) ,QC F f [] H (.int .i64 (7)) := by
 intro H
 refine QC.mk hf rfl ?_
 repeat' (first
  | refine seq_assoc ?_
  | refine seq_reg ?_
  | refine seq_skip ?_
  | refine seq_regD ?_
  | refine seq_cond (t := true) rfl ?_
  | refine seq_cond (t := false) rfl ?_
  | refine wpc_cond (t := true) rfl ?_
  | refine wpc_cond (t := false) rfl ?_
  | refine seq_block ?_
  | refine wpc_block ?_
  | refine seq_ret ?_
  | refine wpc_ret ?_
  | refine wpc_reg ?_
  | refine wpc_regD ?_
  | refine wpc_skip ?_
  | refine fin_t rfl ?_
  | refine seq_exit ?_
  | refine wpc_exit ?_
  | refine cmp_lss (fun _ => ?_) (fun _ => ?_)
  | refine cmp_leq (fun _ => ?_) (fun _ => ?_)
  | refine cmp_gtr (fun _ => ?_) (fun _ => ?_)
  | refine cmp_geq (fun _ => ?_) (fun _ => ?_)
  | refine cmp_eql (fun _ => ?_) (fun _ => ?_)
  | refine cmp_neq (fun _ => ?_) (fun _ => ?_)
  | simp only [go_sem,out_n,out_r,out_e,thenX_n,thenX_r,thenX_e]
  )
 exact rfl
theorem sSet_ok {F : Nat -> Option IFn} {f : Nat} (hf : F f = some c_sSet) (g0 : ∀ (H : Heap) (a b c : Int),QC F 30 [.int .i64 a,.int .i64 b,.int .i64 c] H (.bool (inB a b c))) (g1 : ∀ H,QC F 66 [] H (.int .i64 7)) : ∀ (H : Heap) (a : Int),QC F f [.int .i64 a] H (.bool (inB a 0 7)) := by
 intro H a
 refine QC.mk hf rfl ?_
 repeat' (first
  | refine seq_assoc ?_
  | refine seq_reg ?_
  | refine seq_skip ?_
  | refine seq_regD ?_
  | refine seq_cond (t := true) rfl ?_
  | refine seq_cond (t := false) rfl ?_
  | refine wpc_cond (t := true) rfl ?_
  | refine wpc_cond (t := false) rfl ?_
  | refine seq_block ?_
  | refine wpc_block ?_
  | refine seq_ret ?_
  | refine wpc_ret ?_
  | refine wpc_reg ?_
  | refine wpc_regD ?_
  | refine wpc_skip ?_
  | refine fin_t rfl ?_
  | refine seq_exit ?_
  | refine wpc_exit ?_
  | refine cmp_lss (fun _ => ?_) (fun _ => ?_)
  | refine cmp_leq (fun _ => ?_) (fun _ => ?_)
  | refine cmp_gtr (fun _ => ?_) (fun _ => ?_)
  | refine cmp_geq (fun _ => ?_) (fun _ => ?_)
  | refine cmp_eql (fun _ => ?_) (fun _ => ?_)
  | refine cmp_neq (fun _ => ?_) (fun _ => ?_)
  | (refine op_callQ (by simp only [go_sem,out_n,out_r,out_e,thenX_n,thenX_r,thenX_e]; exact g1 _) ?_)
  | (refine op_callB (by simp only [go_sem,out_n,out_r,out_e,thenX_n,thenX_r,thenX_e]; exact g0 _ _ _ _) (fun _ => ?_) (fun _ => ?_))
  | simp only [go_sem,out_n,out_r,out_e,thenX_n,thenX_r,thenX_e]
  )
 all_goals (refine ⟨?_,rfl⟩; simp [*])
def labB (l : Int × Int) : Bool := inB l.1 0 7 && inB l.2 0 7
theorem iLabelOk_ok {F : Nat -> Option IFn} {f : Nat} (hf : F f = some c_iLabelOk) (g0 : ∀ (H : Heap) (a : Int),QC F 32 [.int .i64 a] H (.bool (inB a 0 7))) : ∀ (H : Heap) (v : Value) (a : Int × Int) (_ : Rd Co.p2 true (vw 0 H) v a),QC F f [v] H (.bool (labB a)) := by
 rintro H v ⟨a0,a1⟩ ⟨cs,hc,_,_,rfl,⟨rfl,b0⟩,⟨rfl,b1⟩⟩
 simp only [go_sem,binC,Option.some.injEq] at hc
 subst hc
 refine QC.mk hf rfl ?_
 repeat' (first
  | refine seq_assoc ?_
  | refine seq_reg ?_
  | refine seq_skip ?_
  | refine seq_regD ?_
  | refine seq_cond (t := true) rfl ?_
  | refine seq_cond (t := false) rfl ?_
  | refine wpc_cond (t := true) rfl ?_
  | refine wpc_cond (t := false) rfl ?_
  | refine seq_block ?_
  | refine wpc_block ?_
  | refine seq_ret ?_
  | refine wpc_ret ?_
  | refine wpc_reg ?_
  | refine wpc_regD ?_
  | refine wpc_skip ?_
  | refine fin_t rfl ?_
  | refine seq_exit ?_
  | refine wpc_exit ?_
  | refine cmp_lss (fun _ => ?_) (fun _ => ?_)
  | refine cmp_leq (fun _ => ?_) (fun _ => ?_)
  | refine cmp_gtr (fun _ => ?_) (fun _ => ?_)
  | refine cmp_geq (fun _ => ?_) (fun _ => ?_)
  | refine cmp_eql (fun _ => ?_) (fun _ => ?_)
  | refine cmp_neq (fun _ => ?_) (fun _ => ?_)
  | (refine op_callB (by simp only [go_sem,out_n,out_r,out_e,thenX_n,thenX_r,thenX_e]; exact g0 _ _) (fun _ => ?_) (fun _ => ?_))
  | simp only [go_sem,out_n,out_r,out_e,thenX_n,thenX_r,thenX_e]
  )
 all_goals (refine ⟨?_,rfl⟩; simp [labB, *])
theorem sLabelOk_ok {F : Nat -> Option IFn} {f : Nat} (hf : F f = some c_sLabelOk) (g0 : ∀ (H : Heap) (a : Int),QC F 35 [.int .i64 a] H (.bool (inB a 0 7))) : ∀ (H : Heap) (v : Value) (a : Int × Int) (_ : Rd Co.p2 true (vw 0 H) v a),QC F f [v] H (.bool (labB a)) := by
 rintro H v ⟨a0,a1⟩ ⟨cs,hc,_,_,rfl,⟨rfl,b0⟩,⟨rfl,b1⟩⟩
 simp only [go_sem,binC,Option.some.injEq] at hc
 subst hc
 refine QC.mk hf rfl ?_
 repeat' (first
  | refine seq_assoc ?_
  | refine seq_reg ?_
  | refine seq_skip ?_
  | refine seq_regD ?_
  | refine seq_cond (t := true) rfl ?_
  | refine seq_cond (t := false) rfl ?_
  | refine wpc_cond (t := true) rfl ?_
  | refine wpc_cond (t := false) rfl ?_
  | refine seq_block ?_
  | refine wpc_block ?_
  | refine seq_ret ?_
  | refine wpc_ret ?_
  | refine wpc_reg ?_
  | refine wpc_regD ?_
  | refine wpc_skip ?_
  | refine fin_t rfl ?_
  | refine seq_exit ?_
  | refine wpc_exit ?_
  | refine cmp_lss (fun _ => ?_) (fun _ => ?_)
  | refine cmp_leq (fun _ => ?_) (fun _ => ?_)
  | refine cmp_gtr (fun _ => ?_) (fun _ => ?_)
  | refine cmp_geq (fun _ => ?_) (fun _ => ?_)
  | refine cmp_eql (fun _ => ?_) (fun _ => ?_)
  | refine cmp_neq (fun _ => ?_) (fun _ => ?_)
  | (refine op_callB (by simp only [go_sem,out_n,out_r,out_e,thenX_n,thenX_r,thenX_e]; exact g0 _ _) (fun _ => ?_) (fun _ => ?_))
  | simp only [go_sem,out_n,out_r,out_e,thenX_n,thenX_r,thenX_e]
  )
 all_goals (refine ⟨?_,rfl⟩; simp [labB, *])
def varB (k : Nat) (a : Int) : Bool := inB a 0 ((k : Int) - 1)
theorem iVar_ok {F : Nat -> Option IFn} {f : Nat} (hf : F f = some c_iVar) (g0 : ∀ (H : Heap) (a b c : Int),QC F 64 [.int .i64 a,.int .i64 b,.int .i64 c] H (.bool (inB a b c))) : ∀ (H : Heap) (n : Nat) (v : Value) (p : TProg n) (a : Int) (_ : Rd (Co.prog n) true (vw 0 H) v p),QC F f [v,.int .i64 a] H (.bool (varB p.1.length a)) := by
 rintro H n v ⟨p0,p1⟩ a ⟨cs,hc,_,_,rfl,⟨v0,rfl,r0⟩,⟨v1,rfl,r1⟩⟩
 simp only [go_sem,binC,Option.some.injEq] at hc
 subst hc
 obtain ⟨_,x0⟩ := r0.shape
 subst x0
 obtain ⟨_,x1⟩ := r1.shape
 subst x1
 have hw : IntKind.i64.wrap ((p0.length : Int) - 1) = (p0.length : Int) - 1 := wrap_id (by omega) (by have := r0.1; simp only at this; omega)
 refine QC.mk hf rfl ?_
 repeat' (first
  | refine seq_assoc ?_
  | refine seq_reg ?_
  | refine seq_skip ?_
  | refine seq_regD ?_
  | refine seq_cond (t := true) rfl ?_
  | refine seq_cond (t := false) rfl ?_
  | refine wpc_cond (t := true) rfl ?_
  | refine wpc_cond (t := false) rfl ?_
  | refine seq_block ?_
  | refine wpc_block ?_
  | refine seq_ret ?_
  | refine wpc_ret ?_
  | refine wpc_reg ?_
  | refine wpc_regD ?_
  | refine wpc_skip ?_
  | refine fin_t rfl ?_
  | refine seq_exit ?_
  | refine wpc_exit ?_
  | refine cmp_lss (fun _ => ?_) (fun _ => ?_)
  | refine cmp_leq (fun _ => ?_) (fun _ => ?_)
  | refine cmp_gtr (fun _ => ?_) (fun _ => ?_)
  | refine cmp_geq (fun _ => ?_) (fun _ => ?_)
  | refine cmp_eql (fun _ => ?_) (fun _ => ?_)
  | refine cmp_neq (fun _ => ?_) (fun _ => ?_)
  | (refine op_callB (by simp only [go_sem,out_n,out_r,out_e,thenX_n,thenX_r,thenX_e]; exact g0 _ _ _ _) (fun _ => ?_) (fun _ => ?_))
  | simp only [go_sem,out_n,out_r,out_e,thenX_n,thenX_r,thenX_e]
  )
 all_goals (refine ⟨?_,rfl⟩; rw [hw] at *; simp [varB, *])
theorem sVar_ok {F : Nat -> Option IFn} {f : Nat} (hf : F f = some c_sVar) (g0 : ∀ (H : Heap) (a b c : Int),QC F 30 [.int .i64 a,.int .i64 b,.int .i64 c] H (.bool (inB a b c))) : ∀ (H : Heap) (n : Nat) (v : Value) (p : TProg n) (a : Int) (_ : Rd (Co.prog n) true (vw 0 H) v p),QC F f [v,.int .i64 a] H (.bool (varB p.1.length a)) := by
 rintro H n v ⟨p0,p1⟩ a ⟨cs,hc,_,_,rfl,⟨v0,rfl,r0⟩,⟨v1,rfl,r1⟩⟩
 simp only [go_sem,binC,Option.some.injEq] at hc
 subst hc
 obtain ⟨_,x0⟩ := r0.shape
 subst x0
 obtain ⟨_,x1⟩ := r1.shape
 subst x1
 have hw : IntKind.i64.wrap ((p0.length : Int) - 1) = (p0.length : Int) - 1 := wrap_id (by omega) (by have := r0.1; simp only at this; omega)
 refine QC.mk hf rfl ?_
 repeat' (first
  | refine seq_assoc ?_
  | refine seq_reg ?_
  | refine seq_skip ?_
  | refine seq_regD ?_
  | refine seq_cond (t := true) rfl ?_
  | refine seq_cond (t := false) rfl ?_
  | refine wpc_cond (t := true) rfl ?_
  | refine wpc_cond (t := false) rfl ?_
  | refine seq_block ?_
  | refine wpc_block ?_
  | refine seq_ret ?_
  | refine wpc_ret ?_
  | refine wpc_reg ?_
  | refine wpc_regD ?_
  | refine wpc_skip ?_
  | refine fin_t rfl ?_
  | refine seq_exit ?_
  | refine wpc_exit ?_
  | refine cmp_lss (fun _ => ?_) (fun _ => ?_)
  | refine cmp_leq (fun _ => ?_) (fun _ => ?_)
  | refine cmp_gtr (fun _ => ?_) (fun _ => ?_)
  | refine cmp_geq (fun _ => ?_) (fun _ => ?_)
  | refine cmp_eql (fun _ => ?_) (fun _ => ?_)
  | refine cmp_neq (fun _ => ?_) (fun _ => ?_)
  | (refine op_callB (by simp only [go_sem,out_n,out_r,out_e,thenX_n,thenX_r,thenX_e]; exact g0 _ _ _ _) (fun _ => ?_) (fun _ => ?_))
  | simp only [go_sem,out_n,out_r,out_e,thenX_n,thenX_r,thenX_e]
  )
 all_goals (refine ⟨?_,rfl⟩; rw [hw] at *; simp [varB, *])
def valB (k : Nat) (v : Int × Int × Int) : Bool :=
 if v.1 = 1 then inB v.2.1 0 9 && decide (v.2.2 = 0) else if v.1 = 2 then varB k v.2.1 && decide (v.2.2 = 0) else if v.1 = 3 \/ v.1 = 4 then varB k v.2.1 && varB k v.2.2 else false
theorem iVal_ok {F : Nat -> Option IFn} {f : Nat} (hf : F f = some c_iVal) (g0 : ∀ (H : Heap) (a : Int),QC F 99 [.int .i64 a] H (.bool (inB a 0 9))) (g1 : ∀ (H : Heap) (n : Nat) (v : Value) (p : TProg n) (a : Int) (_ : Rd (Co.prog n) true (vw 0 H) v p),QC F 89 [v,.int .i64 a] H (.bool (varB p.1.length a))) : ∀ (H : Heap) (n : Nat) (v u : Value) (p : TProg n) (a : Int × Int × Int) (_ : Rd (Co.prog n) true (vw 0 H) v p) (_ : Rd Co.val true (vw 0 H) u a),QC F f [v,u] H (.bool (valB p.1.length a)) := by
 rintro H n v u ⟨p0,p1⟩ ⟨a0,a1,a2⟩ ⟨cs,hc,_,_,rfl,⟨v0,rfl,r0⟩,⟨v1,rfl,r1⟩⟩ ⟨cs2,hc2,_,_,rfl,⟨rfl,b0⟩,_,_,rfl,⟨rfl,b1⟩,⟨rfl,b2⟩⟩
 have hp : ∀ L,Rd (Co.prog n) true (vw 0 (H ++ L)) (.agg #[v0,v1]) (p0,p1) := fun L => ⟨_,rfl,_,_,rfl,⟨_,rfl,r0.mono (vw_app 0 H L)⟩,⟨_,rfl,r1.mono (vw_app 0 H L)⟩⟩
 simp only [go_sem,binC,Option.some.injEq] at hc2
 subst hc2
 simp only [go_sem,binC,Option.some.injEq] at hc
 subst hc
 obtain ⟨_,x0⟩ := r0.shape
 subst x0
 obtain ⟨_,x1⟩ := r1.shape
 subst x1
 skip
 have hw : IntKind.i64.wrap ((p0.length : Int) - 1) = (p0.length : Int) - 1 := wrap_id (by omega) (by have := r0.1; simp only at this; omega)
 refine QC.mk hf rfl ?_
 repeat' (first
  | refine seq_assoc ?_
  | refine seq_reg ?_
  | refine seq_skip ?_
  | refine seq_regD ?_
  | refine seq_cond (t := true) rfl ?_
  | refine seq_cond (t := false) rfl ?_
  | refine wpc_cond (t := true) rfl ?_
  | refine wpc_cond (t := false) rfl ?_
  | refine seq_block ?_
  | refine wpc_block ?_
  | refine seq_ret ?_
  | refine wpc_ret ?_
  | refine wpc_reg ?_
  | refine wpc_regD ?_
  | refine wpc_skip ?_
  | refine fin_t rfl ?_
  | refine seq_exit ?_
  | refine wpc_exit ?_
  | refine cmp_lss (fun _ => ?_) (fun _ => ?_)
  | refine cmp_leq (fun _ => ?_) (fun _ => ?_)
  | refine cmp_gtr (fun _ => ?_) (fun _ => ?_)
  | refine cmp_geq (fun _ => ?_) (fun _ => ?_)
  | refine cmp_eql (fun _ => ?_) (fun _ => ?_)
  | refine cmp_neq (fun _ => ?_) (fun _ => ?_)
  | (refine op_callB (by simp only [go_sem,out_n,out_r,out_e,thenX_n,thenX_r,thenX_e]; exact g0 _ _) (fun _ => ?_) (fun _ => ?_))
  | (refine op_callB (by simp only [go_sem,out_n,out_r,out_e,thenX_n,thenX_r,thenX_e]; exact g1 _ n _ (p0,p1) _ (hp _)) (fun _ => ?_) (fun _ => ?_))
  | simp only [go_sem,out_n,out_r,out_e,thenX_n,thenX_r,thenX_e]
  )
 all_goals (refine ⟨?_,rfl⟩; simp [valB, *])
theorem sVal_ok {F : Nat -> Option IFn} {f : Nat} (hf : F f = some c_sVal) (g0 : ∀ (H : Heap) (a b c : Int),QC F 30 [.int .i64 a,.int .i64 b,.int .i64 c] H (.bool (inB a b c))) (g1 : ∀ (H : Heap) (n : Nat) (v : Value) (p : TProg n) (a : Int) (_ : Rd (Co.prog n) true (vw 0 H) v p),QC F 103 [v,.int .i64 a] H (.bool (varB p.1.length a))) : ∀ (H : Heap) (n : Nat) (v u : Value) (p : TProg n) (a : Int × Int × Int) (_ : Rd (Co.prog n) true (vw 0 H) v p) (_ : Rd Co.val true (vw 0 H) u a),QC F f [v,u] H (.bool (valB p.1.length a)) := by
 rintro H n v u ⟨p0,p1⟩ ⟨a0,a1,a2⟩ ⟨cs,hc,_,_,rfl,⟨v0,rfl,r0⟩,⟨v1,rfl,r1⟩⟩ ⟨cs2,hc2,_,_,rfl,⟨rfl,b0⟩,_,_,rfl,⟨rfl,b1⟩,⟨rfl,b2⟩⟩
 have hp : ∀ L,Rd (Co.prog n) true (vw 0 (H ++ L)) (.agg #[v0,v1]) (p0,p1) := fun L => ⟨_,rfl,_,_,rfl,⟨_,rfl,r0.mono (vw_app 0 H L)⟩,⟨_,rfl,r1.mono (vw_app 0 H L)⟩⟩
 simp only [go_sem,binC,Option.some.injEq] at hc2
 subst hc2
 simp only [go_sem,binC,Option.some.injEq] at hc
 subst hc
 obtain ⟨_,x0⟩ := r0.shape
 subst x0
 obtain ⟨_,x1⟩ := r1.shape
 subst x1
 skip
 have hw : IntKind.i64.wrap ((p0.length : Int) - 1) = (p0.length : Int) - 1 := wrap_id (by omega) (by have := r0.1; simp only at this; omega)
 refine QC.mk hf rfl ?_
 repeat' (first
  | refine seq_assoc ?_
  | refine seq_reg ?_
  | refine seq_skip ?_
  | refine seq_regD ?_
  | refine seq_cond (t := true) rfl ?_
  | refine seq_cond (t := false) rfl ?_
  | refine wpc_cond (t := true) rfl ?_
  | refine wpc_cond (t := false) rfl ?_
  | refine seq_block ?_
  | refine wpc_block ?_
  | refine seq_ret ?_
  | refine wpc_ret ?_
  | refine wpc_reg ?_
  | refine wpc_regD ?_
  | refine wpc_skip ?_
  | refine fin_t rfl ?_
  | refine seq_exit ?_
  | refine wpc_exit ?_
  | refine cmp_lss (fun _ => ?_) (fun _ => ?_)
  | refine cmp_leq (fun _ => ?_) (fun _ => ?_)
  | refine cmp_gtr (fun _ => ?_) (fun _ => ?_)
  | refine cmp_geq (fun _ => ?_) (fun _ => ?_)
  | refine cmp_eql (fun _ => ?_) (fun _ => ?_)
  | refine cmp_neq (fun _ => ?_) (fun _ => ?_)
  | (refine op_callB (by simp only [go_sem,out_n,out_r,out_e,thenX_n,thenX_r,thenX_e]; exact g0 _ _ _ _) (fun _ => ?_) (fun _ => ?_))
  | (refine op_callB (by simp only [go_sem,out_n,out_r,out_e,thenX_n,thenX_r,thenX_e]; exact g1 _ n _ (p0,p1) _ (hp _)) (fun _ => ?_) (fun _ => ?_))
  | simp only [go_sem,out_n,out_r,out_e,thenX_n,thenX_r,thenX_e]
  )
 all_goals (refine ⟨?_,rfl⟩; simp [valB, *])
end Go.Proofs.YtbjeldblaclpnaaGreatI
end
section
set_option linter.unusedVariables false
set_option linter.unusedSimpArgs false
namespace Go.Proofs.YtbjeldblaclpnaaGreatI
open Go Go.RowKit
theorem eqs_rule {a b c x y z : Int} {ne : Bool} {K : Value -> Prop} (h1 : (a,b,c) = (x,y,z) -> K (.bool (!ne))) (h2 : ¬ (a,b,c) = (x,y,z) -> K (.bool ne)) :
  optP (eqsV ne 3 (.agg [.int .i64 a,.int .i64 b,.int .i64 c].toArray) (.agg [.int .i64 x,.int .i64 y,.int .i64 z].toArray)) K := by
 have e : eqsV ne 3 (.agg [.int .i64 a,.int .i64 b,.int .i64 c].toArray) (.agg [.int .i64 x,.int .i64 y,.int .i64 z].toArray) = some (.bool (if ne then !(a == x && (b == y && c == z)) else (a == x && (b == y && c == z)))) := by
  cases ne <;> simp [eqsV,eqCells]
 rw [e]
 by_cases h : (a,b,c) = (x,y,z)
 ·have ht : (a == x && (b == y && c == z)) = true := by simpa using h
  rw [ht]
  have := h1 h
  cases ne <;> exact this
 ·have ht : (a == x && (b == y && c == z)) = false := by
   rw [Bool.eq_false_iff]
   intro h'
   exact h (by simpa using h')
  rw [ht]
  have := h2 h
  cases ne <;> exact this
attribute [local irreducible] optP wpo wpp wpc binI Kc Kp wpOp thenX eqsV
def stepB (k : Nat) : (n : Nat) -> Int -> TStep n -> Bool
 | 0,_,_ => false
 | n + 1,d,(kd,vr,v,ho,th,el) => decide (1 <= d) && varB k vr && (if kd = 1 then valB k v && decide (ho = 0) && decide ((th.length : Int) + el.length = 0) else
   if kd = 3 then decide (v = (0,0,0)) && inB ho 0 2 && decide ((th.length : Int) + el.length = 0) else
   if kd = 2 then decide (v = (0,0,0)) && decide (ho = 0) && th.all (stepB k n (d - 1)) && el.all (stepB k n (d - 1)) else false)
def VarOk (F : Nat -> Option IFn) (f : Nat) : Prop := ∀ (H : Heap) (n : Nat) (v : Value) (p : TProg n) (a : Int) (_ : Rd (Co.prog n) true (vw 0 H) v p),QC F f [v,.int .i64 a] H (.bool (varB p.1.length a))
def ValOk (F : Nat -> Option IFn) (f : Nat) : Prop := ∀ (H : Heap) (n : Nat) (v u : Value) (p : TProg n) (a : Int × Int × Int) (_ : Rd (Co.prog n) true (vw 0 H) v p) (_ : Rd Co.val true (vw 0 H) u a),QC F f [v,u] H (.bool (valB p.1.length a))
def InOk (F : Nat -> Option IFn) (f : Nat) : Prop := ∀ (H : Heap) (a b c : Int),QC F f [.int .i64 a,.int .i64 b,.int .i64 c] H (.bool (inB a b c))
def StepsOk (F : Nat -> Option IFn) (f : Nat) (n : Nat) : Prop := ∀ (H : Heap) (m : Nat) (v u : Value) (p : TProg m) (l : List (TStep n)) (d : Int),Rd (Co.prog m) true (vw 0 H) v p -> SlR (Co.step n) (vw 0 H) u l -> (Co.sl (Co.step n)).sm l -> 0 <= d -> d <= 3 ->
 QC F f [v,u,.int .i64 d] H (.bool (l.all (stepB p.1.length n d)))
def StepOk (F : Nat -> Option IFn) (f : Nat) (n : Nat) : Prop := ∀ (H : Heap) (m : Nat) (v u : Value) (p : TProg m) (a : TStep n) (d : Int),Rd (Co.prog m) true (vw 0 H) v p -> Rd (Co.step n) true (vw 0 H) u a -> (Co.step n).sm a -> 0 <= d -> d <= 3 ->
 QC F f [v,u,.int .i64 d] H (.bool (stepB p.1.length n d a))
def c_sStep : IFn := ⟨3,86,[.t 6],
 .seq (.reg none [⟨some 3,none,.box (.t 0)⟩,⟨some 4,none,.box (.t 1)⟩,⟨some 6,none,.mov (.c (.bool false))⟩])
 (.seq (.seq (.reg none [⟨some 8,none,.mov (.t 2)⟩,⟨some 9,none,.bin .lss (.t 8) (.c (.int .i64 1))⟩,⟨some 10,none,.mov (.t 9)⟩,
   ⟨some 11,some (10,false),.load true 2 (.t 3)⟩,⟨some 12,some (10,false),.fad 1 (.t 4)⟩,⟨some 13,some (10,false),.load false 1 (.t 12)⟩,
   ⟨some 14,some (10,false),.call .q (.f 103) [.t 11,.t 13]⟩,⟨some 15,some (10,false),.un .not (.t 14)⟩,
   ⟨some 16,none,.pick (.t 10) (.c (.bool true)) (.t 15)⟩])
  (.cond (.t 16) (.seq (.reg none [⟨some 6,none,.mov (.c (.bool false))⟩])
   (.ret)) (.skip)))
 (.seq (.reg none [⟨some 17,none,.fad 2 (.t 4)⟩,⟨some 18,none,.load true 3 (.t 17)⟩,⟨some 19,none,.build [(.int .i64 0),(.int .i64 0),(.int .i64 0)] []⟩,
   ⟨some 20,none,.eqs false 3 (.t 18) (.t 19)⟩,⟨some 7,none,.mov (.t 20)⟩])
 (.seq (.seq (.reg none [⟨some 21,none,.fad 0 (.t 4)⟩,⟨some 22,none,.load false 1 (.t 21)⟩])
  (.block 0 (.seq (.reg none [⟨some 24,none,.bin .eql (.t 22) (.c (.int .i64 1))⟩,⟨some 23,none,.mov (.t 24)⟩])
   (.cond (.t 23) (.seq (.reg none [⟨some 25,none,.load true 2 (.t 3)⟩,⟨some 26,none,.fad 2 (.t 4)⟩,⟨some 27,none,.load true 3 (.t 26)⟩,
     ⟨some 28,none,.call .q (.f 104) [.t 25,.t 27]⟩,⟨some 29,none,.mov (.t 28)⟩,⟨some 30,some (29,true),.fad 5 (.t 4)⟩,
     ⟨some 31,some (29,true),.load false 1 (.t 30)⟩,⟨some 32,some (29,true),.bin .eql (.t 31) (.c (.int .i64 0))⟩,
     ⟨some 33,none,.pick (.t 29) (.t 32) (.c (.bool false))⟩,⟨some 34,none,.mov (.t 33)⟩,⟨some 35,some (34,true),.fad 6 (.t 4)⟩,
     ⟨some 36,some (34,true),.load false 1 (.t 35)⟩,⟨some 37,some (34,true),.len (.t 36)⟩,⟨some 38,some (34,true),.fad 7 (.t 4)⟩,
     ⟨some 39,some (34,true),.load false 1 (.t 38)⟩,⟨some 40,some (34,true),.len (.t 39)⟩,⟨some 41,some (34,true),.bin .add (.t 37) (.t 40)⟩,
     ⟨some 42,some (34,true),.bin .eql (.t 41) (.c (.int .i64 0))⟩,⟨some 43,none,.pick (.t 34) (.t 42) (.c (.bool false))⟩,⟨some 6,none,.mov (.t 43)⟩])
    (.ret)) (.seq (.reg none [⟨some 45,none,.bin .eql (.t 22) (.c (.int .i64 3))⟩,⟨some 44,none,.mov (.t 45)⟩])
    (.cond (.t 44) (.seq (.reg none [⟨some 46,none,.mov (.t 7)⟩,⟨some 47,none,.mov (.t 46)⟩,⟨some 48,some (47,true),.fad 5 (.t 4)⟩,
      ⟨some 49,some (47,true),.load false 1 (.t 48)⟩,⟨some 50,some (47,true),.call .q (.f 30) [.t 49,(.c (.int .i64 0)),(.c (.int .i64 2))]⟩,
      ⟨some 51,none,.pick (.t 47) (.t 50) (.c (.bool false))⟩,⟨some 52,none,.mov (.t 51)⟩,⟨some 53,some (52,true),.fad 6 (.t 4)⟩,
      ⟨some 54,some (52,true),.load false 1 (.t 53)⟩,⟨some 55,some (52,true),.len (.t 54)⟩,⟨some 56,some (52,true),.fad 7 (.t 4)⟩,
      ⟨some 57,some (52,true),.load false 1 (.t 56)⟩,⟨some 58,some (52,true),.len (.t 57)⟩,⟨some 59,some (52,true),.bin .add (.t 55) (.t 58)⟩,
      ⟨some 60,some (52,true),.bin .eql (.t 59) (.c (.int .i64 0))⟩,⟨some 61,none,.pick (.t 52) (.t 60) (.c (.bool false))⟩,⟨some 6,none,.mov (.t 61)⟩])
     (.ret)) (.seq (.reg none [⟨some 63,none,.bin .eql (.t 22) (.c (.int .i64 2))⟩,⟨some 62,none,.mov (.t 63)⟩])
     (.cond (.t 62) (.seq (.reg none [⟨some 64,none,.mov (.t 7)⟩,⟨some 65,none,.mov (.t 64)⟩,⟨some 66,some (65,true),.fad 5 (.t 4)⟩,
       ⟨some 67,some (65,true),.load false 1 (.t 66)⟩,⟨some 68,some (65,true),.bin .eql (.t 67) (.c (.int .i64 0))⟩,
       ⟨some 69,none,.pick (.t 65) (.t 68) (.c (.bool false))⟩,⟨some 70,none,.mov (.t 69)⟩,⟨some 71,some (70,true),.load true 2 (.t 3)⟩,
       ⟨some 72,some (70,true),.fad 6 (.t 4)⟩,⟨some 73,some (70,true),.load false 1 (.t 72)⟩,⟨some 74,some (70,true),.mov (.t 2)⟩,
       ⟨some 75,some (70,true),.bin .sub (.t 74) (.c (.int .i64 1))⟩,⟨some 76,some (70,true),.call .q (.f 83) [.t 71,.t 73,.t 75]⟩,
       ⟨some 77,none,.pick (.t 70) (.t 76) (.c (.bool false))⟩,⟨some 78,none,.mov (.t 77)⟩,⟨some 79,some (78,true),.load true 2 (.t 3)⟩,
       ⟨some 80,some (78,true),.fad 7 (.t 4)⟩,⟨some 81,some (78,true),.load false 1 (.t 80)⟩,⟨some 82,some (78,true),.mov (.t 2)⟩,
       ⟨some 83,some (78,true),.bin .sub (.t 82) (.c (.int .i64 1))⟩,⟨some 84,some (78,true),.call .q (.f 83) [.t 79,.t 81,.t 83]⟩,
       ⟨some 85,none,.pick (.t 78) (.t 84) (.c (.bool false))⟩,⟨some 6,none,.mov (.t 85)⟩])
      (.ret)) (.skip)))))))))
 (.seq (.reg none [⟨some 6,none,.mov (.c (.bool false))⟩])
 (.ret)))))⟩
def c_sSteps : IFn := ⟨3,22,[.t 6],
 .seq (.reg none [⟨some 3,none,.box (.t 0)⟩,⟨some 6,none,.mov (.c (.bool false))⟩])
 (.seq (.seq (.reg none [⟨some 7,none,.mov (.c (.int .i64 0))⟩])
  (.block 0 (.loop (.seq (.seq (.reg none [⟨some 8,none,.mov (.t 7)⟩,⟨some 9,none,.mov (.t 1)⟩,⟨some 10,none,.len (.t 9)⟩,
     ⟨some 11,none,.bin .lss (.t 8) (.t 10)⟩])
    (.cond (.t 11) (.skip) (.exit 0)))
   (.seq (.block 1 (.seq (.reg (some 6) [⟨some 14,none,.load true 2 (.t 3)⟩,⟨some 15,none,.mov (.t 1)⟩,⟨some 16,none,.mov (.t 7)⟩,
      ⟨some 17,none,.iad 8 (.t 15) (.t 16)⟩,⟨some 18,none,.load true 8 (.t 17)⟩,⟨some 19,none,.mov (.t 2)⟩,⟨some 20,none,.call .q (.f 98) [.t 14,.t 18,.t 19]⟩,
      ⟨some 21,none,.un .not (.t 20)⟩])
    (.cond (.t 21) (.seq (.reg none [⟨some 6,none,.mov (.c (.bool false))⟩])
     (.ret)) (.skip))))
   (.reg none [⟨some 12,none,.mov (.t 7)⟩,⟨some 13,none,.bin .add (.t 12) (.c (.int .i64 1))⟩,⟨some 7,none,.mov (.t 13)⟩]))))))
 (.seq (.reg none [⟨some 6,none,.mov (.c (.bool true))⟩])
 (.ret)))⟩
def c_iSteps : IFn := ⟨3,93,[.t 6],
 .seq (.reg none [⟨some 3,none,.box (.t 0)⟩,⟨some 6,none,.mov (.c (.bool false))⟩])
 (.seq (.seq (.reg none [⟨some 10,none,.mov (.t 1)⟩,⟨some 11,none,.len (.t 10)⟩,⟨some 12,none,.mov (.c (.int .i64 0))⟩])
  (.block 0 (.loop (.seq (.reg none [⟨some 13,none,.bin .lss (.t 12) (.t 11)⟩])
   (.seq (.cond (.t 13) (.skip) (.exit 0))
   (.seq (.block 1 (.seq (.reg none [⟨some 14,none,.iad 8 (.t 10) (.t 12)⟩,⟨some 15,none,.load true 8 (.t 14)⟩,
      ⟨some 8,none,.new [(.int .i64 0),(.int .i64 0),(.int .i64 0),(.int .i64 0),(.int .i64 0),(.int .i64 0),(.slice none 0 0),(.slice none 0 0)]⟩,
      ⟨none,none,.store 8 (.t 8) (.t 15)⟩])
    (.seq (.seq (.reg none [⟨some 16,none,.mov (.t 2)⟩,⟨some 17,none,.bin .lss (.t 16) (.c (.int .i64 1))⟩,⟨some 18,none,.mov (.t 17)⟩,
      ⟨some 19,some (18,false),.load true 2 (.t 3)⟩,⟨some 20,some (18,false),.fad 1 (.t 8)⟩,⟨some 21,some (18,false),.load false 1 (.t 20)⟩,
      ⟨some 22,some (18,false),.call .q (.f 89) [.t 19,.t 21]⟩,⟨some 23,some (18,false),.un .not (.t 22)⟩,
      ⟨some 24,none,.pick (.t 18) (.c (.bool true)) (.t 23)⟩,⟨some 25,none,.mov (.t 24)⟩,⟨some 26,some (25,false),.fad 0 (.t 8)⟩,
      ⟨some 27,some (25,false),.load false 1 (.t 26)⟩,⟨some 28,some (25,false),.bin .neq (.t 27) (.c (.int .i64 1))⟩,⟨some 29,some (25,false),.mov (.t 28)⟩,
      ⟨some 30,some (29,true),.fad 2 (.t 8)⟩,⟨some 31,some (29,true),.load true 3 (.t 30)⟩,
      ⟨some 32,some (29,true),.build [(.int .i64 0),(.int .i64 0),(.int .i64 0)] []⟩,⟨some 33,some (29,true),.eqs true 3 (.t 31) (.t 32)⟩,
      ⟨some 34,some (25,false),.pick (.t 29) (.t 33) (.c (.bool false))⟩,⟨some 35,none,.pick (.t 25) (.c (.bool true)) (.t 34)⟩,⟨some 36,none,.mov (.t 35)⟩,
      ⟨some 37,some (36,false),.fad 0 (.t 8)⟩,⟨some 38,some (36,false),.load false 1 (.t 37)⟩,⟨some 39,some (36,false),.bin .neq (.t 38) (.c (.int .i64 3))⟩,
      ⟨some 40,some (36,false),.mov (.t 39)⟩,⟨some 41,some (40,true),.fad 5 (.t 8)⟩,⟨some 42,some (40,true),.load false 1 (.t 41)⟩,
      ⟨some 43,some (40,true),.bin .neq (.t 42) (.c (.int .i64 0))⟩,⟨some 44,some (36,false),.pick (.t 40) (.t 43) (.c (.bool false))⟩,
      ⟨some 45,none,.pick (.t 36) (.c (.bool true)) (.t 44)⟩,⟨some 46,none,.mov (.t 45)⟩,⟨some 47,some (46,false),.fad 0 (.t 8)⟩,
      ⟨some 48,some (46,false),.load false 1 (.t 47)⟩,⟨some 49,some (46,false),.bin .neq (.t 48) (.c (.int .i64 2))⟩,⟨some 50,some (46,false),.mov (.t 49)⟩,
      ⟨some 51,some (50,true),.fad 6 (.t 8)⟩,⟨some 52,some (50,true),.load false 1 (.t 51)⟩,⟨some 53,some (50,true),.len (.t 52)⟩,
      ⟨some 54,some (50,true),.fad 7 (.t 8)⟩,⟨some 55,some (50,true),.load false 1 (.t 54)⟩,⟨some 56,some (50,true),.len (.t 55)⟩,
      ⟨some 57,some (50,true),.bin .add (.t 53) (.t 56)⟩,⟨some 58,some (50,true),.bin .gtr (.t 57) (.c (.int .i64 0))⟩,
      ⟨some 59,some (46,false),.pick (.t 50) (.t 58) (.c (.bool false))⟩,⟨some 60,none,.pick (.t 46) (.c (.bool true)) (.t 59)⟩])
     (.cond (.t 60) (.seq (.reg none [⟨some 6,none,.mov (.c (.bool false))⟩])
      (.ret)) (.skip)))
    (.seq (.reg none [⟨some 9,none,.mov (.c (.bool false))⟩])
    (.seq (.seq (.reg none [⟨some 61,none,.fad 0 (.t 8)⟩,⟨some 62,none,.load false 1 (.t 61)⟩])
     (.block 2 (.seq (.reg none [⟨some 64,none,.bin .eql (.t 62) (.c (.int .i64 1))⟩,⟨some 63,none,.mov (.t 64)⟩])
      (.cond (.t 63) (.reg none [⟨some 65,none,.load true 2 (.t 3)⟩,⟨some 66,none,.fad 2 (.t 8)⟩,⟨some 67,none,.load true 3 (.t 66)⟩,
        ⟨some 68,none,.call .q (.f 90) [.t 65,.t 67]⟩,⟨some 9,none,.mov (.t 68)⟩]) (.seq (.reg none [⟨some 70,none,.bin .eql (.t 62) (.c (.int .i64 2))⟩,
         ⟨some 69,none,.mov (.t 70)⟩])
       (.cond (.t 69) (.reg none [⟨some 71,none,.load true 2 (.t 3)⟩,⟨some 72,none,.fad 6 (.t 8)⟩,⟨some 73,none,.load false 1 (.t 72)⟩,
         ⟨some 74,none,.mov (.t 2)⟩,⟨some 75,none,.bin .sub (.t 74) (.c (.int .i64 1))⟩,⟨some 76,none,.call .q (.f 70) [.t 71,.t 73,.t 75]⟩,
         ⟨some 77,none,.mov (.t 76)⟩,⟨some 78,some (77,true),.load true 2 (.t 3)⟩,⟨some 79,some (77,true),.fad 7 (.t 8)⟩,
         ⟨some 80,some (77,true),.load false 1 (.t 79)⟩,⟨some 81,some (77,true),.mov (.t 2)⟩,⟨some 82,some (77,true),.bin .sub (.t 81) (.c (.int .i64 1))⟩,
         ⟨some 83,some (77,true),.call .q (.f 70) [.t 78,.t 80,.t 82]⟩,⟨some 84,none,.pick (.t 77) (.t 83) (.c (.bool false))⟩,
         ⟨some 9,none,.mov (.t 84)⟩]) (.seq (.reg none [⟨some 86,none,.bin .eql (.t 62) (.c (.int .i64 3))⟩,⟨some 85,none,.mov (.t 86)⟩])
        (.cond (.t 85) (.reg none [⟨some 87,none,.fad 5 (.t 8)⟩,⟨some 88,none,.load false 1 (.t 87)⟩,⟨some 89,none,.call .q (.f 48) [.t 88]⟩,
          ⟨some 9,none,.mov (.t 89)⟩]) (.skip)))))))))
    (.seq (.reg none [⟨some 90,none,.mov (.t 9)⟩,⟨some 91,none,.un .not (.t 90)⟩])
    (.cond (.t 91) (.seq (.reg none [⟨some 6,none,.mov (.c (.bool false))⟩])
     (.ret)) (.skip))))))))
   (.reg none [⟨some 92,none,.bin .add (.t 12) (.c (.int .i64 1))⟩,⟨some 12,none,.mov (.t 92)⟩])))))))
 (.seq (.reg none [⟨some 6,none,.mov (.c (.bool true))⟩])
 (.ret)))⟩
set_option maxHeartbeats 4000000 in
theorem sStep_ok {F : Nat -> Option IFn} {f n : Nat} (hf : F f = some c_sStep) (g0 : InOk F 30) (g1 : VarOk F 103) (g2 : ValOk F 104) (g3 : StepsOk F 83 n) : StepOk F f (n + 1) := by
 rintro H m v u ⟨p0,p1⟩ ⟨a0,a1,⟨a2,a3,a4⟩,a5,a6,a7⟩ d hp0 ⟨cs,hc,_,_,rfl,⟨rfl,b0⟩,_,_,rfl,⟨rfl,b1⟩,_,_,rfl,⟨_,_,rfl,⟨rfl,b2⟩,_,_,rfl,⟨rfl,b3⟩,⟨rfl,b4⟩⟩,_,_,rfl,⟨rfl,b5⟩,_,_,rfl,⟨v6,rfl,r6⟩,⟨v7,rfl,r7⟩⟩ ⟨s0,s1,s2,s3,s6,s7⟩ hd0 hd3
 obtain ⟨pc,hpc,_,_,rfl,⟨v0,rfl,r0⟩,⟨v1,rfl,r1⟩⟩ := hp0
 have hp : ∀ L,Rd (Co.prog m) true (vw 0 (H ++ L)) (.agg #[v0,v1]) (p0,p1) := fun L => ⟨_,rfl,_,_,rfl,⟨_,rfl,r0.mono (vw_app 0 H L)⟩,⟨_,rfl,r1.mono (vw_app 0 H L)⟩⟩
 simp only [go_sem,binC,Option.some.injEq] at hpc
 subst hpc
 obtain ⟨_,x0⟩ := r0.shape
 subst x0
 obtain ⟨_,x1⟩ := r1.shape
 subst x1
 simp only [go_sem,binC,Option.some.injEq] at hc
 subst hc
 have r6c := r6
 have r7c := r7
 obtain ⟨_,x6⟩ := r6.shape
 subst x6
 obtain ⟨_,x7⟩ := r7.shape
 subst x7
 have hd : IntKind.i64.wrap (d - 1) = d - 1 := wrap_id (by omega) (by omega)
 have ha : IntKind.i64.wrap ((a6.length : Int) + (a7.length : Int)) = (a6.length : Int) + (a7.length : Int) := by
  have h6 : a6.length <= 1048576 := s6.1
  have h7 : a7.length <= 1048576 := s7.1
  exact wrap_id (by omega) (by omega)
 refine QC.mk hf rfl ?_
 repeat' (first
  | refine seq_assoc ?_
  | refine seq_reg ?_
  | refine seq_skip ?_
  | refine seq_regD ?_
  | refine seq_cond (t := true) rfl ?_
  | refine seq_cond (t := false) rfl ?_
  | refine wpc_cond (t := true) rfl ?_
  | refine wpc_cond (t := false) rfl ?_
  | refine seq_block ?_
  | refine wpc_block ?_
  | refine seq_ret ?_
  | refine wpc_ret ?_
  | refine wpc_reg ?_
  | refine wpc_regD ?_
  | refine wpc_skip ?_
  | refine fin_t rfl ?_
  | refine seq_exit ?_
  | refine wpc_exit ?_
  | refine eqs_rule (fun _ => ?_) (fun _ => ?_)
  | refine cmp_lss (fun _ => ?_) (fun _ => ?_)
  | refine cmp_leq (fun _ => ?_) (fun _ => ?_)
  | refine cmp_gtr (fun _ => ?_) (fun _ => ?_)
  | refine cmp_geq (fun _ => ?_) (fun _ => ?_)
  | refine cmp_eql (fun _ => ?_) (fun _ => ?_)
  | refine cmp_neq (fun _ => ?_) (fun _ => ?_)
  | (refine op_callB (by simp only [go_sem,out_n,out_r,out_e,thenX_n,thenX_r,thenX_e,hd,ha,Bool.not_true,Bool.not_false]; exact g0 _ _ _ _) (fun _ => ?_) (fun _ => ?_))
  | (refine op_callB (by simp only [go_sem,out_n,out_r,out_e,thenX_n,thenX_r,thenX_e,hd,ha,Bool.not_true,Bool.not_false]; exact g1 _ m _ (p0,p1) _ (hp _)) (fun _ => ?_) (fun _ => ?_))
  | (refine op_callB (by simp only [go_sem,out_n,out_r,out_e,thenX_n,thenX_r,thenX_e,hd,ha,Bool.not_true,Bool.not_false]; exact g2 _ m _ _ (p0,p1) (a2,a3,a4) (hp _) ⟨_,rfl,_,_,rfl,⟨rfl,b2⟩,_,_,rfl,⟨rfl,b3⟩,⟨rfl,b4⟩⟩) (fun _ => ?_) (fun _ => ?_))
  | (refine op_callB (by simp only [go_sem,out_n,out_r,out_e,thenX_n,thenX_r,thenX_e,hd,ha,Bool.not_true,Bool.not_false]; exact g3 _ m _ _ (p0,p1) a6 _ (hp _) (r6c.mono (vw_app 0 H _)) s6 (by omega) (by omega)) (fun _ => ?_) (fun _ => ?_))
  | (refine op_callB (by simp only [go_sem,out_n,out_r,out_e,thenX_n,thenX_r,thenX_e,hd,ha,Bool.not_true,Bool.not_false]; exact g3 _ m _ _ (p0,p1) a7 _ (hp _) (r7c.mono (vw_app 0 H _)) s7 (by omega) (by omega)) (fun _ => ?_) (fun _ => ?_))
  | simp only [go_sem,out_n,out_r,out_e,thenX_n,thenX_r,thenX_e,hd,ha,Bool.not_true,Bool.not_false]
  )
 all_goals (refine ⟨?_,rfl⟩; simp only [stepB])
 all_goals simp_all
 all_goals first | omega | (obtain ⟨x,hx,hx2⟩ := ‹∃ x,x ∈ a6 /\ stepB p0.length n (d - 1) x = false›; intro hh; rw [hh x hx] at hx2; cases hx2)
end Go.Proofs.YtbjeldblaclpnaaGreatI
end
section
set_option linter.unusedVariables false
set_option linter.unusedSimpArgs false
namespace Go.Proofs.YtbjeldblaclpnaaGreatI
open Go Go.RowKit
def Wr (x : Int) : Int := IntKind.i64.wrap x
def cntT : (n : Nat) -> TStep n -> Int
 | 0,_ => 0
 | n + 1,(_,_,_,_,th,el) => 1 + ((th.map (cntT n)).sum + (el.map (cntT n)).sum)
def cntL (n : Nat) (l : List (TStep n)) : Int := (l.map (cntT n)).sum
def CntOk (F : Nat -> Option IFn) (f n : Nat) : Prop := ∀ (H : Heap) (u : Value) (l : List (TStep n)),SlR (Co.step n) (vw 0 H) u l -> QC F f [u] H (.int .i64 (Wr (cntL n l)))
theorem gc_part {H : Heap} {b o n off k : Nat} {cs : List Value} (h : getCells H b o n = some cs) (hk : off + k <= n) : getCells H b (o + off) k = some ((cs.drop off).take k) := by
 unfold getCells at h ⊢
 split at h
 ·rename_i kb hb
  split at h
  ·rename_i hl
   simp only [Option.some.injEq] at h
   subst h
   rw [if_pos (by omega),List.drop_take,List.drop_drop,List.take_take,Nat.min_eq_left (by omega)]
  ·cases h
 ·cases h
def c_sCount : IFn := ⟨1,28,[.t 2],
 .seq (.reg none [⟨some 2,none,.mov (.c (.int .i64 0))⟩])
 (.seq (.reg none [⟨some 3,none,.mov (.c (.int .i64 0))⟩])
 (.seq (.seq (.reg none [⟨some 4,none,.mov (.c (.int .i64 0))⟩])
  (.block 0 (.loop (.seq (.seq (.reg none [⟨some 5,none,.mov (.t 4)⟩,⟨some 6,none,.mov (.t 0)⟩,⟨some 7,none,.len (.t 6)⟩,
     ⟨some 8,none,.bin .lss (.t 5) (.t 7)⟩])
    (.cond (.t 8) (.skip) (.exit 0)))
   (.seq (.block 1 (.reg (some 15) [⟨some 11,none,.mov (.t 3)⟩,⟨some 12,none,.bin .add (.t 11) (.c (.int .i64 1))⟩,⟨some 13,none,.mov (.t 0)⟩,
     ⟨some 14,none,.mov (.t 4)⟩,⟨some 15,none,.iad 8 (.t 13) (.t 14)⟩,⟨some 16,none,.fad 6 (.t 15)⟩,⟨some 17,none,.load false 1 (.t 16)⟩,
     ⟨some 18,none,.call .q (.f 57) [.t 17]⟩,⟨some 19,none,.bin .add (.t 12) (.t 18)⟩,⟨some 20,none,.mov (.t 0)⟩,⟨some 21,none,.mov (.t 4)⟩,
     ⟨some 22,none,.iad 8 (.t 20) (.t 21)⟩,⟨some 23,none,.fad 7 (.t 22)⟩,⟨some 24,none,.load false 1 (.t 23)⟩,⟨some 25,none,.call .q (.f 57) [.t 24]⟩,
     ⟨some 26,none,.bin .add (.t 19) (.t 25)⟩,⟨some 3,none,.mov (.t 26)⟩]))
   (.reg none [⟨some 9,none,.mov (.t 4)⟩,⟨some 10,none,.bin .add (.t 9) (.c (.int .i64 1))⟩,⟨some 4,none,.mov (.t 10)⟩]))))))
 (.seq (.reg none [⟨some 27,none,.mov (.t 3)⟩,⟨some 2,none,.mov (.t 27)⟩])
 (.ret))))⟩
def c_iSize : IFn := ⟨1,25,[.t 2],
 .seq (.reg none [⟨some 2,none,.mov (.c (.int .i64 0))⟩])
 (.seq (.reg none [⟨some 6,none,.mov (.t 0)⟩,⟨some 7,none,.len (.t 6)⟩,⟨some 3,none,.mov (.t 7)⟩])
 (.seq (.seq (.reg none [⟨some 8,none,.mov (.t 0)⟩,⟨some 9,none,.len (.t 8)⟩,⟨some 10,none,.mov (.c (.int .i64 0))⟩])
  (.block 0 (.loop (.seq (.reg none [⟨some 11,none,.bin .lss (.t 10) (.t 9)⟩])
   (.seq (.cond (.t 11) (.skip) (.exit 0))
   (.seq (.block 1 (.seq (.reg none [⟨some 12,none,.iad 8 (.t 8) (.t 10)⟩,⟨some 13,none,.load true 8 (.t 12)⟩,
      ⟨some 5,none,.new [(.int .i64 0),(.int .i64 0),(.int .i64 0),(.int .i64 0),(.int .i64 0),(.int .i64 0),(.slice none 0 0),(.slice none 0 0)]⟩,
      ⟨none,none,.store 8 (.t 5) (.t 13)⟩])
    (.reg (some 8) [⟨some 14,none,.mov (.t 3)⟩,⟨some 15,none,.fad 6 (.t 5)⟩,⟨some 16,none,.load false 1 (.t 15)⟩,⟨some 17,none,.call .q (.f 19) [.t 16]⟩,
     ⟨some 18,none,.fad 7 (.t 5)⟩,⟨some 19,none,.load false 1 (.t 18)⟩,⟨some 20,none,.call .q (.f 19) [.t 19]⟩,⟨some 21,none,.bin .add (.t 17) (.t 20)⟩,
     ⟨some 22,none,.bin .add (.t 14) (.t 21)⟩,⟨some 3,none,.mov (.t 22)⟩])))
   (.reg none [⟨some 23,none,.bin .add (.t 10) (.c (.int .i64 1))⟩,⟨some 10,none,.mov (.t 23)⟩])))))))
 (.seq (.reg none [⟨some 24,none,.mov (.t 3)⟩,⟨some 2,none,.mov (.t 24)⟩])
 (.ret))))⟩
theorem cnt_at {n : Nat} (l : List (TStep n)) (i : Nat) (h : i < l.length) : cntL n (l.drop i) = cntT n l[i] + cntL n (l.drop (i + 1)) := by
 rw [List.drop_eq_getElem_cons h]
 unfold cntL
 rw [List.map_cons,List.sum_cons]
theorem sCount_ok {F : Nat -> Option IFn} {f n : Nat} (hf : F f = some c_sCount) (g0 : CntOk F 57 n) : CntOk F f (n + 1) := by
 rintro H u l ⟨h0,a,rfl,h2⟩
 refine QC.mk hf rfl ?_
 refine seq_reg ?_
 simp only [go_sem,binC]
 refine seq_reg ?_
 simp only [go_sem,binC]
 refine seq_assoc (seq_reg ?_)
 simp only [go_sem,binC]
 refine seq_block (wpc_loop ?_)
 suffices h : ∀ (k i : Nat) (e : Env) (x : Int),i + k = l.length -> e 0 = .slice a l.length l.length -> e 3 = .int .i64 (Wr x) -> e 4 = .int .i64 i -> x + cntL (n + 1) (l.drop i) = cntL (n + 1) l -> W F H.length _ e _ _ from
  h l.length 0 _ 0 (by omega) (by simp only [go_sem,binC]) (by simp only [go_sem,binC]; rfl) (by simp only [go_sem,binC]; rfl) (by simp)
 intro k
 induction k with
 | zero =>
   intro i e x hi e0 e3 e4 hx
   refine lp_step ?_
   refine seq_assoc (seq_reg ?_)
   simp only [go_sem,binC,e0,e4]
   refine seq_cond (t := false) (by simp only [go_sem,binC]; rw [decide_eq_false (by omega)]) ?_
   simp only [go_sem,binC]
   refine seq_exit ?_
   simp only [go_sem,binC,thenX_e,out_e,thenX_n]
   refine seq_reg ?_
   simp only [go_sem,binC,e3]
   refine wpc_ret ⟨Or.inr rfl,.int .i64 (Wr x),by simp only [go_sem,binC],?_,rfl⟩
   rw [List.drop_of_length_le (by omega)] at hx
   rw [<- hx]
   simp [cntL]
 | succ k ih =>
   intro i e x hi e0 e3 e4 hx
   have hil : i < l.length := by omega
   rcases h2 with h2 | ⟨b,o,hab,h2⟩
   ·rw [h2] at hil; simp at hil
   subst hab
   obtain ⟨cs,h3,h4⟩ := h2 i hil
   rw [cnt_at l i hil] at hx
   generalize l[i] = y at h4 hx
   obtain ⟨a0,a1,⟨a2,a3,a4⟩,a5,a6,a7⟩ := y
   obtain ⟨_,_,rfl,⟨rfl,b0⟩,_,_,rfl,⟨rfl,b1⟩,_,_,rfl,⟨_,_,rfl,⟨rfl,b2⟩,_,_,rfl,⟨rfl,b3⟩,⟨rfl,b4⟩⟩,_,_,rfl,⟨rfl,b5⟩,_,_,rfl,⟨v6,rfl,r6⟩,⟨v7,rfl,r7⟩⟩ := h4
   have g3 := rng_gc h3
   rw [step_w] at g3
   have g6 := gc_part (off := 6) (k := 1) g3 (by omega)
   have g7 := gc_part (off := 7) (k := 1) g3 (by omega)
   simp only [go_sem,binC] at g6 g7
   have hw1 : IntKind.i64.wrap ((i : Int) + 1) = ((i + 1 : Nat) : Int) := by rw [wrap_id (by omega) (by omega)]; omega
   refine lp_step ?_
   refine seq_assoc (seq_reg ?_)
   simp only [go_sem,binC,e0,e4]
   refine seq_cond (t := true) (by simp only [go_sem,binC]; rw [decide_eq_true (by omega)]) ?_
   simp only [go_sem,binC]
   refine seq_skip (seq_block (wpc_regD ?_))
   simp only [go_sem,binC,e0,e3,e4,g6,g7]
   refine ⟨⟨by omega,by omega⟩,?_⟩
   refine op_callQ (by simp only [go_sem,binC]; exact g0 _ _ _ r6) ?_
   simp only [go_sem,binC,e0,e4]
   refine ⟨⟨by omega,by omega⟩,?_⟩
   simp only [go_sem,binC,g7]
   refine op_callQ (by simp only [go_sem,binC]; exact g0 _ _ _ r7) ?_
   simp only [go_sem,binC,out_n,thenX_n]
   refine wpc_reg ?_
   simp only [go_sem,binC,e4,hw1]
   refine ih (i + 1) _ (x + 1 + cntL n a6 + cntL n a7) (by omega) (by simp only [go_sem,binC,e0]) (by simp only [go_sem,binC]; exact congrArg _ (by simp only [Wr,IntKind.wrap_i64]; omega)) (by simp only [go_sem,binC]) ?_
   rw [<- hx]
   simp only [cntT,cntL]
   omega
theorem iSize_ok {F : Nat -> Option IFn} {f n : Nat} (hf : F f = some c_iSize) (g0 : CntOk F 19 n) : CntOk F f (n + 1) := by
 rintro H u l ⟨h0,a,rfl,h2⟩
 refine QC.mk hf rfl ?_
 refine seq_reg ?_
 simp only [go_sem,binC]
 refine seq_reg ?_
 simp only [go_sem,binC]
 refine seq_assoc (seq_reg ?_)
 simp only [go_sem,binC]
 refine seq_block (wpc_loop ?_)
 have hl : Wr (l.length : Int) = l.length := wrap_id (by omega) (by omega)
 suffices h : ∀ (k i : Nat) (e : Env) (x : Int) (M H' : Heap),H' = H ++ M -> i + k = l.length -> e 8 = .slice a l.length l.length -> e 9 = .int .i64 l.length -> e 3 = .int .i64 (Wr x) -> e 10 = .int .i64 i -> x + (cntL (n + 1) (l.drop i) - k) = cntL (n + 1) l -> W F H.length _ e H' _ from
  h l.length 0 _ l.length [] _ (List.append_nil H).symm (by omega) (by simp only [go_sem,binC]) (by simp only [go_sem,binC]) (by simp only [go_sem,binC]; rw [hl]) (by simp only [go_sem,binC]; rfl) (by simp; omega)
 intro k
 induction k with
 | zero =>
   intro i e x M H' hH hi e8 e9 e3 e10 hx
   subst hH
   refine lp_step ?_
   refine seq_reg ?_
   simp only [go_sem,binC,e9,e10]
   refine seq_cond (t := false) (by simp only [go_sem,binC]; rw [decide_eq_false (by omega)]) ?_
   simp only [go_sem,binC]
   refine seq_exit ?_
   simp only [go_sem,binC,thenX_e,out_e,thenX_n]
   refine seq_reg ?_
   simp only [go_sem,binC,e3]
   refine wpc_ret ⟨Or.inr rfl,.int .i64 (Wr x),by simp only [go_sem,binC],?_,rfl⟩
   rw [List.drop_of_length_le (by omega)] at hx
   rw [<- hx]
   simp [cntL]
 | succ k ih =>
   intro i e x M H' hH hi e8 e9 e3 e10 hx
   subst hH
   have hil : i < l.length := by omega
   rcases h2 with h2 | ⟨b,o,hab,h2⟩
   ·rw [h2] at hil; simp at hil
   subst hab
   obtain ⟨cs,h3,h4⟩ := h2 i hil
   rw [cnt_at l i hil] at hx
   generalize l[i] = y at h4 hx
   obtain ⟨a0,a1,⟨a2,a3,a4⟩,a5,a6,a7⟩ := y
   obtain ⟨_,_,rfl,⟨rfl,b0⟩,_,_,rfl,⟨rfl,b1⟩,_,_,rfl,⟨_,_,rfl,⟨rfl,b2⟩,_,_,rfl,⟨rfl,b3⟩,⟨rfl,b4⟩⟩,_,_,rfl,⟨rfl,b5⟩,_,_,rfl,⟨v6,rfl,r6⟩,⟨v7,rfl,r7⟩⟩ := h4
   have r6c := r6
   have r7c := r7
   obtain ⟨_,x6⟩ := r6.shape
   subst x6
   obtain ⟨_,x7⟩ := r7.shape
   subst x7
   have g3 := fun L => rng_gc (rng_sub (vw_app 0 H L) h3)
   rw [step_w] at g3
   simp only [go_sem,binC] at g3
   have hw1 : IntKind.i64.wrap ((i : Int) + 1) = ((i + 1 : Nat) : Int) := by rw [wrap_id (by omega) (by omega)]; omega
   refine lp_step ?_
   refine seq_reg ?_
   simp only [go_sem,binC,e9,e10]
   refine seq_cond (t := true) (by simp only [go_sem,binC]; rw [decide_eq_true (by omega)]) ?_
   simp only [go_sem,binC]
   refine seq_skip (seq_block (seq_reg ?_))
   simp only [go_sem,binC,e8,e10,g3]
   refine ⟨⟨by omega,by omega⟩,?_⟩
   refine wpc_regD ?_
   simp only [go_sem,binC,e3]
   refine op_callQ (by simp only [go_sem,binC]; exact g0 _ _ _ (r6c.mono (vw_app 0 H _))) ?_
   simp only [go_sem,binC]
   refine op_callQ (by simp only [go_sem,binC]; exact g0 _ _ _ (r7c.mono (vw_app 0 H _))) ?_
   simp only [go_sem,binC,out_n,thenX_n]
   refine wpc_reg ?_
   simp only [go_sem,binC,e10,hw1]
   refine ih (i + 1) _ (x + (cntL n a6 + cntL n a7)) _ _ rfl (by omega) (by simp only [go_sem,binC,e8]) (by simp only [go_sem,binC,e9]) (by simp only [go_sem,binC]; exact congrArg _ (by simp only [Wr,IntKind.wrap_i64]; omega)) (by simp only [go_sem,binC]) ?_
   rw [<- hx]
   simp only [cntT,cntL]
   omega
theorem sCount_z {F : Nat -> Option IFn} {f : Nat} (hf : F f = some c_sCount) : CntOk F f 0 := by
 rintro H u l ⟨h0,a,rfl,h2⟩
 have hl : l = [] := by
  cases l with
  | nil => rfl
  | cons x r => exact x.elim
 subst hl
 refine QC.mk hf rfl ?_
 refine seq_reg ?_
 simp only [go_sem,binC]
 refine seq_reg ?_
 simp only [go_sem,binC]
 refine seq_assoc (seq_reg ?_)
 simp only [go_sem,binC]
 refine seq_block (wpc_loop (lp_step ?_))
 refine seq_assoc (seq_reg ?_)
 simp only [go_sem,binC]
 refine seq_cond (t := false) (by simp only [go_sem,binC]; rw [decide_eq_false (by simp)]) ?_
 simp only [go_sem,binC]
 refine seq_exit ?_
 simp only [go_sem,binC,thenX_e,out_e,thenX_n]
 refine seq_reg ?_
 simp only [go_sem,binC]
 refine wpc_ret ⟨Or.inr rfl,.int .i64 0,by simp only [go_sem,binC],?_,rfl⟩
 rfl
theorem iSize_z {F : Nat -> Option IFn} {f : Nat} (hf : F f = some c_iSize) : CntOk F f 0 := by
 rintro H u l ⟨h0,a,rfl,h2⟩
 have hl : l = [] := by
  cases l with
  | nil => rfl
  | cons x r => exact x.elim
 subst hl
 refine QC.mk hf rfl ?_
 refine seq_reg ?_
 simp only [go_sem,binC]
 refine seq_reg ?_
 simp only [go_sem,binC]
 refine seq_assoc (seq_reg ?_)
 simp only [go_sem,binC]
 refine seq_block (wpc_loop (lp_step ?_))
 refine seq_reg ?_
 simp only [go_sem,binC]
 refine seq_cond (t := false) (by simp only [go_sem,binC]; rw [decide_eq_false (by simp)]) ?_
 simp only [go_sem,binC]
 refine seq_exit ?_
 simp only [go_sem,binC,thenX_e,out_e,thenX_n]
 refine seq_reg ?_
 simp only [go_sem,binC]
 refine wpc_ret ⟨Or.inr rfl,.int .i64 0,by simp only [go_sem,binC]; rfl,?_,rfl⟩
 rfl
theorem cnt_all {F : Nat -> Option IFn} {f : Nat} (h : ∀ n,CntOk F f n -> CntOk F f (n + 1)) (z : CntOk F f 0) : ∀ n,CntOk F f n := by
 intro n
 induction n with
 | zero => exact z
 | succ n ih => exact h n ih
end Go.Proofs.YtbjeldblaclpnaaGreatI
end
section
set_option linter.unusedVariables false
set_option linter.unusedSimpArgs false
namespace Go.Proofs.YtbjeldblaclpnaaGreatI
open Go Go.RowKit
def c_con : IFn := ⟨2,9,[.t 4],
 .seq (.reg none [⟨some 4,none,.mov (.c (.bool false))⟩])
 (.seq (.reg none [⟨some 5,none,.mov (.t 0)⟩,⟨some 6,none,.mov (.t 1)⟩,⟨some 7,none,.call .q (.f 88) [.t 5,.t 6]⟩,
   ⟨some 8,none,.bin .geq (.t 7) (.c (.int .i64 0))⟩,⟨some 4,none,.mov (.t 8)⟩])
 (.ret))⟩
def c_idx : IFn := ⟨2,19,[.t 4],
 .seq (.reg none [⟨some 4,none,.mov (.c (.int .i64 0))⟩])
 (.seq (.seq (.reg none [⟨some 6,none,.mov (.t 0)⟩,⟨some 7,none,.len (.t 6)⟩,⟨some 8,none,.mov (.c (.int .i64 0))⟩])
  (.block 0 (.loop (.seq (.reg none [⟨some 9,none,.bin .lss (.t 8) (.t 7)⟩])
   (.seq (.cond (.t 9) (.skip) (.exit 0))
   (.seq (.block 1 (.seq (.reg none [⟨some 10,none,.mov (.t 8)⟩,⟨some 5,none,.mov (.t 10)⟩])
    (.seq (.reg none [⟨some 11,none,.mov (.t 1)⟩,⟨some 12,none,.mov (.t 0)⟩,⟨some 13,none,.mov (.t 5)⟩,⟨some 14,none,.iad 2 (.t 12) (.t 13)⟩,
      ⟨some 15,none,.load true 2 (.t 14)⟩,⟨some 16,none,.call .q (.t 11) [.t 15]⟩])
    (.cond (.t 16) (.seq (.reg none [⟨some 17,none,.mov (.t 5)⟩,⟨some 4,none,.mov (.t 17)⟩])
     (.ret)) (.skip)))))
   (.reg none [⟨some 18,none,.bin .add (.t 8) (.c (.int .i64 1))⟩,⟨some 8,none,.mov (.t 18)⟩])))))))
 (.seq (.reg none [⟨some 4,none,.mov (.c (.int .i64 (-1)))⟩])
 (.ret)))⟩
def c_p1 : IFn := ⟨1,6,[.t 2],
 .seq (.reg none [⟨some 1,none,.box (.t 0)⟩,⟨some 2,none,.mov (.c (.bool false))⟩])
 (.seq (.reg none [⟨some 3,none,.load true 2 (.t 1)⟩,⟨some 4,none,.call .q (.f 69) [.t 3]⟩,⟨some 5,none,.un .not (.t 4)⟩,⟨some 2,none,.mov (.t 5)⟩])
 (.ret))⟩
def c_iProg : IFn := ⟨1,25,[.t 2],
 .seq (.reg none [⟨some 1,none,.box (.t 0)⟩,⟨some 2,none,.mov (.c (.bool false))⟩])
 (.seq (.reg none [⟨some 3,none,.fad 0 (.t 1)⟩,⟨some 4,none,.load false 1 (.t 3)⟩,⟨some 5,none,.len (.t 4)⟩,⟨some 6,none,.bin .leq (.t 5) (.c (.int .i64 4))⟩,
   ⟨some 7,none,.mov (.t 6)⟩,⟨some 8,some (7,true),.fad 0 (.t 1)⟩,⟨some 9,some (7,true),.load false 1 (.t 8)⟩,
   ⟨some 10,some (7,true),.call .q (.f 67) [.t 9,.f 68]⟩,⟨some 11,some (7,true),.un .not (.t 10)⟩,⟨some 12,none,.pick (.t 7) (.t 11) (.c (.bool false))⟩,
   ⟨some 13,none,.mov (.t 12)⟩,⟨some 14,some (13,true),.load true 2 (.t 1)⟩,⟨some 15,some (13,true),.fad 1 (.t 1)⟩,
   ⟨some 16,some (13,true),.load false 1 (.t 15)⟩,⟨some 17,some (13,true),.call .q (.f 70) [.t 14,.t 16,(.c (.int .i64 3))]⟩,
   ⟨some 18,none,.pick (.t 13) (.t 17) (.c (.bool false))⟩,⟨some 19,none,.mov (.t 18)⟩,⟨some 20,some (19,true),.fad 1 (.t 1)⟩,
   ⟨some 21,some (19,true),.load false 1 (.t 20)⟩,⟨some 22,some (19,true),.call .q (.f 19) [.t 21]⟩,
   ⟨some 23,some (19,true),.bin .leq (.t 22) (.c (.int .i64 8))⟩,⟨some 24,none,.pick (.t 19) (.t 23) (.c (.bool false))⟩,⟨some 2,none,.mov (.t 24)⟩])
 (.ret))⟩
def c_sProg : IFn := ⟨1,32,[.t 2],
 .seq (.reg none [⟨some 1,none,.box (.t 0)⟩,⟨some 2,none,.mov (.c (.bool false))⟩])
 (.seq (.seq (.reg none [⟨some 4,none,.fad 0 (.t 1)⟩,⟨some 5,none,.load false 1 (.t 4)⟩,⟨some 6,none,.len (.t 5)⟩,
   ⟨some 7,none,.bin .gtr (.t 6) (.c (.int .i64 4))⟩])
  (.cond (.t 7) (.seq (.reg none [⟨some 2,none,.mov (.c (.bool false))⟩])
   (.ret)) (.skip)))
 (.seq (.seq (.reg none [⟨some 3,none,.mov (.c (.int .i64 0))⟩])
  (.block 0 (.loop (.seq (.seq (.reg none [⟨some 8,none,.mov (.t 3)⟩,⟨some 9,none,.fad 0 (.t 1)⟩,⟨some 10,none,.load false 1 (.t 9)⟩,
     ⟨some 11,none,.len (.t 10)⟩,⟨some 12,none,.bin .lss (.t 8) (.t 11)⟩])
    (.cond (.t 12) (.skip) (.exit 0)))
   (.seq (.block 1 (.seq (.reg none [⟨some 15,none,.fad 0 (.t 1)⟩,⟨some 16,none,.load false 1 (.t 15)⟩,⟨some 17,none,.mov (.t 3)⟩,
      ⟨some 18,none,.iad 2 (.t 16) (.t 17)⟩,⟨some 19,none,.load true 2 (.t 18)⟩,⟨some 20,none,.call .q (.f 82) [.t 19]⟩,⟨some 21,none,.un .not (.t 20)⟩])
    (.cond (.t 21) (.seq (.reg none [⟨some 2,none,.mov (.c (.bool false))⟩])
     (.ret)) (.skip))))
   (.reg none [⟨some 13,none,.mov (.t 3)⟩,⟨some 14,none,.bin .add (.t 13) (.c (.int .i64 1))⟩,⟨some 3,none,.mov (.t 14)⟩]))))))
 (.seq (.reg none [⟨some 22,none,.load true 2 (.t 1)⟩,⟨some 23,none,.fad 1 (.t 1)⟩,⟨some 24,none,.load false 1 (.t 23)⟩,
   ⟨some 25,none,.call .q (.f 83) [.t 22,.t 24,(.c (.int .i64 3))]⟩,⟨some 26,none,.mov (.t 25)⟩,⟨some 27,some (26,true),.fad 1 (.t 1)⟩,
   ⟨some 28,some (26,true),.load false 1 (.t 27)⟩,⟨some 29,some (26,true),.call .q (.f 57) [.t 28]⟩,
   ⟨some 30,some (26,true),.bin .leq (.t 29) (.c (.int .i64 8))⟩,⟨some 31,none,.pick (.t 26) (.t 30) (.c (.bool false))⟩,⟨some 2,none,.mov (.t 31)⟩])
 (.ret))))⟩
def LabOk (F : Nat -> Option IFn) (f : Nat) : Prop := ∀ (H : Heap) (v : Value) (a : Int × Int) (_ : Rd Co.p2 true (vw 0 H) v a),QC F f [v] H (.bool (labB a))
theorem idx_ok {F : Nat -> Option IFn} {f : Nat} (hf : F f = some c_idx) (g0 : ∀ (H : Heap) (v : Value) (a : Int × Int) (_ : Rd Co.p2 true (vw 0 H) v a),QC F 68 [v] H (.bool (!labB a))) : ∀ (H : Heap) (u : Value) (l : List (Int × Int)),SlR Co.p2 (vw 0 H) u l -> ∃ r : Int,QC F f [u,.func (.func 68) #[] #[]] H (.int .i64 r) /\ (decide (0 <= r) = !l.all labB) := by
 rintro H u l ⟨h0,a,rfl,h2⟩
 suffices h : ∃ v,QC F f [.slice a l.length l.length,.func (.func 68) #[] #[]] H v /\ ∃ r : Int,v = .int .i64 r /\ (decide (0 <= r) = !l.all labB) from
  let ⟨v,h1,r,h3,h4⟩ := h; ⟨r,h3 ▸ h1,h4⟩
 refine QC.mkE hf rfl ?_
 refine seq_reg ?_
 simp only [go_sem,binC]
 refine seq_assoc (seq_reg ?_)
 simp only [go_sem,binC]
 refine seq_block (wpc_loop ?_)
 suffices h : ∀ (k i : Nat) (e : Env),i + k = l.length -> e 0 = .slice a l.length l.length -> e 1 = .func (.func 68) #[] #[] -> e 6 = .slice a l.length l.length -> e 7 = .int .i64 l.length -> e 8 = .int .i64 i -> l.all labB = (l.drop i).all labB -> W F H.length _ e _ _ from
  h l.length 0 _ (by omega) (by simp only [go_sem,binC]) (by simp only [go_sem,binC]) (by simp only [go_sem,binC]) (by simp only [go_sem,binC]) (by simp only [go_sem,binC]; rfl) rfl
 intro k
 induction k with
 | zero =>
   intro i e hi e0 e1 e6 e7 e8 hall
   refine lp_step ?_
   refine seq_reg ?_
   simp only [go_sem,binC,e7,e8]
   refine seq_cond (t := false) (by simp only [go_sem,binC]; rw [decide_eq_false (by omega)]) ?_
   simp only [go_sem,binC]
   refine seq_exit ?_
   simp only [go_sem,binC,thenX_e,out_e,thenX_n]
   refine seq_reg ?_
   simp only [go_sem,binC]
   refine wpc_ret ⟨Or.inr rfl,.int .i64 (-1),by simp only [go_sem,binC],⟨-1,rfl,?_⟩,rfl⟩
   rw [hall,List.drop_of_length_le (by omega)]
   rfl
 | succ k ih =>
   intro i e hi e0 e1 e6 e7 e8 hall
   have hil : i < l.length := by omega
   rcases h2 with h2 | ⟨b,o,hab,h2⟩
   ·rw [h2] at hil; simp at hil
   subst hab
   obtain ⟨cs,h3,h4⟩ := h2 i hil
   have g3 := rng_gc h3
   rw [show Co.p2.w = 2 from rfl] at g3
   have hw1 : IntKind.i64.wrap ((i : Int) + 1) = ((i + 1 : Nat) : Int) := by rw [wrap_id (by omega) (by omega)]; omega
   rw [List.drop_eq_getElem_cons hil,List.all_cons] at hall
   refine lp_step ?_
   refine seq_reg ?_
   simp only [go_sem,binC,e7,e8]
   refine seq_cond (t := true) (by simp only [go_sem,binC]; rw [decide_eq_true (by omega)]) ?_
   simp only [go_sem,binC]
   refine seq_skip (seq_block (seq_reg ?_))
   simp only [go_sem,binC,e8]
   refine seq_reg ?_
   simp only [go_sem,binC,e0,e1,e8,g3]
   refine ⟨⟨by omega,by omega⟩,?_⟩
   refine op_callQc (g := 68) (first := #[]) (cap := #[]) (v := .bool (!labB l[i])) (by simp only [go_sem,binC,e1]) (by simp only [go_sem,binC]; exact g0 _ _ _ ⟨cs,rfl,h4⟩) ?_
   simp only [go_sem,binC]
   cases hb : labB l[i] with
   | true =>
     refine wpc_cond (t := false) (by simp only [go_sem,binC]) ?_
     simp only [go_sem,binC]
     refine wpc_skip ?_
     simp only [go_sem,binC,out_n,thenX_n]
     refine wpc_reg ?_
     simp only [go_sem,binC,e8,hw1]
     exact ih (i + 1) _ (by omega) (by simp only [go_sem,binC,e0]) (by simp only [go_sem,binC,e1]) (by simp only [go_sem,binC,e6]) (by simp only [go_sem,binC,e7]) (by simp only [go_sem,binC]) (by rw [hall,hb,Bool.true_and])
   | false =>
     refine wpc_cond (t := true) (by simp only [go_sem,binC]) ?_
     simp only [go_sem,binC]
     refine seq_reg ?_
     simp only [go_sem,binC]
     refine wpc_ret ?_
     simp only [go_sem,binC,out_r,thenX_r]
     refine ⟨Or.inr rfl,.int .i64 i,by simp only [go_sem,binC],⟨i,rfl,?_⟩,rfl⟩
     rw [hall,hb,Bool.false_and,decide_eq_true (by omega)]
     rfl
theorem con_ok {F : Nat -> Option IFn} {f : Nat} (hf : F f = some c_con) (g0 : ∀ (H : Heap) (u : Value) (l : List (Int × Int)),SlR Co.p2 (vw 0 H) u l -> ∃ r : Int,QC F 88 [u,.func (.func 68) #[] #[]] H (.int .i64 r) /\ (decide (0 <= r) = !l.all labB)) :
  ∀ (H : Heap) (u : Value) (l : List (Int × Int)),SlR Co.p2 (vw 0 H) u l -> QC F f [u,.func (.func 68) #[] #[]] H (.bool (!l.all labB)) := by
 intro H u l hu
 obtain ⟨r,h1,h2⟩ := g0 H u l hu
 refine QC.mk hf rfl ?_
 refine seq_reg ?_
 simp only [go_sem,binC]
 refine seq_reg ?_
 simp only [go_sem,binC]
 refine op_callQ (by simp only [go_sem,binC]; exact h1) ?_
 simp only [go_sem,binC]
 refine wpc_ret ⟨Or.inr rfl,.bool (decide (0 <= r)),by simp only [go_sem,binC],?_,rfl⟩
 rw [<- h2]
attribute [local irreducible] optP wpo wpp wpc binI Kc Kp wpOp thenX
theorem p1_ok {F : Nat -> Option IFn} {f : Nat} (hf : F f = some c_p1) (g0 : LabOk F 69) : ∀ (H : Heap) (v : Value) (a : Int × Int) (_ : Rd Co.p2 true (vw 0 H) v a),QC F f [v] H (.bool (!labB a)) := by
 rintro H v ⟨a0,a1⟩ ⟨cs,hc,_,_,rfl,⟨rfl,b0⟩,⟨rfl,b1⟩⟩
 simp only [go_sem,binC,Option.some.injEq] at hc
 subst hc
 refine QC.mk hf rfl ?_
 repeat' (first
  | refine seq_assoc ?_
  | refine seq_reg ?_
  | refine seq_skip ?_
  | refine seq_regD ?_
  | refine seq_cond (t := true) rfl ?_
  | refine seq_cond (t := false) rfl ?_
  | refine wpc_cond (t := true) rfl ?_
  | refine wpc_cond (t := false) rfl ?_
  | refine seq_block ?_
  | refine wpc_block ?_
  | refine seq_ret ?_
  | refine wpc_ret ?_
  | refine wpc_reg ?_
  | refine wpc_regD ?_
  | refine wpc_skip ?_
  | refine fin_t rfl ?_
  | refine seq_exit ?_
  | refine wpc_exit ?_
  | refine cmp_lss (fun _ => ?_) (fun _ => ?_)
  | refine cmp_leq (fun _ => ?_) (fun _ => ?_)
  | refine cmp_gtr (fun _ => ?_) (fun _ => ?_)
  | refine cmp_geq (fun _ => ?_) (fun _ => ?_)
  | refine cmp_eql (fun _ => ?_) (fun _ => ?_)
  | refine cmp_neq (fun _ => ?_) (fun _ => ?_)
  | (refine op_callB (by simp only [go_sem,out_n,out_r,out_e,thenX_n,thenX_r,thenX_e]; exact g0 _ _ (a0,a1) ⟨_,rfl,_,_,rfl,⟨rfl,b0⟩,⟨rfl,b1⟩⟩) (fun _ => ?_) (fun _ => ?_))
  | simp only [go_sem,out_n,out_r,out_e,thenX_n,thenX_r,thenX_e]
  )
 all_goals (refine ⟨?_,rfl⟩; simp [*])
def progB (n : Nat) (p : TProg n) : Bool := decide ((p.1.length : Int) <= 4) && p.1.all labB && p.2.all (stepB p.1.length n 3) && decide (Wr (cntL n p.2) <= 8)
def ProgOk (F : Nat -> Option IFn) (f : Nat) : Prop := ∀ (H : Heap) (n : Nat) (v : Value) (p : TProg n),Rd (Co.prog n) true (vw 0 H) v p -> (Co.prog n).sm p -> QC F f [v] H (.bool (progB n p))
theorem iProg_ok {F : Nat -> Option IFn} {f : Nat} (hf : F f = some c_iProg) (g0 : ∀ (H : Heap) (u : Value) (l : List (Int × Int)),SlR Co.p2 (vw 0 H) u l -> QC F 67 [u,.func (.func 68) #[] #[]] H (.bool (!l.all labB))) (g1 : ∀ n,StepsOk F 70 n) (g2 : ∀ n,CntOk F 19 n) : ProgOk F f := by
 rintro H m v ⟨p0,p1⟩ hp0 ⟨s0,s1⟩
 obtain ⟨pc,hpc,_,_,rfl,⟨v0,rfl,r0⟩,⟨v1,rfl,r1⟩⟩ := hp0
 have hp : ∀ L,Rd (Co.prog m) true (vw 0 (H ++ L)) (.agg #[v0,v1]) (p0,p1) := fun L => ⟨_,rfl,_,_,rfl,⟨_,rfl,r0.mono (vw_app 0 H L)⟩,⟨_,rfl,r1.mono (vw_app 0 H L)⟩⟩
 simp only [go_sem,binC,Option.some.injEq] at hpc
 subst hpc
 have r0c := r0
 have r1c := r1
 obtain ⟨_,x0⟩ := r0.shape
 subst x0
 obtain ⟨_,x1⟩ := r1.shape
 subst x1
 refine QC.mk hf rfl ?_
 repeat' (first
  | refine seq_assoc ?_
  | refine seq_reg ?_
  | refine seq_skip ?_
  | refine seq_regD ?_
  | refine seq_cond (t := true) rfl ?_
  | refine seq_cond (t := false) rfl ?_
  | refine wpc_cond (t := true) rfl ?_
  | refine wpc_cond (t := false) rfl ?_
  | refine seq_block ?_
  | refine wpc_block ?_
  | refine seq_ret ?_
  | refine wpc_ret ?_
  | refine wpc_reg ?_
  | refine wpc_regD ?_
  | refine wpc_skip ?_
  | refine fin_t rfl ?_
  | refine seq_exit ?_
  | refine wpc_exit ?_
  | refine cmp_lss (fun _ => ?_) (fun _ => ?_)
  | refine cmp_leq (fun _ => ?_) (fun _ => ?_)
  | refine cmp_gtr (fun _ => ?_) (fun _ => ?_)
  | refine cmp_geq (fun _ => ?_) (fun _ => ?_)
  | refine cmp_eql (fun _ => ?_) (fun _ => ?_)
  | refine cmp_neq (fun _ => ?_) (fun _ => ?_)
  | (refine op_callB (by simp only [go_sem,out_n,out_r,out_e,thenX_n,thenX_r,thenX_e]; exact g0 _ _ _ (r0c.mono (vw_app 0 H _))) (fun _ => ?_) (fun _ => ?_))
  | (refine op_callB (by simp only [go_sem,out_n,out_r,out_e,thenX_n,thenX_r,thenX_e]; exact g1 _ _ m _ _ (p0,p1) p1 3 (hp _) (r1c.mono (vw_app 0 H _)) s1 (by omega) (by omega)) (fun _ => ?_) (fun _ => ?_))
  | (refine op_callQ (by simp only [go_sem,out_n,out_r,out_e,thenX_n,thenX_r,thenX_e]; exact g2 _ _ _ _ (r1c.mono (vw_app 0 H _))) ?_)
  | simp only [go_sem,out_n,out_r,out_e,thenX_n,thenX_r,thenX_e]
  )
 all_goals (refine ⟨congrArg _ ?_,rfl⟩; simp only [progB])
 all_goals (generalize List.all p0 labB = A at *; generalize List.all p1 (stepB p0.length m 3) = B at *)
 all_goals simp_all
 all_goals (intros; omega)
theorem sProg_ok {F : Nat -> Option IFn} {f : Nat} (hf : F f = some c_sProg) (g0 : LabOk F 82) (g1 : ∀ n,StepsOk F 83 n) (g2 : ∀ n,CntOk F 57 n) : ProgOk F f := by
 rintro H m v ⟨p0,p1⟩ hp0 ⟨s0,s1⟩
 obtain ⟨pc,hpc,_,_,rfl,⟨v0,rfl,r0⟩,⟨v1,rfl,r1⟩⟩ := hp0
 have hp : ∀ L,Rd (Co.prog m) true (vw 0 (H ++ L)) (.agg #[v0,v1]) (p0,p1) := fun L => ⟨_,rfl,_,_,rfl,⟨_,rfl,r0.mono (vw_app 0 H L)⟩,⟨_,rfl,r1.mono (vw_app 0 H L)⟩⟩
 simp only [go_sem,binC,Option.some.injEq] at hpc
 subst hpc
 have r0c := r0
 have r1c := r1
 obtain ⟨h0,a,rfl,h2⟩ := r0
 obtain ⟨_,x1⟩ := r1.shape
 subst x1
 simp only at h0 h2
 refine QC.mk hf rfl ?_
 refine seq_reg ?_
 simp only [go_sem,binC]
 refine seq_assoc (seq_reg ?_)
 simp only [go_sem,binC]
 by_cases hn : (p0.length : Int) <= 4
 ·refine seq_cond (t := false) (by simp only [go_sem,binC]; rw [decide_eq_false (by omega)]) ?_
  simp only [go_sem,binC]
  refine seq_skip (seq_assoc (seq_reg ?_))
  simp only [go_sem,binC]
  refine seq_block (wpc_loop ?_)
  suffices h : ∀ (k i : Nat) (e : Env),i + k = p0.length -> e 1 = ptr H.length 0 -> e 3 = .int .i64 i -> p0.all labB = (p0.drop i).all labB -> W F H.length _ e _ _ from
   h p0.length 0 _ (by omega) (by simp only [go_sem,binC]) (by simp only [go_sem,binC]; rfl) rfl
  intro k
  induction k with
  | zero =>
    intro i e hi e1 e3 hall
    rw [List.drop_of_length_le (by omega),List.all_nil] at hall
    refine lp_step ?_
    refine seq_assoc (seq_reg ?_)
    simp only [go_sem,binC,e1,e3]
    refine seq_cond (t := false) (by simp only [go_sem,binC]; rw [decide_eq_false (by omega)]) ?_
    simp only [go_sem,binC]
    refine seq_exit ?_
    simp only [go_sem,binC,thenX_e,out_e,thenX_n]
    repeat' (first
     | refine seq_assoc ?_
     | refine seq_reg ?_
     | refine seq_skip ?_
     | refine seq_regD ?_
     | refine seq_cond (t := true) rfl ?_
     | refine seq_cond (t := false) rfl ?_
     | refine wpc_cond (t := true) rfl ?_
     | refine wpc_cond (t := false) rfl ?_
     | refine seq_block ?_
     | refine wpc_block ?_
     | refine seq_ret ?_
     | refine wpc_ret ?_
     | refine wpc_reg ?_
     | refine wpc_regD ?_
     | refine wpc_skip ?_
     | refine fin_t rfl ?_
     | refine seq_exit ?_
     | refine wpc_exit ?_
     | refine cmp_lss (fun _ => ?_) (fun _ => ?_)
     | refine cmp_leq (fun _ => ?_) (fun _ => ?_)
     | refine cmp_gtr (fun _ => ?_) (fun _ => ?_)
     | refine cmp_geq (fun _ => ?_) (fun _ => ?_)
     | refine cmp_eql (fun _ => ?_) (fun _ => ?_)
     | refine cmp_neq (fun _ => ?_) (fun _ => ?_)
     | (refine op_callB (by simp only [go_sem,out_n,out_r,out_e,thenX_n,thenX_r,thenX_e,e1]; exact g1 _ _ m _ _ (p0,p1) p1 3 (hp _) (r1c.mono (vw_app 0 H _)) s1 (by omega) (by omega)) (fun _ => ?_) (fun _ => ?_))
     | (refine op_callQ (by simp only [go_sem,out_n,out_r,out_e,thenX_n,thenX_r,thenX_e,e1]; exact g2 _ _ _ _ (r1c.mono (vw_app 0 H _))) ?_)
     | simp only [go_sem,out_n,out_r,out_e,thenX_n,thenX_r,thenX_e,e1]
     )
    all_goals (refine ⟨congrArg _ ?_,rfl⟩; simp only [progB])
    all_goals (generalize List.all p0 labB = A at *; generalize List.all p1 (stepB p0.length m 3) = B at *)
    all_goals simp_all
  | succ k ih =>
    intro i e hi e1 e3 hall
    have hil : i < p0.length := by omega
    rcases h2 with h2 | ⟨b,o,hab,h2⟩
    ·rw [h2] at hil; simp at hil
    subst hab
    obtain ⟨cs,h3,h4⟩ := h2 i hil
    have g3 := fun L => rng_gc (rng_sub (vw_app 0 H L) h3)
    rw [show Co.p2.w = 2 from rfl] at g3
    have hw1 : IntKind.i64.wrap ((i : Int) + 1) = ((i + 1 : Nat) : Int) := by rw [wrap_id (by omega) (by omega)]; omega
    rw [List.drop_eq_getElem_cons hil,List.all_cons] at hall
    refine lp_step ?_
    refine seq_assoc (seq_reg ?_)
    simp only [go_sem,binC,e1,e3]
    refine seq_cond (t := true) (by simp only [go_sem,binC]; rw [decide_eq_true (by omega)]) ?_
    simp only [go_sem,binC]
    refine seq_skip (seq_block (seq_reg ?_))
    simp only [go_sem,binC,e1,e3,g3]
    refine ⟨⟨by omega,by omega⟩,?_⟩
    refine op_callB (by simp only [go_sem,binC]; exact g0 _ _ p0[i] ⟨cs,rfl,Co.p2.mono (vw_app 0 H _) h4⟩) (fun hb => ?_) (fun hb => ?_)
    ·simp only [go_sem,binC]
     refine wpc_cond (t := false) (by simp only [go_sem,binC]) ?_
     simp only [go_sem,binC]
     refine wpc_skip ?_
     simp only [go_sem,binC,out_n,thenX_n]
     refine wpc_reg ?_
     simp only [go_sem,binC,e3,hw1,thenX_n]
     exact ih (i + 1) _ (by omega) (by simp only [go_sem,binC,e1]) (by simp only [go_sem,binC]) (by rw [hall,hb,Bool.true_and])
    ·simp only [go_sem,binC]
     refine wpc_cond (t := true) (by simp only [go_sem,binC]) ?_
     simp only [go_sem,binC]
     refine seq_reg ?_
     simp only [go_sem,binC]
     refine wpc_ret ?_
     simp only [go_sem,binC,out_r,thenX_r]
     refine ⟨Or.inr rfl,.bool false,by simp only [go_sem,binC],?_,rfl⟩
     have hA : p0.all labB = false := by rw [hall,hb,Bool.false_and]
     simp only [progB,hA,Bool.and_false,Bool.false_and]
 ·refine seq_cond (t := true) (by simp only [go_sem,binC]; rw [decide_eq_true (by omega)]) ?_
  simp only [go_sem,binC]
  refine seq_assoc (seq_reg ?_)
  simp only [go_sem,binC]
  refine seq_ret ⟨Or.inr rfl,.bool false,by simp only [go_sem,binC],?_,rfl⟩
  simp only [progB,decide_eq_false hn,Bool.false_and]
end Go.Proofs.YtbjeldblaclpnaaGreatI
end
end
