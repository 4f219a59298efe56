/- Texts of this proof, merged: K27, K28, K21, H24, Y1, Y2, GL71, BL71. -/
import Derived.Test.YtbjeldblaclpnaaGreatPz10
import Derived.Test.YtbjeldblaclpnaaGreatPz12
import Derived.Test.YtbjeldblaclpnaaGreatRows
section
set_option linter.unusedVariables false
set_option linter.unusedSimpArgs false
namespace Go.Proofs.YtbjeldblaclpnaaGreatI
open Go Go.RowKit
def drOffT : ICode := .seq (.reg (some 3) [⟨some 54,none,.load true 2 (.t 4)⟩,⟨some 55,none,.load true 3 (.t 5)⟩,⟨none,none,.store 2 (.t 2) (.t 54)⟩,
  ⟨none,none,.store 3 (.t 3) (.t 55)⟩])
 (.ret)
def c_drOff : IFn := ⟨1,56,[.cell true 2 2,.cell true 3 3],
 .seq (.reg none [⟨some 2,none,.new [(.slice none 0 0),(.slice none 0 0)]⟩,⟨some 3,none,.new [(.slice none 0 0),(.slice none 0 0),(.slice none 0 0)]⟩])
 (.seq (.reg none [⟨some 7,none,.mov (.t 0)⟩,⟨some 8,none,.call .n (.f 42) [.t 7]⟩,⟨some 6,none,.mov (.t 8)⟩,⟨some 9,none,.ext (.t 6) 0⟩,
   ⟨some 10,none,.ext (.t 6) 1⟩,⟨some 4,none,.new [(.slice none 0 0),(.slice none 0 0)]⟩,
   ⟨some 5,none,.new [(.slice none 0 0),(.slice none 0 0),(.slice none 0 0)]⟩,⟨none,none,.store 2 (.t 4) (.t 9)⟩,⟨none,none,.store 3 (.t 5) (.t 10)⟩])
 (.seq (.seq (.reg none [⟨some 11,none,.mov (.t 0)⟩,⟨some 12,none,.call .n (.f 14) [.t 11,(.c (.int .i64 16))]⟩])
  (.block 0 (.seq (.reg none [⟨some 14,none,.bin .eql (.t 12) (.c (.int .i64 0))⟩,⟨some 13,none,.mov (.t 14)⟩])
   (.cond (.t 13) (.seq (.reg none [⟨some 15,none,.fad 1 (.t 5)⟩,⟨some 16,none,.load false 1 (.t 15)⟩,⟨some 17,none,.len (.t 16)⟩,
     ⟨some 18,none,.bin .gtr (.t 17) (.c (.int .i64 0))⟩])
    (.cond (.t 18) (.reg (some 5) [⟨some 19,none,.fad 1 (.t 5)⟩,⟨some 20,none,.load false 1 (.t 19)⟩,⟨some 21,none,.mov (.t 0)⟩,
      ⟨some 22,none,.call .n (.f 14) [.t 21,(.c (.int .i64 5))]⟩,⟨some 23,none,.bin .sub (.t 22) (.c (.int .i64 1))⟩,
      ⟨some 24,none,.iad 1 (.t 20) (.c (.int .i64 0))⟩,⟨none,none,.store 1 (.t 24) (.t 23)⟩]) (.skip))) (.seq (.reg none [
      ⟨some 26,none,.bin .eql (.t 12) (.c (.int .i64 1))⟩,⟨some 25,none,.mov (.t 26)⟩])
    (.cond (.t 25) (.seq (.reg none [⟨some 27,none,.fad 2 (.t 5)⟩,⟨some 28,none,.load false 1 (.t 27)⟩,⟨some 29,none,.len (.t 28)⟩,
      ⟨some 30,none,.bin .gtr (.t 29) (.c (.int .i64 0))⟩])
     (.cond (.t 30) (.reg (some 10) [⟨some 31,none,.fad 2 (.t 5)⟩,⟨some 32,none,.load false 1 (.t 31)⟩,⟨some 33,none,.mov (.t 0)⟩,⟨some 34,none,.fad 2 (.t 5)⟩,
       ⟨some 35,none,.load false 1 (.t 34)⟩,⟨some 36,none,.len (.t 35)⟩,⟨some 37,none,.call .n (.f 14) [.t 33,.t 36]⟩,⟨some 38,none,.mov (.t 0)⟩,
       ⟨some 39,none,.call .n (.f 14) [.t 38,(.c (.int .i64 5))]⟩,⟨some 40,none,.bin .sub (.t 39) (.c (.int .i64 1))⟩,⟨some 41,none,.iad 1 (.t 32) (.t 37)⟩,
       ⟨none,none,.store 1 (.t 41) (.t 40)⟩]) (.skip))) (.seq (.reg none [⟨some 43,none,.bin .eql (.t 12) (.c (.int .i64 2))⟩,⟨some 42,none,.mov (.t 43)⟩])
     (.cond (.t 42) (.reg none [⟨some 44,none,.mov (.t 0)⟩,⟨some 45,none,.call .n (.f 43) [.t 44]⟩,⟨some 46,none,.fad 0 (.t 5)⟩,
       ⟨none,none,.store 1 (.t 46) (.t 45)⟩]) (.seq (.reg none [⟨some 48,none,.bin .eql (.t 12) (.c (.int .i64 3))⟩,⟨some 47,none,.mov (.t 48)⟩])
      (.cond (.t 47) (.reg none [⟨some 49,none,.fad 2 (.t 5)⟩,⟨some 50,none,.load false 1 (.t 49)⟩,
        ⟨some 51,none,.lit 1 3 1 [(.int .i64 0)] [(0,1,(.c (.int .i64 0)))]⟩,⟨some 52,none,.app 1 3 8 false (.t 50) (.t 51)⟩,⟨some 53,none,.fad 2 (.t 5)⟩,
        ⟨none,none,.store 1 (.t 53) (.t 52)⟩]) (.skip)))))))))))
 drOffT))⟩
def OffQ (H H' : Heap) (v : Value) : Prop := ∃ (lv sv tv hv dv : Value) (ls : List (Int × Int)) (l : List (TStep 3)) (ts homes does : List Int),v = .tuple #[.agg #[lv,sv],.agg #[tv,hv,dv]] /\ ProgV 3 (vwl H.length [] H') lv sv ls l /\ SlR Co.int (vwl H.length [] H') tv ts /\ SlR Co.int (vwl H.length [] H') hv homes /\ SlR Co.int (vwl H.length [] H') dv does /\ ts.length <= 3 /\ homes.length <= 100 /\ does.length <= 1001
theorem sl_one {V : Vw} {v : Value} {l : List Int} (h : SlR Co.int V v l) : one v = true := by obtain ⟨_,a,rfl,_⟩ := h; rfl
set_option maxHeartbeats 4000000 in
theorem drOff_ok {F : Nat -> Option IFn} {f : Nat} (hf : F f = some c_drOff) (hpk : F 14 = some c_pick) {H0 : Heap} {rb : Nat} {bv : Value} {code : List Int} (hc : RdC H0 rb bv code) (gpl : DrawS F H0 rb bv 42 [] 370000 PlanQ) (gtr : DrawS F H0 rb bv 43 [] 10 TrQ) : DrawS F H0 rb bv f [] 370020 OffQ := by
 refine DrawS.mk hf rfl fun H p lo hs hp hp2 hlo => ?_
 have hl := hs.lt
 have hc0 := hc.low
 refine seq_reg ?_
 simp only [go_sem,binC]
 refine wpc_gen fun H1 hH1 => ?_
 have hs1 : St H0 rb bv p H1 := hH1 ▸ hs.appN hc _
 have ht1 : AgX [rb] H H1 := hH1 ▸ AgX.app [rb] _ _
 have hb2 : H1[H.length]? = some ⟨[nilS,nilS],0,0,false,true⟩ := hH1 ▸ get_new0 _ _
 have hb3 : H1[H.length + 1]? = some ⟨[nilS,nilS,nilS],0,0,false,true⟩ := hH1 ▸ get_new _ _ 1
 have hn1 : H1.length = H.length + 2 := by rw [hH1,List.length_append]; rfl
 clear hH1
 refine seq_reg ?_
 simp only [go_sem,binC]
 obtain ⟨w,Ha,qa,ka,xa,sa,ca,lv,sv,tv,b2,b3,ls,l,ts,homes,does,rfl,hpa,hta,htl,oh,od,hne,hhl,hdl⟩ := gpl H1 p lo hs1 hp (by omega) hlo
 refine op_callN (by simp only [go_sem,binC]; exact ka) ?_
 have olv : one lv = true := by obtain ⟨_,a,rfl,_⟩ := hpa.1; rfl
 have osv : one sv = true := by obtain ⟨_,a,rfl,_⟩ := hpa.2.1; rfl
 have hla := xa.1
 obtain ⟨_,ta,rfl,_⟩ := id hta
 simp only [go_sem,binC,olv,osv,sli]
 refine ⟨by omega,by omega,?_⟩
 refine wpc_gen fun Hb hHb => ?_
 have xb : AgX [] Ha Hb := hHb ▸ AgX.app [] _ _
 have hb4 : Hb[Ha.length]? = some ⟨[lv,sv],0,0,false,true⟩ := hHb ▸ get_new0 _ _
 have hb5 : Hb[Ha.length + 1]? = some ⟨[.slice ta ts.length ts.length,.slice (some ⟨b2,0,none⟩) homes.length homes.length,.slice (some ⟨b3,0,none⟩) does.length does.length],0,0,false,true⟩ := hHb ▸ get_new _ _ 1
 have hnb : Hb.length = Ha.length + 2 := by rw [hHb,List.length_append]; rfl
 clear hHb
 have sb : St H0 rb bv qa Hb := sa.mono hc xb (fun _ h => by cases h)
 have ohb := oh.keep (Nat.le_refl _) xb (by simp)
 have odb := od.keep (Nat.le_refl _) xb (by simp)
 have hb2g := oh.ge
 have hb3g := od.ge
 have hb2l := oh.lt
 have hb3l := od.lt
 have x1b : AgX [rb] H1 Hb := xa.trans xb (fun _ h _ => h) (fun _ h _ => by cases h)
 have htb : SlR Co.int (vwl H1.length [b2,b3] Hb) (.slice ta ts.length ts.length) ts := hta.mono (vwl_sub xb (Nat.le_refl _) fun b' h1 h2 h3 => ⟨by simp,h3⟩)
 have hpb : ProgV 3 (vwl H1.length [b2,b3] Hb) lv sv ls l := hpa.mono (vwl_sub xb (Nat.le_refl _) fun b' h1 h2 h3 => ⟨by simp,h3⟩)
 have hTs : ∀ (Hx : Heap) (xs : List Nat),AgX xs Hb Hx -> (∀ b',b' ∈ xs -> b' = rb \/ b' = b2 \/ b' = b3 \/ b' = Ha.length + 1) -> SlR Co.int (vwl H1.length [] Hx) (.slice ta ts.length ts.length) ts := fun Hx xs hx hz => hta.mono (vwl_sub (xb.trans hx (zs := xs) (fun _ h _ => by cases h) (fun _ h _ => h)) (Nat.le_refl _) fun b' h1 h2 h3 => ⟨fun hm => by have := hz b' hm; simp only [List.mem_cons,List.not_mem_nil,or_false] at h3; omega,by simp⟩)
 have hIs : ∀ (Hx : Heap) (bb : Nat) (so : Bool) (l0 : List Int),IntsO 3 H1.length Hx bb so l0 -> SlR Co.int (vwl H1.length [] Hx) (.slice (some ⟨bb,0,none⟩) l0.length l0.length) l0 := fun Hx bb so l0 h => ints_sl (o := 0) (lo := H1.length) (xs := []) (l := l0) h.blk h.ge (by simp) h.rg (Nat.zero_le _) (by have := h.len; omega)
 refine wpc_genK fun KK hKK => ?_
 have hT : ∀ (e' : Env) (Hf : Heap) (q : Int) (tv hv dv : Value) (ts' homes' does' : List Int),e' 2 = ptr H.length 0 -> e' 3 = ptr (H.length + 1) 0 -> e' 4 = ptr Ha.length 0 -> e' 5 = ptr (Ha.length + 1) 0 -> AgX [rb,b2,b3,Ha.length + 1] Hb Hf -> Hf[Ha.length + 1]? = some ⟨[tv,hv,dv],0,0,false,true⟩ -> St H0 rb bv q Hf -> qa <= q /\ q <= qa + 20 -> SlR Co.int (vwl H1.length [] Hf) tv ts' -> SlR Co.int (vwl H1.length [] Hf) hv homes' -> SlR Co.int (vwl H1.length [] Hf) dv does' -> ts'.length <= 3 -> homes'.length <= 100 -> does'.length <= 1001 -> wpc F lo drOffT e' Hf KK := by
  intro e' Hf q tv hv dv ts' homes' does' e2 e3 e4 e5 xf hb5f sf hq st sh sd ht' hh' hd'
  rw [hKK]
  have o1 := sl_one st
  have o2 := sl_one sh
  have o3 := sl_one sd
  have x1f : AgX [rb,b2,b3,Ha.length + 1] H1 Hf := x1b.trans xf (fun b h _ => by simp only [List.mem_singleton] at h; simp [h]) (fun _ h _ => h)
  have hb2f := x1f.get hb2 (by simp; omega)
  have hb3f := x1f.get hb3 (by simp; omega)
  have hb4f := xf.get hb4 (by simp; omega)
  have hb2fl := (List.getElem?_eq_some_iff.1 hb2f).1
  have hb3fl := (List.getElem?_eq_some_iff.1 hb3f).1
  have g4 : getCells Hf Ha.length 0 2 = some [lv,sv] := by rw [gc_of hb4f]; rfl
  have g5 : getCells Hf (Ha.length + 1) 0 3 = some [tv,hv,dv] := by rw [gc_of hb5f]; rfl
  have g4' : ∀ kk : Blk,getCells (Hf.set H.length kk) Ha.length 0 2 = some [lv,sv] := fun kk => by rw [gc_of (show (Hf.set H.length kk)[Ha.length]? = some ⟨[lv,sv],0,0,false,true⟩ by rw [List.getElem?_set_ne (by omega)]; exact hb4f)]; rfl
  have g5' : ∀ kk : Blk,getCells (Hf.set H.length kk) (Ha.length + 1) 0 3 = some [tv,hv,dv] := fun kk => by rw [gc_of (show (Hf.set H.length kk)[Ha.length + 1]? = some ⟨[tv,hv,dv],0,0,false,true⟩ by rw [List.getElem?_set_ne (by omega)]; exact hb5f)]; rfl
  have hb3s : ∀ kk : Blk,(Hf.set H.length kk)[H.length + 1]? = some ⟨[nilS,nilS,nilS],0,0,false,true⟩ := fun kk => by rw [List.getElem?_set_ne (by omega)]; exact hb3f
  unfold drOffT
  refine seq_regV (q := 2) (k := 0) (ea := putE (putE e' (some 54) (.agg #[lv,sv])) (some 55) (.agg #[tv,hv,dv])) rfl rfl rfl ?_
  simp only [go_sem,binC,e2,hb2f,olv,osv]
  refine ⟨by omega,?_⟩
  refine ⟨frees_cons _ (iop_load (by simp only [go_sem,binC,e4]) g4) (iop_load (by simp only [go_sem,binC,e4]) (g4' _)) (frees_cons _ (iop_load (by simp only [go_sem,binC,e5]) g5) (iop_load (by simp only [go_sem,binC,e5]) (g5' _)) rfl),_,rfl,?_⟩
  simp only [go_sem,binC,e3,hb3s,o1,o2,o3]
  refine ⟨by omega,?_⟩
  refine wpc_genH fun Hz hHz => ?_
  have xfz : AgX [H.length,H.length + 1] Hf Hz := by
   rw [hHz]
   exact (AgX.set Hf H.length _).trans (AgX.set _ (H.length + 1) _) (fun _ h _ => by simp only [List.mem_singleton] at h; simp [h]) (fun _ h _ => by simp only [List.mem_singleton] at h; simp [h])
  have hfP : Hz[H.length]? = some ⟨[lv,sv],0,0,false,true⟩ := by rw [hHz,List.getElem?_set_ne (by omega),List.getElem?_set_self hb2fl]
  have hfQ : Hz[H.length + 1]? = some ⟨[tv,hv,dv],0,0,false,true⟩ := by rw [hHz,List.getElem?_set_self (by rw [List.length_set]; exact hb3fl)]
  clear hHz
  have x1z : AgX [rb,b2,b3,Ha.length + 1,H.length,H.length + 1] H1 Hz := x1f.trans xfz (fun _ h _ => by simp only [List.mem_cons,List.not_mem_nil,or_false] at h ⊢; omega) (fun _ h _ => by simp only [List.mem_cons,List.not_mem_nil,or_false] at h ⊢; omega)
  have xaz : AgX [rb,b2,b3,Ha.length + 1,H.length,H.length + 1] Ha Hz := (xb.trans xf (zs := [rb,b2,b3,Ha.length + 1]) (fun _ h _ => by cases h) (fun _ h _ => h)).trans xfz (fun _ h _ => by simp only [List.mem_cons,List.not_mem_nil,or_false] at h ⊢; omega) (fun _ h _ => by simp only [List.mem_cons,List.not_mem_nil,or_false] at h ⊢; omega)
  have hsub : Sub (vwl H1.length [] Hf) (vwl H.length [] Hz) := vwl_sub xfz (by omega) fun b' h1 h2 h3 => ⟨by simp; omega,by simp⟩
  refine wpc_ret ⟨Or.inr rfl,.tuple #[.agg #[lv,sv],.agg #[tv,hv,dv]],?_,q,?_,?_,by omega,?_⟩
  ·simp [resV,resL,res1,putE_get,notT,ptr,gc_of hfP,gc_of hfQ,inBlk_some,valOf,e2,e3]
  ·exact ht1.trans x1z (fun _ h _ => h) (fun b h hlt => by simp only [List.mem_cons,List.not_mem_nil,or_false] at h ⊢; omega)
  ·exact sf.mono hc xfz (fun b h => by simp only [List.mem_cons,List.not_mem_nil,or_false] at h; omega)
  ·exact ⟨lv,sv,tv,hv,dv,ls,l,ts',homes',does',rfl,hpa.mono (vwl_sub xaz (by omega) fun b' h1 h2 h3 => ⟨by simp only [List.mem_cons,List.not_mem_nil,or_false] at h3 ⊢; omega,by simp⟩),st.mono hsub,sh.mono hsub,sd.mono hsub,ht',hh',hd'⟩
 refine seq_assoc (seq_reg ?_)
 simp only [go_sem,binC]
 refine op_draw (n := 16) hpk hc sb (by omega) (by omega) hlo (by simp only [go_sem,binC]) (by simp only [go_sem,binC]) fun He hle xe se => ?_
 simp only [go_sem,binC]
 have hpx := pickV_bd code qa (n := 16) (by omega)
 generalize pickV code qa 16 = x at *
 refine wpc_genE fun ex he => ?_
 have e0 : ex 0 = ptr rb 0 := by rw [he]; simp only [go_sem,binC]
 have e2 : ex 2 = ptr H.length 0 := by rw [he]; simp only [go_sem,binC]
 have e3 : ex 3 = ptr (H.length + 1) 0 := by rw [he]; simp only [go_sem,binC]
 have e4 : ex 4 = ptr Ha.length 0 := by rw [he]; simp only [go_sem,binC]
 have e5 : ex 5 = ptr (Ha.length + 1) 0 := by rw [he]; simp only [go_sem,binC]
 have e12 : ex 12 = .int .i64 x := by rw [he]; simp only [go_sem,binC]
 clear he
 have hb5e := xe.get hb5 (by simp; omega)
 have oht := ohb.keep (Nat.le_refl _) xe (by simp; omega)
 have odt := odb.keep (Nat.le_refl _) xe (by simp; omega)
 have h5l := (List.getElem?_eq_some_iff.1 hb5e).1
 have xe4 : AgX [rb,b2,b3,Ha.length + 1] Hb He := xe.trans (AgX.refl [] He) (fun b h _ => by simp only [List.mem_singleton] at h; simp [h]) (fun _ h _ => by cases h)
 have hle2 := xe.1
 refine seq_block (seq_reg ?_)
 simp only [go_sem,binC,e12]
 by_cases h0 : x = 0
 ·refine wpc_cond (t := true) (by simp only [go_sem,binC]; simp [h0]) ?_
  simp only [go_sem,binC]
  refine seq_reg ?_
  simp only [go_sem,binC,e5,gc_of hb5e,inBlk_some]
  by_cases hz : (0 : Int) < (homes.length : Int)
  ·refine wpc_cond (t := true) (by simp only [go_sem,binC]; rw [decide_eq_true hz]) ?_
   simp only [go_sem,binC]
   refine wpc_regX [rb] (by simp; omega) ?_
   obtain ⟨N,n1⟩ : ∃ N,He.length = N := ⟨_,rfl⟩
   have g5 : ∀ (B L : Heap),B[Ha.length + 1]? = some ⟨[.slice ta ts.length ts.length,.slice (some ⟨b2,0,none⟩) homes.length homes.length,.slice (some ⟨b3,0,none⟩) does.length does.length],0,0,false,true⟩ -> getCells (hide [rb] B ++ L) (Ha.length + 1) 1 1 = some [.slice (some ⟨b2,0,none⟩) homes.length homes.length] := fun B L hb => gc_hidO L (by rw [gc_of hb]; rfl) (by simp; omega)
   have q5 := g5 He [] hb5e
   rw [List.append_nil] at q5
   refine wpx_A rfl ?_
   simp only [go_sem,binC,e5,List.append_nil]
   refine wpx_A rfl ?_
   simp only [go_sem,binC,q5,List.append_nil]
   refine wpx_A rfl ?_
   simp only [go_sem,binC,e0]
   refine wpx_pick (n := 5) hpk hc se (by omega) (by omega) hlo (by simp only [go_sem,binC,e0]) (by simp only [go_sem,binC]) fun B1 hl1 hx2 hs2 => ?_
   have hk1 := pickV_bd code (qa + 1) (n := 5) (by omega)
   generalize pickV code (qa + 1) 5 = y at *
   refine wpx_A rfl ?_
   simp only [go_sem,binC]
   refine wpx_zero ?_
   have hwy : IntKind.i64.wrap (y - 1) = y - 1 := wrap_id (by omega) (by omega)
   have o1 := oht.keep (Nat.le_refl _) hx2 (by simp; omega)
   have d1 := odt.keep (Nat.le_refl _) hx2 (by simp; omega)
   have hb51 := hx2.get hb5e (by simp; omega)
   have h1b := o1.blk
   have h1l := o1.lt
   simp only [go_sem,binC,hwy,List.append_nil]
   refine ⟨⟨by omega,by omega⟩,?_⟩
   simp only [go_sem,binC,Int.toNat_zero,Nat.mul_one,h1b,ints_len,ints_set,List.append_nil]
   refine ⟨⟨by omega,by omega⟩,?_⟩
   simp only [go_sem,binC,out_n,thenX_n]
   have xs1 : AgX [b2] B1 (B1.set b2 ⟨ints (homes.set 0 (y - 1)),1,3,true,true⟩) := AgX.set _ _ _
   have os1 : IntsO 3 H1.length (B1.set b2 ⟨ints (homes.set 0 (y - 1)),1,3,true,true⟩) b2 true (homes.set 0 (y - 1)) := ⟨o1.ge,by rw [List.length_set]; exact o1.len,List.getElem?_set_self h1l,fun a ha => by
    rcases List.mem_or_eq_of_mem_set ha with h | rfl
    ·exact o1.rg a h
    ·exact ⟨by omega,by omega⟩⟩
   have ds1 := d1.keep (Nat.le_refl _) xs1 (by simp; omega)
   have xz : AgX [rb,b2,b3,Ha.length + 1] Hb (B1.set b2 ⟨ints (homes.set 0 (y - 1)),1,3,true,true⟩) := (xe.tr hx2).trans xs1 (fun b h _ => by simp only [List.mem_singleton] at h; simp [h]) (fun b h _ => by simp only [List.mem_singleton] at h; simp [h])
   have hv := hIs _ _ _ _ os1
   rw [List.length_set] at hv
   exact hT _ _ (qa + 1 + 1) _ _ _ ts (homes.set 0 (y - 1)) does (by simp only [go_sem,binC,e2]) (by simp only [go_sem,binC,e3]) (by simp only [go_sem,binC,e4]) (by simp only [go_sem,binC,e5]) xz (xs1.get hb51 (by simp; omega)) (hs2.setN hc (by omega) _) (by omega) (hTs _ _ xz (by simp)) hv (hIs _ _ _ _ ds1) htl (by rw [List.length_set]; exact hhl) (by omega)
  ·refine wpc_cond (t := false) (by simp only [go_sem,binC]; rw [decide_eq_false hz]) ?_
   simp only [go_sem,binC]
   refine wpc_skip ?_
   simp only [go_sem,binC,out_n,thenX_n]
   exact hT _ He (qa + 1) _ _ _ ts homes does (by simp only [go_sem,binC,e2]) (by simp only [go_sem,binC,e3]) (by simp only [go_sem,binC,e4]) (by simp only [go_sem,binC,e5]) xe4 hb5e se (by omega) (hTs He _ xe4 (by simp)) (hIs _ _ _ _ oht) (hIs _ _ _ _ odt) htl hhl (by omega)
 refine wpc_cond (t := false) (by simp only [go_sem,binC]; simp [h0]) ?_
 simp only [go_sem,binC]
 refine seq_reg ?_
 simp only [go_sem,binC,e12]
 by_cases h1 : x = 1
 ·refine wpc_cond (t := true) (by simp only [go_sem,binC]; simp [h1]) ?_
  simp only [go_sem,binC]
  refine seq_reg ?_
  simp only [go_sem,binC,e5,gc_of hb5e,inBlk_some]
  by_cases hz : (0 : Int) < (does.length : Int)
  ·refine wpc_cond (t := true) (by simp only [go_sem,binC]; rw [decide_eq_true hz]) ?_
   simp only [go_sem,binC]
   refine wpc_regX [rb] (by simp; omega) ?_
   obtain ⟨N,n1⟩ : ∃ N,He.length = N := ⟨_,rfl⟩
   have g5 : ∀ (B L : Heap),B[Ha.length + 1]? = some ⟨[.slice ta ts.length ts.length,.slice (some ⟨b2,0,none⟩) homes.length homes.length,.slice (some ⟨b3,0,none⟩) does.length does.length],0,0,false,true⟩ -> getCells (hide [rb] B ++ L) (Ha.length + 1) 2 1 = some [.slice (some ⟨b3,0,none⟩) does.length does.length] := fun B L hb => gc_hidO L (by rw [gc_of hb]; rfl) (by simp; omega)
   have q5 := g5 He [] hb5e
   rw [List.append_nil] at q5
   refine wpx_A rfl ?_
   simp only [go_sem,binC,e5,List.append_nil]
   refine wpx_A rfl ?_
   simp only [go_sem,binC,q5,List.append_nil]
   refine wpx_A rfl ?_
   simp only [go_sem,binC,e0]
   refine wpx_A rfl ?_
   simp only [go_sem,binC,e5,List.append_nil]
   refine wpx_A rfl ?_
   simp only [go_sem,binC,q5,List.append_nil]
   refine wpx_A rfl ?_
   simp only [go_sem,binC,e0]
   refine wpx_pick (n := (does.length : Int)) hpk hc se (by omega) (by omega) hlo (by simp only [go_sem,binC,e0]) (by simp only [go_sem,binC]) fun B1 hl1 hx2 hs2 => ?_
   have hk1 := pickV_bd code (qa + 1) (n := (does.length : Int)) (by omega)
   generalize pickV code (qa + 1) (does.length : Int) = y at *
   refine wpx_A rfl ?_
   simp only [go_sem,binC]
   refine wpx_pick (n := 5) hpk hc hs2 (by omega) (by omega) hlo (by simp only [go_sem,binC,e0]) (by simp only [go_sem,binC]) fun B2 hl2 hx3 hs3 => ?_
   have hk2 := pickV_bd code (qa + 1 + 1) (n := 5) (by omega)
   generalize pickV code (qa + 1 + 1) 5 = z at *
   refine wpx_A rfl ?_
   simp only [go_sem,binC]
   refine wpx_zero ?_
   have hwy : IntKind.i64.wrap (z - 1) = z - 1 := wrap_id (by omega) (by omega)
   have o1 := oht.keep (Nat.le_refl _) (hx2.tr hx3) (by simp; omega)
   have d1 := odt.keep (Nat.le_refl _) (hx2.tr hx3) (by simp; omega)
   have hb51 := (hx2.tr hx3).get hb5e (by simp; omega)
   have h1b := d1.blk
   have h1l := d1.lt
   simp only [go_sem,binC,hwy,List.append_nil]
   refine ⟨⟨by omega,by omega⟩,?_⟩
   simp only [go_sem,binC,Nat.mul_one,h1b,ints_len,ints_set,List.append_nil]
   refine ⟨⟨by omega,by omega⟩,?_⟩
   simp only [go_sem,binC,out_n,thenX_n]
   have xs1 : AgX [b3] B2 (B2.set b3 ⟨ints (does.set y.toNat (z - 1)),1,3,true,true⟩) := AgX.set _ _ _
   have os1 : IntsO 3 H1.length (B2.set b3 ⟨ints (does.set y.toNat (z - 1)),1,3,true,true⟩) b3 true (does.set y.toNat (z - 1)) := ⟨d1.ge,by rw [List.length_set]; exact d1.len,List.getElem?_set_self h1l,fun a ha => by
    rcases List.mem_or_eq_of_mem_set ha with h | rfl
    ·exact d1.rg a h
    ·exact ⟨by omega,by omega⟩⟩
   have ds1 := o1.keep (Nat.le_refl _) xs1 (by simp; omega)
   have xz : AgX [rb,b2,b3,Ha.length + 1] Hb (B2.set b3 ⟨ints (does.set y.toNat (z - 1)),1,3,true,true⟩) := (xe.tr (hx2.tr hx3)).trans xs1 (fun b h _ => by simp only [List.mem_singleton] at h; simp [h]) (fun b h _ => by simp only [List.mem_singleton] at h; simp [h])
   have hv := hIs _ _ _ _ os1
   rw [List.length_set] at hv
   exact hT _ _ (qa + 1 + 1 + 1) _ _ _ ts homes (does.set y.toNat (z - 1)) (by simp only [go_sem,binC,e2]) (by simp only [go_sem,binC,e3]) (by simp only [go_sem,binC,e4]) (by simp only [go_sem,binC,e5]) xz (xs1.get hb51 (by simp; omega)) (hs3.setN hc (by omega) _) (by omega) (hTs _ _ xz (by simp)) (hIs _ _ _ _ ds1) hv htl hhl (by rw [List.length_set]; omega)
  ·refine wpc_cond (t := false) (by simp only [go_sem,binC]; rw [decide_eq_false hz]) ?_
   simp only [go_sem,binC]
   refine wpc_skip ?_
   simp only [go_sem,binC,out_n,thenX_n]
   exact hT _ He (qa + 1) _ _ _ ts homes does (by simp only [go_sem,binC,e2]) (by simp only [go_sem,binC,e3]) (by simp only [go_sem,binC,e4]) (by simp only [go_sem,binC,e5]) xe4 hb5e se (by omega) (hTs He _ xe4 (by simp)) (hIs _ _ _ _ oht) (hIs _ _ _ _ odt) htl hhl (by omega)
 refine wpc_cond (t := false) (by simp only [go_sem,binC]; simp [h1]) ?_
 simp only [go_sem,binC]
 refine seq_reg ?_
 simp only [go_sem,binC,e12]
 by_cases h2 : x = 2
 ·refine wpc_cond (t := true) (by simp only [go_sem,binC]; simp [h2]) ?_
  simp only [go_sem,binC]
  refine wpc_reg ?_
  simp only [go_sem,binC,e0]
  obtain ⟨tw,Hc,qc,kc,xc,sc,cc,ts2,hts2,htl2⟩ := gtr He (qa + 1) lo se (by omega) (by omega) hlo
  refine op_callN (by simp only [go_sem,binC,e0]; exact kc) ?_
  have ot2 := sl_one hts2
  have hb5c := xc.get hb5e (by simp; omega)
  simp only [go_sem,binC,e5,hb5c,ot2]
  obtain ⟨_,ta2,rfl,_⟩ := id hts2
  refine ⟨⟨by omega,by simp only [go_sem,binC],by simp only [go_sem,binC]⟩,?_⟩
  simp only [go_sem,binC,out_n,thenX_n]
  have xs1 : AgX [Ha.length + 1] Hc (Hc.set (Ha.length + 1) ⟨[.slice ta2 ts2.length ts2.length,.slice (some ⟨b2,0,none⟩) homes.length homes.length,.slice (some ⟨b3,0,none⟩) does.length does.length],0,0,false,true⟩) := AgX.set _ _ _
  have xes := xc.trans xs1 (zs := [rb,Ha.length + 1]) (fun b h _ => by simp only [List.mem_singleton] at h; simp [h]) (fun b h _ => by simp only [List.mem_singleton] at h; simp [h])
  have xz := xe.trans xes (zs := [rb,b2,b3,Ha.length + 1]) (fun b h _ => by simp only [List.mem_singleton] at h; simp [h]) (fun b h _ => by simp only [List.mem_cons,List.not_mem_nil,or_false] at h ⊢; omega)
  have os1 := oht.keep (Nat.le_refl _) xes (by simp; omega)
  have ds1 := odt.keep (Nat.le_refl _) xes (by simp; omega)
  have h5cl := (List.getElem?_eq_some_iff.1 hb5c).1
  have hv2 := hts2.mono (vwl_sub xs1 (lo' := H1.length) (xs' := []) (by omega) fun b' h1 h2 h3 => ⟨by simp; omega,by simp⟩)
  exact hT _ _ qc _ _ _ ts2 homes does (by simp only [go_sem,binC,e2]) (by simp only [go_sem,binC,e3]) (by simp only [go_sem,binC,e4]) (by simp only [go_sem,binC,e5]) xz (List.getElem?_set_self h5cl) (sc.setN hc (by omega) _) (by omega) hv2 (hIs _ _ _ _ os1) (hIs _ _ _ _ ds1) htl2 hhl (by omega)
 refine wpc_cond (t := false) (by simp only [go_sem,binC]; simp [h2]) ?_
 simp only [go_sem,binC]
 refine seq_reg ?_
 simp only [go_sem,binC,e12]
 by_cases h3 : x = 3
 ·refine wpc_cond (t := true) (by simp only [go_sem,binC]; simp [h3]) ?_
  simp only [go_sem,binC]
  refine wpc_reg ?_
  simp only [go_sem,binC,e5,gc_of hb5e,inBlk_some]
  refine op_app_I1 (lo := H1.length) odt (by simp only [go_sem,binC,sli]) (by simp only [go_sem,binC,sli]) ⟨by omega,by omega⟩ (by omega) (by omega) (by omega) fun Hc b' so' xc hb' _ oc => ?_
  have hb5c := xc.get hb5e (by simp; omega)
  have h5cl := (List.getElem?_eq_some_iff.1 hb5c).1
  have hlc := xc.1
  simp only [go_sem,binC,e5,hb5c,sli]
  refine ⟨by omega,?_⟩
  simp only [go_sem,binC,out_n,thenX_n]
  have xs1 := AgX.set Hc (Ha.length + 1) ⟨[.slice ta ts.length ts.length,.slice (some ⟨b2,0,none⟩) homes.length homes.length,.slice (some ⟨b',0,none⟩) (does ++ [0]).length (does ++ [0]).length],0,0,false,true⟩
  have xes := xc.trans xs1 (zs := [b3,Ha.length + 1]) (fun b h _ => by simp only [List.mem_singleton] at h; simp [h]) (fun b h _ => by simp only [List.mem_singleton] at h; simp [h])
  have xz := xe.trans xes (zs := [rb,b2,b3,Ha.length + 1]) (fun b h _ => by simp only [List.mem_singleton] at h; simp [h]) (fun b h _ => by simp only [List.mem_cons,List.not_mem_nil,or_false] at h ⊢; omega)
  have os1 := oht.keep (Nat.le_refl _) xes (by simp; omega)
  have ds1 := oc.keep (Nat.le_refl _) xs1 (by simp; omega)
  exact hT _ _ (qa + 1) _ _ _ ts homes (does ++ [0]) (by simp only [go_sem,binC,e2]) (by simp only [go_sem,binC,e3]) (by simp only [go_sem,binC,e4]) (by simp only [go_sem,binC,e5]) xz (List.getElem?_set_self h5cl) ((se.mono hc xc (fun b h => by simp only [List.mem_singleton] at h; omega)).setN hc (by omega) _) (by omega) (hTs _ _ xz (by simp)) (hIs _ _ _ _ os1) (hIs _ _ _ _ ds1) htl hhl (by simp; omega)
 refine wpc_cond (t := false) (by simp only [go_sem,binC]; simp [h3]) ?_
 simp only [go_sem,binC]
 refine wpc_skip ?_
 simp only [go_sem,binC,out_n,thenX_n]
 exact hT _ He (qa + 1) _ _ _ ts homes does (by simp only [go_sem,binC,e2]) (by simp only [go_sem,binC,e3]) (by simp only [go_sem,binC,e4]) (by simp only [go_sem,binC,e5]) xe4 hb5e se (by omega) (hTs He _ xe4 (by simp)) (hIs _ _ _ _ oht) (hIs _ _ _ _ odt) htl hhl (by omega)
end Go.Proofs.YtbjeldblaclpnaaGreatI
end
section
set_option linter.unusedVariables false
set_option linter.unusedSimpArgs false
namespace Go.Proofs.YtbjeldblaclpnaaGreatI
open Go Go.RowKit
def c_drPO : IFn := ⟨1,9,[.cell true 2 2,.cell true 3 3],
 .seq (.reg none [⟨some 2,none,.new [(.slice none 0 0),(.slice none 0 0)]⟩,⟨some 3,none,.new [(.slice none 0 0),(.slice none 0 0),(.slice none 0 0)]⟩])
 (.seq (.reg none [⟨some 4,none,.mov (.t 0)⟩,⟨some 5,none,.call .n (.f 13) [.t 4]⟩,⟨some 6,none,.call .n (.f 12) [.t 5]⟩,⟨some 7,none,.ext (.t 6) 0⟩,
   ⟨some 8,none,.ext (.t 6) 1⟩,⟨none,none,.store 2 (.t 2) (.t 7)⟩,⟨none,none,.store 3 (.t 3) (.t 8)⟩])
 (.ret))⟩
def DrawPl (F : Nat -> Option IFn) (f : Nat) : Prop := ∀ (H : Heap) (v : Value) (code : List Int),SlR Co.byte (vw 0 H) v code -> ∃ (d : Nat) (lv sv tv hv dv : Value) (ls : List (Int × Int)) (l : List (TStep d)) (ts homes does : List Int) (H' : Heap),KC F f [v] H (.tuple #[.agg #[lv,sv],.agg #[tv,hv,dv]]) H' /\
 (AgX [] H H' /\ SlR Co.p2 (vw 0 H') lv ls /\ SlR (Co.step d) (vw 0 H') sv l /\ (Co.prog d).sm (ls,l) /\ SlR Co.int (vw 0 H') tv ts /\ SlR Co.int (vw 0 H') hv homes /\ SlR Co.int (vw 0 H') dv does /\ ts.length <= 3 /\ homes.length <= 100 /\ does.length <= 1001)
theorem drPO_ok {F : Nat -> Option IFn} {f : Nat} (hf : F f = some c_drPO) (hop : F 13 = some c_l6Open) (goff : ∀ {H0 : Heap} {rb : Nat} {bv : Value} {code : List Int},RdC H0 rb bv code -> DrawS F H0 rb bv 12 [] 370020 OffQ) : DrawPl F f := by
 intro H v code hv
 suffices h : ∃ w H',KC F f [v] H w H' /\ (∃ (d : Nat) (lv sv tv hv dv : Value) (ls : List (Int × Int)) (l : List (TStep d)) (ts homes does : List Int),w = .tuple #[.agg #[lv,sv],.agg #[tv,hv,dv]] /\ (AgX [] H H' /\ SlR Co.p2 (vw 0 H') lv ls /\ SlR (Co.step d) (vw 0 H') sv l /\ (Co.prog d).sm (ls,l) /\ SlR Co.int (vw 0 H') tv ts /\ SlR Co.int (vw 0 H') hv homes /\ SlR Co.int (vw 0 H') dv does /\ ts.length <= 3 /\ homes.length <= 100 /\ does.length <= 1001)) by
  obtain ⟨w,H',h1,d,lv,sv,tv,hv,dv,ls,l,ts,homes,does,rfl,h2⟩ := h
  exact ⟨d,lv,sv,tv,hv,dv,ls,l,ts,homes,does,H',h1,h2⟩
 refine KC.mk hf rfl ?_
 refine seq_reg ?_
 simp only [go_sem,binC]
 refine wpc_gen fun H1 hH1 => ?_
 have ht1 : AgX [] H H1 := hH1 ▸ AgX.app [] _ _
 have hb1 : H1[H.length]? = some ⟨[nilS,nilS],0,0,false,true⟩ := hH1 ▸ get_new0 _ _
 have hb2 : H1[H.length + 1]? = some ⟨[nilS,nilS,nilS],0,0,false,true⟩ := hH1 ▸ get_new _ _ 1
 have hn1 : H1.length = H.length + 2 := by rw [hH1,List.length_append]; rfl
 clear hH1
 refine seq_reg ?_
 simp only [go_sem,binC]
 obtain ⟨bv,code',k2,hc,hs2⟩ := l6Open_ok hop (hv.mono (agx_sub ht1)) H.length ht1.1
 refine op_callN (by simp only [go_sem,binC]; exact k2) ?_
 simp only [go_sem,binC]
 obtain ⟨H2,hH2⟩ : ∃ H2,H2 = H1 ++ [rBlk bv 0] := ⟨_,rfl⟩
 have xr : AgX [] H1 H2 := hH2 ▸ AgX.app [] H1 _
 have hn2 : H2.length = H1.length + 1 := by rw [hH2,List.length_append]; rfl
 rw [<- hH2] at hs2 ⊢
 clear hH2
 obtain ⟨v3,H3,p3,k3,x3,s3,c3,lv,sv,tv,hv,dv,ls,l,ts,homes,does,rfl,hpv,hts,hhs,hds,htl,hhl,hdl⟩ := goff hc H2 0 H.length hs2 (by omega) (by omega) (by omega)
 refine op_callN (by simp only [go_sem,binC]; exact k3) ?_
 obtain ⟨r1,r2,r3,r4⟩ := hpv
 have olv : one lv = true := by obtain ⟨_,a,rfl,_⟩ := r1; rfl
 have osv : one sv = true := by obtain ⟨_,a,rfl,_⟩ := r2; rfl
 have o1 := sl_one hts
 have o2 := sl_one hhs
 have o3 := sl_one hds
 have hl3 := x3.1
 have hx13 : AgX [H1.length] H1 H3 := xr.trans x3 (fun _ h _ => by cases h) (fun _ h _ => h)
 have hb1f := hx13.get hb1 (by simp; omega)
 have hb2f := hx13.get hb2 (by simp; omega)
 have hb1l := (List.getElem?_eq_some_iff.1 hb1f).1
 have hb2l := (List.getElem?_eq_some_iff.1 hb2f).1
 have hb2s : ∀ kk : Blk,(H3.set H.length kk)[H.length + 1]? = some ⟨[nilS,nilS,nilS],0,0,false,true⟩ := fun kk => by rw [List.getElem?_set_ne (by omega)]; exact hb2f
 simp only [go_sem,binC,hb1f,hb2s,olv,osv,o1,o2,o3]
 refine wpc_genH fun Hz hHz => ?_
 have xfz : AgX [H.length,H.length + 1] H3 Hz := by
  rw [hHz]
  exact (AgX.set H3 H.length _).trans (AgX.set _ (H.length + 1) _) (fun _ h _ => by simp only [List.mem_singleton] at h; simp [h]) (fun _ h _ => by simp only [List.mem_singleton] at h; simp [h])
 have hfP : Hz[H.length]? = some ⟨[lv,sv],0,0,false,true⟩ := by rw [hHz,List.getElem?_set_ne (by omega),List.getElem?_set_self hb1l]
 have hfQ : Hz[H.length + 1]? = some ⟨[tv,hv,dv],0,0,false,true⟩ := by rw [hHz,List.getElem?_set_self (by rw [List.length_set]; exact hb2l)]
 clear hHz
 have hvf : Sub (vwl H2.length [] H3) (vw 0 Hz) := (vwl_sub xfz (show H.length <= H2.length by omega) (xs' := []) fun b' h1 h2 h3 => ⟨by simp; omega,by simp⟩).trans (vwl0 _ _ _)
 refine wpc_ret ⟨Or.inr rfl,.tuple #[.agg #[lv,sv],.agg #[tv,hv,dv]],?_,?_⟩
 ·simp [resV,resL,res1,putE_get,notT,ptr,gc_of hfP,gc_of hfQ,inBlk_some,valOf]
 ·refine ⟨3,lv,sv,tv,hv,dv,ls,l,ts,homes,does,rfl,?_,r1.mono hvf,r2.mono hvf,r3,hts.mono hvf,hhs.mono hvf,hds.mono hvf,htl,hhl,hdl⟩
  exact (ht1.trans hx13 (zs := [H1.length]) (fun _ h _ => by cases h) (fun _ h _ => h)).trans xfz (zs := []) (fun b h1 h2 => by simp only [List.mem_singleton] at h1; omega) (fun b h1 h2 => by simp only [List.mem_cons,List.not_mem_nil,or_false] at h1; omega)
end Go.Proofs.YtbjeldblaclpnaaGreatI
end
section
set_option linter.unusedVariables false
set_option linter.unusedSimpArgs false
namespace Go.Proofs.YtbjeldblaclpnaaGreatI
open Go Go.RowKit
def c_iPlanOk : IFn := ⟨2,82,[.t 4],
 .seq (.reg none [⟨some 2,none,.box (.t 0)⟩,⟨some 3,none,.box (.t 1)⟩,⟨some 4,none,.mov (.c (.bool false))⟩])
 (.seq (.seq (.reg (some 24) [⟨some 10,none,.load true 2 (.t 2)⟩,⟨some 11,none,.call .q (.f 16) [.t 10]⟩,⟨some 12,none,.un .not (.t 11)⟩,
   ⟨some 13,none,.mov (.t 12)⟩,⟨some 14,some (13,false),.fad 0 (.t 3)⟩,⟨some 15,some (13,false),.load false 1 (.t 14)⟩,
   ⟨some 16,some (13,false),.call .q (.f 17) [.t 15]⟩,⟨some 17,some (13,false),.un .not (.t 16)⟩,⟨some 18,none,.pick (.t 13) (.c (.bool true)) (.t 17)⟩,
   ⟨some 19,none,.mov (.t 18)⟩,⟨some 20,some (19,false),.fad 1 (.t 3)⟩,⟨some 21,some (19,false),.load false 1 (.t 20)⟩,⟨some 22,some (19,false),.fad 0 (.t 2)⟩,
   ⟨some 23,some (19,false),.load false 1 (.t 22)⟩,⟨some 24,some (19,false),.len (.t 23)⟩,⟨some 25,some (19,false),.call .q (.f 18) [.t 21,.t 24]⟩,
   ⟨some 26,some (19,false),.un .not (.t 25)⟩,⟨some 27,none,.pick (.t 19) (.c (.bool true)) (.t 26)⟩,⟨some 28,none,.mov (.t 27)⟩,
   ⟨some 29,some (28,false),.fad 2 (.t 3)⟩,⟨some 30,some (28,false),.load false 1 (.t 29)⟩,⟨some 31,some (28,false),.fad 1 (.t 2)⟩,
   ⟨some 32,some (28,false),.load false 1 (.t 31)⟩,⟨some 33,some (28,false),.call .q (.f 19) [.t 32]⟩,⟨some 34,some (28,false),.call .q (.f 18) [.t 30,.t 33]⟩,
   ⟨some 35,some (28,false),.un .not (.t 34)⟩,⟨some 36,none,.pick (.t 28) (.c (.bool true)) (.t 35)⟩])
  (.cond (.t 36) (.seq (.reg none [⟨some 4,none,.mov (.c (.bool false))⟩])
   (.ret)) (.skip)))
 (.seq (.seq (.reg none [⟨some 37,none,.fad 1 (.t 3)⟩,⟨some 38,none,.load false 1 (.t 37)⟩,⟨some 39,none,.len (.t 38)⟩,⟨some 40,none,.mov (.c (.int .i64 0))⟩])
  (.block 0 (.loop (.seq (.reg none [⟨some 41,none,.bin .lss (.t 40) (.t 39)⟩])
   (.seq (.cond (.t 41) (.skip) (.exit 0))
   (.seq (.block 1 (.seq (.reg none [⟨some 42,none,.mov (.t 40)⟩,⟨some 43,none,.iad 1 (.t 38) (.t 40)⟩,⟨some 44,none,.load false 1 (.t 43)⟩,
      ⟨some 5,none,.mov (.t 42)⟩,⟨some 6,none,.mov (.t 44)⟩])
    (.seq (.reg none [⟨some 45,none,.load true 2 (.t 2)⟩,⟨some 46,none,.fad 0 (.t 3)⟩,⟨some 47,none,.load false 1 (.t 46)⟩,⟨some 48,none,.mov (.t 5)⟩,
      ⟨some 49,none,.mov (.t 6)⟩,⟨some 50,none,.call .q (.f 20) [.t 45,.t 47,.t 48,.t 49]⟩,⟨some 51,none,.un .not (.t 50)⟩])
    (.cond (.t 51) (.seq (.reg none [⟨some 4,none,.mov (.c (.bool false))⟩])
     (.ret)) (.skip)))))
   (.reg none [⟨some 52,none,.bin .add (.t 40) (.c (.int .i64 1))⟩,⟨some 40,none,.mov (.t 52)⟩])))))))
 (.seq (.reg none [⟨some 53,none,.load true 2 (.t 2)⟩,⟨some 54,none,.call .k (.f 21) [.t 53]⟩,⟨some 7,none,.mov (.t 54)⟩])
 (.seq (.seq (.reg none [⟨some 55,none,.fad 1 (.t 2)⟩,⟨some 56,none,.load false 1 (.t 55)⟩,⟨some 57,none,.call .k (.f 22) [.t 56]⟩,⟨some 58,none,.len (.t 57)⟩,
   ⟨some 59,none,.mov (.c (.int .i64 0))⟩])
  (.block 2 (.loop (.seq (.reg none [⟨some 60,none,.bin .lss (.t 59) (.t 58)⟩])
   (.seq (.cond (.t 60) (.skip) (.exit 2))
   (.seq (.block 3 (.seq (.reg none [⟨some 61,none,.mov (.t 59)⟩,⟨some 62,none,.iad 8 (.t 57) (.t 59)⟩,⟨some 63,none,.load true 8 (.t 62)⟩,
      ⟨some 9,none,.new [(.int .i64 0),(.int .i64 0),(.int .i64 0),(.int .i64 0),(.int .i64 0),(.int .i64 0),(.slice none 0 0),(.slice none 0 0)]⟩,
      ⟨some 8,none,.mov (.t 61)⟩,⟨none,none,.store 8 (.t 9) (.t 63)⟩])
    (.seq (.reg (some 15) [⟨some 64,none,.load true 2 (.t 2)⟩,⟨some 65,none,.fad 0 (.t 3)⟩,⟨some 66,none,.load false 1 (.t 65)⟩,⟨some 67,none,.fad 1 (.t 3)⟩,
      ⟨some 68,none,.load false 1 (.t 67)⟩,⟨some 69,none,.load true 8 (.t 9)⟩,⟨some 70,none,.mov (.t 7)⟩,⟨some 71,none,.mov (.t 8)⟩,
      ⟨some 72,none,.iad 2 (.t 70) (.t 71)⟩,⟨some 73,none,.load true 2 (.t 72)⟩,⟨some 74,none,.fad 2 (.t 3)⟩,⟨some 75,none,.load false 1 (.t 74)⟩,
      ⟨some 76,none,.mov (.t 8)⟩,⟨some 77,none,.iad 1 (.t 75) (.t 76)⟩,⟨some 78,none,.load false 1 (.t 77)⟩,
      ⟨some 79,none,.call .q (.f 23) [.t 64,.t 66,.t 68,.t 69,.t 73,.t 78]⟩,⟨some 80,none,.un .not (.t 79)⟩])
    (.cond (.t 80) (.seq (.reg none [⟨some 4,none,.mov (.c (.bool false))⟩])
     (.ret)) (.skip)))))
   (.reg none [⟨some 81,none,.bin .add (.t 59) (.c (.int .i64 1))⟩,⟨some 59,none,.mov (.t 81)⟩])))))))
 (.seq (.reg none [⟨some 4,none,.mov (.c (.bool true))⟩])
 (.ret))))))⟩
theorem hosts_all {l : List Int} : hostsB l = (List.range l.length).all fun j => inB (l.getD j 0) 0 2 := by
 rw [Bool.eq_iff_iff]
 unfold hostsB
 rw [List.all_eq_true,List.all_eq_true]
 constructor
 ·intro h i hi
  have hil : i < l.length := by simpa using hi
  have := h l[i] (List.getElem_mem hil)
  simpa [List.getD,hil] using this
 ·intro h x hx
  obtain ⟨i,hi,rfl⟩ := List.getElem_of_mem hx
  have := h i (by simpa using hi)
  simpa [List.getD,hi] using this
theorem allDo_hosts {n : Nat} {ls : List (Int × Int)} {l : List (TStep n)} {ts homes does : List Int} (h : hostsB does = false) : allDo n ls l ts homes does = false := by
 rw [Bool.eq_false_iff] at h ⊢
 intro h'
 refine h ?_
 rw [hosts_all]
 unfold allDo at h'
 rw [List.all_eq_true] at h' ⊢
 intro i hi
 have := h' i hi
 rw [Bool.and_eq_true] at this
 exact this.1
theorem iPlanOk_ok {F : Nat -> Option IFn} {f : Nat} (hf : F f = some c_iPlanOk) (gty : TypeP F 16) (gt : TrOk F 17) (ghk : HostsI F 18) (gc : ∀ n,CntOk F 19 n) (ghm : HomeI F 20) (ga : AtP F 21) (gl : ∀ n,AllP F 22 n) (gd : DoesOk F 23) : PlanOkV F f := by
 intro H n lv sv tw hw dw ls l ts homes does r1 r2 hsm r3 r4 r5
 have osv : one sv = true := by obtain ⟨_,a,rfl,_⟩ := r2; rfl
 obtain ⟨_,la,rfl,_⟩ := id r1
 obtain ⟨_,ta,rfl,_⟩ := id r3
 obtain ⟨_,ha,rfl,_⟩ := id r4
 obtain ⟨hd0,da,rfl,_⟩ := id r5
 refine QC.mk hf rfl ?_
 refine seq_reg ?_
 simp only [go_sem,binC,osv]
 refine wpc_gen fun H1 hH1 => ?_
 have hx1 : AgX [] H H1 := hH1 ▸ AgX.app [] _ _
 have hb : H1[H.length]? = some ⟨[.slice la ls.length ls.length,sv],0,0,false,true⟩ := hH1 ▸ get_new0 _ _
 have hb3 : H1[H.length + 1]? = some ⟨[.slice ta ts.length ts.length,.slice ha homes.length homes.length,.slice da does.length does.length],0,0,false,true⟩ := hH1 ▸ get_new _ _ 1
 clear hH1
 have hS := agx_sub hx1
 have hl1 := (List.getElem?_eq_some_iff.1 hb3).1
 have hcntz : progB n (ls,l) = true -> sizeV n (ls,l) = ((allL n l).length : Int) := sizeV_yes
 unfold planOkV
 show wpc F H.length _ _ _ (fin _ fun w _ => w = .bool (typeP n (ls,l) && (trK ts && (homesB ls.length homes && (decide ((does.length : Int) = sizeV n (ls,l)) && (allHome ls ts homes && allDo n ls l ts homes does))))) /\ scal w = true)
 generalize sizeV n (ls,l) = z at *
 refine seq_assoc (seq_regD ?_)
 simp only [go_sem,binC,gc_of hb,inBlk_some,osv]
 refine op_callQ (by simp only [go_sem,binC]; exact gty H1 n _ _ ls l (r1.mono hS) (r2.mono hS) hsm) ?_
 cases hT : typeP n (ls,l) with
 | false =>
   simp only [go_sem,binC]
   refine seq_cond (t := true) rfl ?_
   simp only [go_sem,binC]
   refine seq_assoc (seq_reg ?_)
   simp only [go_sem,binC]
   exact seq_ret ⟨Or.inr rfl,.bool false,(by (simp only [go_sem,binC]) <;> rfl),rfl,rfl⟩
 | true =>
 have hP : progB n (ls,l) = true := by
  unfold typeP at hT
  simp only [Bool.and_eq_true] at hT
  exact hT.1
 simp only [go_sem,binC,gc_of hb3,inBlk_some]
 refine op_callQ (by simp only [go_sem,binC]; exact gt.k H1 _ ts (r3.mono hS)) ?_
 cases hk : trK ts with
 | false =>
   simp only [go_sem,binC]
   refine seq_cond (t := true) rfl ?_
   simp only [go_sem,binC]
   refine seq_assoc (seq_reg ?_)
   simp only [go_sem,binC]
   exact seq_ret ⟨Or.inr rfl,.bool false,(by (simp only [go_sem,binC]) <;> rfl),rfl,rfl⟩
 | true =>
 simp only [go_sem,binC,gc_of hb,gc_of hb3,inBlk_some]
 refine op_callQ (by simp only [go_sem,binC]; exact ghk H1 _ homes ls.length (r4.mono hS)) ?_
 have hhB : (decide ((homes.length : Int) = ls.length) && hostsB homes) = homesB ls.length homes := by
  unfold homesB
  congr 1
  exact decide_eq_decide.2 (by omega)
 rw [hhB]
 cases hh : homesB ls.length homes with
 | false =>
   simp only [go_sem,binC]
   refine seq_cond (t := true) rfl ?_
   simp only [go_sem,binC]
   refine seq_assoc (seq_reg ?_)
   simp only [go_sem,binC]
   exact seq_ret ⟨Or.inr rfl,.bool false,(by (simp only [go_sem,binC]) <;> rfl),rfl,rfl⟩
 | true =>
 simp only [go_sem,binC,gc_of hb,gc_of hb3,inBlk_some]
 have hsz := hcntz hP
 have hlab : ls.all labB = true := progB_lab hP
 have hls4 : ls.length <= 4 := progB_len hP
 have hcnt : (allL n l).length <= 8 := progB_cnt hP hsm
 have hsl := allSL_len l
 have hho := homesB_iff.1 hh
 have hcw : Wr (cntL n l) = z := by
  rw [cntL_len]
  unfold Wr
  rw [wrap_id (by omega) (by omega),hsz]
 refine op_callQ (by simp only [go_sem,binC]; exact gc n H1 sv l (r2.mono hS)) ?_
 rw [hcw]
 simp only [go_sem,binC]
 refine op_callQ (by simp only [go_sem,binC]; exact ghk H1 _ does z (r5.mono hS)) ?_
 cases hhd : (decide ((does.length : Int) = z) && hostsB does) with
 | false =>
   have hfin : (decide ((does.length : Int) = z) && (allHome ls ts homes && allDo n ls l ts homes does)) = false := by
    rcases Bool.and_eq_false_iff.1 hhd with h | h
    ·rw [h]; rfl
    ·rw [allDo_hosts h,Bool.and_false,Bool.and_false]
   rw [hfin]
   simp only [go_sem,binC]
   refine seq_cond (t := true) rfl ?_
   simp only [go_sem,binC]
   refine seq_assoc (seq_reg ?_)
   simp only [go_sem,binC]
   exact seq_ret ⟨Or.inr rfl,.bool false,(by (simp only [go_sem,binC]) <;> rfl),rfl,rfl⟩
 | true =>
 rw [Bool.and_eq_true,decide_eq_true_eq] at hhd
 obtain ⟨hz,hdB⟩ := hhd
 rw [decide_eq_true hz]
 simp only [go_sem,binC]
 refine seq_cond (t := false) rfl ?_
 simp only [go_sem,binC]
 refine seq_skip (seq_assoc (seq_reg ?_))
 simp only [go_sem,binC,gc_of hb3,inBlk_some]
 refine seq_block (wpc_loop ?_)
 have r41 := r4.mono hS
 suffices hh : ∀ (k v : Nat) (e : Env),v + k = homes.length -> (∀ q,q < v -> hmB ls ts q (homes.getD q 0) = true) -> e 2 = ptr H.length 0 -> e 3 = ptr (H.length + 1) 0 -> e 38 = .slice ha homes.length homes.length -> e 39 = .int .i64 homes.length -> e 40 = .int .i64 v -> Go.Proofs.YtbjeldblaclpnaaGreatI.W F H.length _ e H1 _ from
  hh homes.length 0 _ (by omega) (fun q h => by omega) (by simp only [go_sem,binC]) (by simp only [go_sem,binC]) (by simp only [go_sem,binC]) (by simp only [go_sem,binC]) (by (simp only [go_sem,binC]) <;> rfl)
 intro k
 induction k with
 | zero =>
   intro v e hv hall e2 e3 e38 e39 e40
   have hAH : allHome ls ts homes = true := all_yes fun q hq => hall q (by have := hho.1; omega)
   rw [hAH]
   refine lp_step ?_
   refine seq_reg ?_
   simp only [go_sem,binC,e39,e40]
   refine seq_cond (t := false) (by simp only [go_sem,binC]; rw [decide_eq_false (by omega)]) ?_
   simp only [go_sem,binC]
   refine seq_exit ?_
   simp only [go_sem,binC,thenX_e,out_e,thenX_n]
   refine seq_reg ?_
   simp only [go_sem,binC,e2,gc_of hb,inBlk_some,osv]
   obtain ⟨wa,H2,k2,hx2,oa⟩ := ga H1 n _ sv ls l (r1.mono hS) (r2.mono hS) hsm hP
   refine op_callK (by simp only [go_sem,binC]; exact k2) ?_
   obtain ⟨aa,haa⟩ := oa.shape
   have hatl := atL_len ls (7,7) l
   rw [hatl] at haa
   subst haa
   simp only [go_sem,binC]
   have hb2 := hx2.get hb (by simp)
   have hb32 := hx2.get hb3 (by simp)
   have hx02 := hx1.tr hx2
   refine seq_assoc (seq_reg ?_)
   simp only [go_sem,binC,e2,gc_of hb2,inBlk_some]
   obtain ⟨wl,H4,k4,hx4,ol⟩ := gl n (vw 0 H) H2 sv l (agx_sub hx02) r2 (by omega)
   refine op_callK (by simp only [go_sem,binC]; exact k4) ?_
   obtain ⟨al,hal⟩ := ol.shape
   rw [hsl] at hal
   subst hal
   simp only [go_sem,binC]
   have oa4 := oa.keep (Nat.le_refl _) hx4 (fun _ _ => by simp)
   have hallat : (atL n ls (7,7) l).all labB = true := atL_lab hlab rfl l
   have hx14 := hx2.tr hx4
   have hl4 := hx14.1
   refine seq_block (wpc_loop ?_)
   suffices hh : ∀ (m j : Nat) (e : Env) (Hd : Heap),j + m = (allL n l).length -> AgX [] H4 Hd -> (∀ q,q < j -> (inB (does.getD q 0) 0 2 && doN n ls l ts homes q (does.getD q 0)) = true) -> e 2 = ptr H.length 0 -> e 3 = ptr (H.length + 1) 0 -> e 7 = .slice aa (allL n l).length (allL n l).length -> e 57 = .slice al (allL n l).length (allL n l).length -> e 58 = .int .i64 (allL n l).length -> e 59 = .int .i64 j -> Go.Proofs.YtbjeldblaclpnaaGreatI.W F H.length _ e Hd _ from
    hh (allL n l).length 0 _ H4 (by omega) (AgX.refl _ _) (fun q h => by omega) (by simp only [go_sem,binC,e2]) (by simp only [go_sem,binC,e3]) (by simp only [go_sem,binC]) (by simp only [go_sem,binC]) (by simp only [go_sem,binC]) (by (simp only [go_sem,binC]) <;> rfl)
   clear e2 e3 e38 e39 e40
   intro m
   induction m with
   | zero =>
     intro j e Hd hj hxd hdo e2 e3 e7 e57 e58 e59
     have hAD : allDo n ls l ts homes does = true := all_yes fun q hq => hdo q (by omega)
     refine lp_step ?_
     refine seq_reg ?_
     simp only [go_sem,binC,e58,e59]
     refine seq_cond (t := false) (by simp only [go_sem,binC]; rw [decide_eq_false (by omega)]) ?_
     simp only [go_sem,binC]
     refine seq_exit ?_
     simp only [go_sem,binC,thenX_e,out_e,thenX_n]
     refine seq_reg ?_
     simp only [go_sem,binC]
     rw [hAD]
     exact wpc_ret ⟨Or.inr rfl,.bool true,(by (simp only [go_sem,binC]) <;> rfl),rfl,rfl⟩
   | succ m ih2 =>
     intro j e Hd hj hxd hdo e2 e3 e7 e57 e58 e59
     have hjl : j < (allL n l).length := by omega
     have hja : j < (atL n ls (7,7) l).length := by omega
     have hjs : j < (allSL n l).length := by omega
     have hjd : j < does.length := by omega
     have hw2 : IntKind.i64.wrap ((j : Int) + 1) = ((j + 1 : Nat) : Int) := by rw [wrap_id (by omega) (by omega)]; omega
     have hx1d := hx14.tr hxd
     have hx0d := hx1.tr hx1d
     have hb2d := hx1d.get hb (by simp)
     have hb3d := hx1d.get hb3 (by simp)
     have hno : (inB (does.getD j 0) 0 2 && doN n ls l ts homes j (does.getD j 0)) = false -> allDo n ls l ts homes does = false := fun h => all_no hjd h
     have hin : inB (does.getD j 0) 0 2 = true := by
      rw [hosts_all] at hdB
      exact List.all_eq_true.1 hdB j (by simpa using hjd)
     have qd := inB_iff.1 hin
     have hdoe := doN_eq (ts := ts) (homes := homes) (h := does.getD j 0) hjs hja
     obtain ⟨db,do_,hdv,hdg⟩ := gcD (r5.mono (agx_sub hx0d)) hjd
     simp only [Value.slice.injEq,and_true] at hdv
     subst hdv
     obtain ⟨ba,ca,hwa,gca,rda⟩ := (oa4.keep (Nat.le_refl _) hxd (fun _ _ => by simp)).at hja
     rw [hatl] at hwa
     simp only [Value.slice.injEq,and_true] at hwa
     subst hwa
     obtain ⟨bs,cs,hws,gcs,rds⟩ := (ol.keep (Nat.le_refl _) hxd (fun _ _ => by simp)).at hjs
     rw [hsl] at hws
     simp only [Value.slice.injEq,and_true] at hws
     subst hws
     have hokj := progB_okA hP (List.getElem_mem hjs)
     have hoj : labB (atL n ls (7,7) l)[j] = true := List.all_eq_true.1 hallat _ (List.getElem_mem hja)
     generalize (atL n ls (7,7) l)[j] = hr at rda hoj hdoe
     generalize (allSL n l)[j] = sj at rds hokj hdoe
     obtain ⟨ra,rb⟩ := hr
     obtain ⟨_,_,rfl,⟨hq1,_⟩,⟨hq2,_⟩⟩ := rda
     simp only at hq1 hq2
     subst hq1 hq2
     have rdsc := rds
     obtain ⟨sk,sx,sa,sbb,sc,sg,tv,ev,tl,el,hs2,hcs,rg,otv,oev,_,_⟩ := anyS_rd rds
     subst hcs
     have hldd := hx0d.1
     refine lp_step ?_
     refine seq_reg ?_
     simp only [go_sem,binC,e58,e59]
     refine seq_cond (t := true) (by simp only [go_sem,binC]; rw [decide_eq_true (by omega)]) ?_
     simp only [go_sem,binC]
     refine seq_skip (seq_block (seq_reg ?_))
     simp only [go_sem,binC,e57,e59]
     refine ⟨⟨by omega,by omega⟩,?_⟩
     simp only [go_sem,binC,Int.toNat_natCast,Nat.zero_add,gcs,otv,oev]
     refine ⟨by omega,?_⟩
     refine wpc_gen fun H5 hH5 => ?_
     have hx5 : AgX [] Hd H5 := hH5 ▸ AgX.app [] _ _
     have hs5 : H5[Hd.length]? = some ⟨[.int .i64 sk,.int .i64 sx,.int .i64 sa,.int .i64 sbb,.int .i64 sc,.int .i64 sg,tv,ev],0,0,false,true⟩ := hH5 ▸ get_new0 _ _
     clear hH5
     have hb25 := hx5.get hb2d (by simp)
     have hb35 := hx5.get hb3d (by simp)
     have gca5 := gcK gca hx5
     have hdg5 := gcK hdg hx5
     have hx05 := hx0d.tr hx5
     refine seq_regD ?_
     simp only [go_sem,binC,e2,e3,e7,gc_of hb25,gc_of hb35,gc_of hs5,inBlk_some,osv,otv,oev]
     refine ⟨⟨by omega,by omega⟩,?_⟩
     simp only [go_sem,binC,Int.toNat_natCast,Nat.zero_add,gca5,e3,gc_of hb35,inBlk_some]
     refine ⟨⟨by omega,by omega⟩,?_⟩
     simp only [go_sem,binC,Int.toNat_natCast,Nat.mul_one,hdg5]
     refine op_callQ (by simp only [go_sem,binC]; exact gd H5 _ sv _ _ _ ls ts homes sj (ra,rb) (does.getD j 0) osv (r1.mono (agx_sub hx05)) hlab (r3.mono (agx_sub hx05)) (trK_iff.1 hk) (r4.mono (agx_sub hx05)) hho (Co.anyS.mono (agx_sub hx05) rdsc) hokj hoj qd.1 qd.2) ?_
     rw [<- hdoe]
     cases hst : doN n ls l ts homes j (does.getD j 0) with
     | false =>
       simp only [go_sem,binC]
       refine wpc_cond (t := true) rfl ?_
       simp only [go_sem,binC]
       refine seq_reg ?_
       simp only [go_sem,binC]
       refine wpc_ret ?_
       simp only [go_sem,binC,out_r,thenX_r]
       refine ⟨Or.inr rfl,.bool false,(by (simp only [go_sem,binC]) <;> rfl),?_,rfl⟩
       rw [hno (by rw [hin,hst]; rfl)]
     | true =>
       simp only [go_sem,binC]
       refine wpc_cond (t := false) rfl ?_
       simp only [go_sem,binC]
       refine wpc_skip ?_
       simp only [go_sem,binC,out_n,thenX_n]
       refine wpc_reg ?_
       simp only [go_sem,binC,e59,hw2]
       simp only [go_sem,binC,thenX_n]
       refine ih2 (j + 1) _ H5 (by omega) (hxd.tr hx5) (fun q hq => ?_) (by simp only [go_sem,binC,e2]) (by simp only [go_sem,binC,e3]) (by simp only [go_sem,binC,e7]) (by simp only [go_sem,binC,e57]) (by simp only [go_sem,binC,e58]) (by simp only [go_sem,binC])
       by_cases hqj : q = j
       ·subst hqj; rw [hin,hst]; rfl
       ·exact hdo q (by omega)
 | succ k ih =>
   intro v e hv hall e2 e3 e38 e39 e40
   have hvh : v < homes.length := by omega
   have hvl : v < ls.length := by have := hho.1; omega
   have hw1 : IntKind.i64.wrap ((v : Int) + 1) = ((v + 1 : Nat) : Int) := by rw [wrap_id (by omega) (by omega)]; omega
   obtain ⟨hb',ho',hhv,hhg⟩ := gcD r41 hvh
   simp only [Value.slice.injEq,and_true] at hhv
   subst hhv
   have hrg : 0 <= homes.getD v 0 /\ homes.getD v 0 <= 2 := by
    have := hho.2 homes[v] (List.getElem_mem hvh)
    simpa [List.getD,hvh] using this
   refine lp_step ?_
   refine seq_reg ?_
   simp only [go_sem,binC,e39,e40]
   refine seq_cond (t := true) (by simp only [go_sem,binC]; rw [decide_eq_true (by omega)]) ?_
   simp only [go_sem,binC]
   refine seq_skip (seq_block (seq_reg ?_))
   simp only [go_sem,binC,e38,e40]
   refine ⟨⟨by omega,by omega⟩,?_⟩
   simp only [go_sem,binC,Int.toNat_natCast,Nat.mul_one,hhg]
   refine seq_reg ?_
   simp only [go_sem,binC,e2,e3,gc_of hb,gc_of hb3,inBlk_some,osv]
   refine op_callQ (by simp only [go_sem,binC]; exact ghm H1 _ _ _ ls ts v (homes.getD v 0) osv (r1.mono hS) hlab (r3.mono hS) (trK_iff.1 hk) (by omega) (by omega) hrg.1 hrg.2) ?_
   cases hp : hmB ls ts v (homes.getD v 0) with
   | false =>
     have hAH : allHome ls ts homes = false := all_no hvl hp
     simp only [go_sem,binC]
     refine wpc_cond (t := true) rfl ?_
     simp only [go_sem,binC]
     refine seq_reg ?_
     simp only [go_sem,binC]
     refine wpc_ret ?_
     simp only [go_sem,binC,out_r,thenX_r]
     refine ⟨Or.inr rfl,.bool false,(by (simp only [go_sem,binC]) <;> rfl),?_,rfl⟩
     rw [hAH]
     rfl
   | true =>
     simp only [go_sem,binC]
     refine wpc_cond (t := false) rfl ?_
     simp only [go_sem,binC]
     refine wpc_skip ?_
     simp only [go_sem,binC,out_n,thenX_n]
     refine wpc_reg ?_
     simp only [go_sem,binC,e40,hw1]
     simp only [go_sem,binC,thenX_n]
     refine ih (v + 1) _ (by omega) (fun q hq => ?_) (by simp only [go_sem,binC,e2]) (by simp only [go_sem,binC,e3]) (by simp only [go_sem,binC,e38]) (by simp only [go_sem,binC,e39]) (by simp only [go_sem,binC])
     by_cases hqv : q = v
     ·subst hqv; exact hp
     ·exact hall q (by omega)
end Go.Proofs.YtbjeldblaclpnaaGreatI
end
section
set_option linter.unusedVariables false
set_option linter.unusedSimpArgs false
namespace Go.Proofs.YtbjeldblaclpnaaGreatI
open Go Go.RowKit
theorem homesB_rg {k : Nat} {homes : List Int} (h : homesB k homes = true) {v : Nat} (hv : v < k) : 0 <= homes.getD v 0 /\ homes.getD v 0 <= 2 := by
 obtain ⟨h1,h2⟩ := homesB_iff.1 h
 have hh : v < homes.length := by omega
 rw [List.getD_eq_getElem?_getD,List.getElem?_eq_getElem hh]
 exact h2 _ (List.getElem_mem hh)
theorem planOkV_iff {n : Nat} {p : TProg n} {ts homes does : List Int} : planOkV n p ts homes does = true ↔ typeP n p = true /\ trK ts = true /\ homesB p.1.length homes = true /\ (does.length : Int) = sizeV n p /\ (∀ v,v < p.1.length -> hmB p.1 ts v (homes.getD v 0) = true) /\ (∀ j,j < does.length -> (0 <= does.getD j 0 /\ does.getD j 0 <= 2) /\ doN n p.1 p.2 ts homes j (does.getD j 0) = true) := by
 unfold planOkV allHome allDo
 simp only [Bool.and_eq_true,decide_eq_true_eq,List.all_eq_true,List.mem_range,inB_iff]
end Go.Proofs.YtbjeldblaclpnaaGreatI
end
section
set_option linter.unusedVariables false
set_option linter.unusedSimpArgs false
namespace Go.Proofs.YtbjeldblaclpnaaGreatI
open Go Go.RowKit
def mapA (T : Shal -> Shal) (s : AnyS) : AnyS := ⟨s.1,mapT T (s.1 + 1) s.2⟩
theorem allS_map (T : Shal -> Shal) : ∀ (n : Nat) (s : TStep n),allS n (mapT T n s) = (allS n s).map (mapA T)
 | 0,s => s.elim
 | n + 1,(k,x,v,g,th,el) => by
   have go : ∀ l : List (TStep n),allSL n (l.map (mapT T n)) = (allSL n l).map (mapA T) := fun l => by
    unfold allSL
    rw [List.map_map,List.map_flatten,List.map_map]
    congr 1
    exact List.map_congr_left fun a _ => allS_map T n a
   rw [mapT_succ,allS_succ,allS_succ,List.map_cons,List.map_append,go,go]
   rfl
theorem allSL_map (T : Shal -> Shal) {n : Nat} (l : List (TStep n)) : allSL n (l.map (mapT T n)) = (allSL n l).map (mapA T) := by
 unfold allSL
 rw [List.map_map,List.map_flatten,List.map_map]
 congr 1
 exact List.map_congr_left fun a _ => allS_map T n a
theorem shA_map (T : Shal -> Shal) (s : AnyS) : shA (mapA T s) = T (shA s) := rfl
theorem tset_or0 : ∀ a b : Fin 8,∀ r : Fin 6,tset ([[0,1,2],[0,2,1],[1,0,2],[1,2,0],[2,0,1],[2,1,0]].getD r.val []) (orS (a.val : Int) b.val) = orS (tset ([[0,1,2],[0,2,1],[1,0,2],[1,2,0],[2,0,1],[2,1,0]].getD r.val []) a.val) (tset ([[0,1,2],[0,2,1],[1,0,2],[1,2,0],[2,0,1],[2,1,0]].getD r.val []) b.val) := by decide +kernel
theorem tset_or {row : List Int} (hr : rowB row 3 = true) {a b : Int} (ha : R7 a) (hb : R7 b) : tset row (orS a b) = orS (tset row a) (tset row b) := by
 obtain ⟨x,rfl⟩ := fin8 ha
 obtain ⟨y,rfl⟩ := fin8 hb
 rcases row3 hr with rfl | rfl | rfl | rfl | rfl | rfl
 ·exact tset_or0 x y 0
 ·exact tset_or0 x y 1
 ·exact tset_or0 x y 2
 ·exact tset_or0 x y 3
 ·exact tset_or0 x y 4
 ·exact tset_or0 x y 5
theorem tset_zero {row : List Int} (hr : rowB row 3 = true) : tset row 0 = 0 := congrArg Prod.fst (tlab_zero hr)
theorem foldl_or {row : List Int} (hr : rowB row 3 = true) : ∀ (xs : List Int) (a : Int),R7 a -> (∀ x ∈ xs,R7 x) -> (xs.map (tset row)).foldl orS (tset row a) = tset row (xs.foldl orS a)
 | [],_,_,_ => rfl
 | x :: xs,a,h,hx => by
   have hx0 := hx x List.mem_cons_self
   show (xs.map (tset row)).foldl orS (orS (tset row a) (tset row x)) = _
   rw [<- tset_or hr h hx0]
   exact foldl_or hr xs _ (orS_bd h hx0) fun y hy => hx y (List.mem_cons_of_mem _ hy)
theorem stT_turn {row : List Int} (hr : rowB row 3 = true) {ls : List (Int × Int)} (hl : ls.all labB = true) : ∀ (n : Nat) (s : TStep n),stT n (turnLH row ls) (mapT (turnH row) n s) = tset row (stT n ls s)
 | 0,s => s.elim
 | n + 1,(k,x,v,g,th,el) => by
   have go : ∀ l : List (TStep n),stL n (turnLH row ls) (l.map (mapT (turnH row) n)) = tset row (stL n ls l) := fun l => by
    unfold stL
    rw [List.map_map,<- foldl_or hr _ _ ⟨by omega,by omega⟩ (fun y hy => by
     obtain ⟨a,_,rfl⟩ := List.mem_map.1 hy
     exact stT_bd hl n a),tset_zero hr,List.map_map]
    congr 1
    exact List.map_congr_left fun a _ => stT_turn hr hl n a
   rw [mapT_succ,stT_succ,stT_succ,go,go]
   have h1 : (if k = 1 then ((turnLH row ls).getD x.toNat (0,0)).2 else 0) = tset row (if k = 1 then (ls.getD x.toNat (0,0)).2 else 0) := by
    split
    ·rw [turnLH_getD hr]; rfl
    ·exact (tset_zero hr).symm
   have h0 : R7 (if k = 1 then (ls.getD x.toNat (0,0)).2 else 0) := by
    split
    ·exact (labB_iff.1 (lab_getD hl x.toNat)).2
    ·exact ⟨by omega,by omega⟩
   show orS (if k = 1 then ((turnLH row ls).getD x.toNat (0,0)).2 else 0) _ = _
   rw [h1,tset_or hr h0 (orS_bd (stL_bd hl th) (stL_bd hl el)),tset_or hr (stL_bd hl th) (stL_bd hl el)]
theorem stA_turn {row : List Int} (hr : rowB row 3 = true) {ls : List (Int × Int)} (hl : ls.all labB = true) (s : AnyS) : stA (turnLH row ls) (mapA (turnH row) s) = tset row (stA ls s) := stT_turn hr hl _ s.2
def turnT (row ts : List Int) : Nat -> List Int
 | 0 => [0,0,0]
 | i + 1 => (turnT row ts i).set (row.getD i 0).toNat (tset row (ts.getD i 0))
theorem turnT_len (row ts : List Int) : ∀ i,(turnT row ts i).length = 3
 | 0 => rfl
 | i + 1 => by rw [turnT,List.length_set]; exact turnT_len row ts i
theorem turnT_rg {row ts : List Int} (hr : rowB row 3 = true) (ht : ∀ x ∈ ts,R7 x) : ∀ i,∀ x ∈ turnT row ts i,R7 x
 | 0 => by intro x hx; simp [turnT] at hx; subst hx; exact ⟨by omega,by omega⟩
 | i + 1 => by
   intro x hx
   rcases List.mem_or_eq_of_mem_set hx with h | rfl
   ·exact turnT_rg hr ht i x h
   ·refine tset_bd hr ?_
    rw [List.getD_eq_getElem?_getD]
    cases h : ts[i]? with
    | none => exact ⟨by simp,by simp⟩
    | some y => exact ht y (List.mem_of_getElem? h)
theorem trP3 {ts : List Int} (h : trP ts) : ∃ x y z,ts = [x,y,z] /\ R7 x /\ R7 y /\ R7 z /\ hasB x 0 = true /\ hasB y 1 = true /\ hasB z 2 = true := by
 obtain ⟨h1,h2⟩ := h
 match ts,h1,h2 with
 | [x,y,z],_,h2 =>
   have a := h2 0 (by simp); have b := h2 1 (by simp); have c := h2 2 (by simp)
   exact ⟨x,y,z,rfl,inB_iff.1 a.1,inB_iff.1 b.1,inB_iff.1 c.1,a.2,b.2,c.2⟩
theorem turnT_ok {row ts : List Int} (hr : rowB row 3 = true) (ht : trP ts) : trP (turnT row ts 3) := by
 obtain ⟨x,y,z,rfl,hx,hy,hz,bx,by_,bz⟩ := trP3 ht
 have tx := tset_bd hr hx; have ty := tset_bd hr hy; have tz := tset_bd hr hz
 have ex := tset_has (h := 0) hr hx (by omega); have ey := tset_has (h := 1) hr hy (by omega); have ez := tset_has (h := 2) hr hz (by omega)
 rw [bx] at ex; rw [by_] at ey; rw [bz] at ez
 refine trK_iff.1 ?_
 have ix := inB_iff.2 tx; have iy := inB_iff.2 ty; have iz := inB_iff.2 tz
 rw [show turnT row [x,y,z] 3 = (([0,0,0].set (row.getD 0 0).toNat (tset row x)).set (row.getD 1 0).toNat (tset row y)).set (row.getD 2 0).toNat (tset row z) from rfl]
 generalize tset row x = x' at *
 generalize tset row y = y' at *
 generalize tset row z = z' at *
 rcases row3 hr with rfl | rfl | rfl | rfl | rfl | rfl
 all_goals
  simp [nameO] at ex ey ez
  simp [trK,List.range_succ,ix,iy,iz,ex,ey,ez]
theorem byS_turn {row ts : List Int} (hr : rowB row 3 = true) (ht : trP ts) {h : Int} (hh : 0 <= h /\ h <= 2) : byS (turnT row ts 3) (nameO row h) 3 = tset row (byS ts h 3) := by
 obtain ⟨x,y,z,rfl,hx,hy,hz,_⟩ := trP3 ht
 have ex := tset_has hr hx hh; have ey := tset_has hr hy hh; have ez := tset_has hr hz hh
 rw [show turnT row [x,y,z] 3 = (([0,0,0].set (row.getD 0 0).toNat (tset row x)).set (row.getD 1 0).toNat (tset row y)).set (row.getD 2 0).toNat (tset row z) from rfl]
 generalize tset row x = x' at *
 generalize tset row y = y' at *
 generalize tset row z = z' at *
 generalize nameO row h = h' at *
 rcases row3 hr with rfl | rfl | rfl | rfl | rfl | rfl
 all_goals
  simp only [byS,List.getD_cons_zero,List.getD_cons_succ,List.set,Int.toNat_zero,Int.toNat_one,show ((2 : Int).toNat) = 2 from rfl,ex,ey,ez]
  cases hasB x h <;> cases hasB y h <;> cases hasB z h <;> decide +kernel
theorem map_getD {row homes : List Int} {v : Nat} (hv : v < homes.length) : (homes.map (nameO row)).getD v 0 = nameO row (homes.getD v 0) := by
 rw [List.getD_eq_getElem?_getD,List.getD_eq_getElem?_getD,List.getElem?_map,List.getElem?_eq_getElem hv]
 rfl
theorem homesB_turn {row homes : List Int} (hr : rowB row 3 = true) {k : Nat} (h : homesB k homes = true) : homesB k (homes.map (nameO row)) = true := by
 obtain ⟨h1,h2⟩ := homesB_iff.1 h
 refine homesB_iff.2 ⟨by rw [List.length_map]; exact h1,fun x hx => ?_⟩
 obtain ⟨y,hy,rfl⟩ := List.mem_map.1 hx
 exact nameO_bd hr (h2 y hy)
theorem hmB_turn {row ts : List Int} {ls : List (Int × Int)} (hr : rowB row 3 = true) (hl : ls.all labB = true) (ht : trP ts) {v h : Int} (hh : 0 <= h /\ h <= 2) : hmB (turnLH row ls) (turnT row ts 3) v (nameO row h) = hmB ls ts v h := by
 have hb := labB_iff.1 (lab_getD hl v.toNat)
 unfold hmB
 rw [turnLH_getD hr,byS_turn hr ht hh]
 show (hasB (tset row _) _ && witB (tset row _) _) = _
 have hby := byS_lt ts h 3
 have h8 : (2 : Int) ^ 3 = 8 := by decide
 rw [tset_has hr hb.1 hh,(tset_both hr hb.2 ⟨hby.1,by omega⟩).2]
theorem doesB_turn {row ts homes : List Int} {ls : List (Int × Int)} (hr : rowB row 3 = true) (hl : ls.all labB = true) (ht : trP ts) (hho : homesP ls.length homes) {s : Shal} {st : Int} {own : Int × Int} {h : Int} (hs : shB ls.length s = true) (hst : R7 st) (hown : labB own = true) (hh : 0 <= h /\ h <= 2) : doesB (turnLH row ls) (turnT row ts 3) (homes.map (nameO row)) (turnH row s) (tset row st) (tlab row own) (nameO row h) = doesB ls ts homes s st own h := by
 have ho := labB_iff.1 hown
 have hby := byS_lt ts h 3
 have h8 : (2 : Int) ^ 3 = 8 := by decide
 have hm : ∀ v : Int,0 <= v /\ v < ls.length -> (homes.map (nameO row)).getD v.toNat 0 = nameO row (homes.getD v.toNat 0) /\ (0 <= homes.getD v.toNat 0 /\ homes.getD v.toNat 0 <= 2) := fun v hv => by
  have hlt : v.toNat < homes.length := by rw [hho.1]; omega
  refine ⟨map_getD hlt,?_⟩
  rw [List.getD_eq_getElem?_getD,List.getElem?_eq_getElem hlt]
  exact hho.2 _ (List.getElem_mem hlt)
 have hvar : ∀ v : Int,0 <= v /\ v < ls.length -> hasB (tlab row own).1 ((homes.map (nameO row)).getD v.toNat 0) = hasB own.1 (homes.getD v.toNat 0) := fun v hv => by
  rw [(hm v hv).1]
  exact tset_has hr ho.1 (hm v hv).2
 have hmk : (makesL (turnH row s)).all (mkP (turnLH row ls) (homes.map (nameO row)) (tlab row own) (nameO row h)) = (makesL s).all (mkP ls homes own h) := by
  show (makesL s).all _ = _
  rw [Bool.eq_iff_iff,List.all_eq_true,List.all_eq_true]
  refine forall_congr' fun v => imp_congr_right fun hv => ?_
  have hin := makesL_in hs v hv
  unfold mkP
  rw [hvar v hin,turnLH_getD hr]
  show (hasB (tset row _) _ && _) = true ↔ _
  rw [tset_has hr (labB_iff.1 (lab_getD hl v.toNat)).1 hh]
 unfold doesB
 rw [hmk,byS_turn hr ht hh,(tset_both hr hst ⟨hby.1,by omega⟩).2]
 have hx : varB ls.length s.2.1 = true := by
  unfold shB at hs
  rw [Bool.and_eq_true] at hs
  exact hs.1
 have hxi := inB_iff.1 hx
 rw [show (turnH row s).1 = s.1 from rfl,show (turnH row s).2.1 = s.2.1 from rfl,hvar s.2.1 (by omega)]
 show (hasB (tset row own.1) (nameO row h) && _ && _) = _
 rw [tset_has hr ho.1 hh]
theorem planOkV_turn {n : Nat} {ls : List (Int × Int)} {l : List (TStep n)} {row ts homes does : List Int} (h : planOkV n (ls,l) ts homes does = true) (hr : rowB row 3 = true) : planOkV n (turnLH row ls,l.map (mapT (turnH row) n)) (turnT row ts 3) (homes.map (nameO row)) (does.map (nameO row)) = true := by
 obtain ⟨a1,a2,a3,a4,a5,a6⟩ := planOkV_iff.1 h
 have hP : progB n (ls,l) = true := by
  unfold typeP at a1
  rw [Bool.and_eq_true] at a1
  exact a1.1
 have hl : ls.all labB = true := progB_lab hP
 have ht := trK_iff.1 a2
 have hho := homesB_iff.1 a3
 simp only at a3 a5 a6 hho
 have hlen : (turnLH row ls).length = ls.length := turnLH_len row ls
 refine planOkV_iff.2 ⟨by rw [typeP_turn hP hr]; exact a1,trK_iff.2 (turnT_ok hr ht),?_,?_,fun v hv => ?_,fun j hj => ?_⟩
 ·show homesB (turnLH row ls).length _ = true
  rw [hlen]
  exact homesB_turn hr a3
 ·rw [sizeV_yes (turnP_ok hP hr),List.length_map,allL_map,List.length_map,a4,sizeV_yes hP]
 ·replace hv : v < (turnLH row ls).length := hv
  rw [hlen] at hv
  show hmB (turnLH row ls) _ _ _ = true
  rw [map_getD (by rw [hho.1]; exact hv),hmB_turn hr hl ht (homesB_rg a3 hv)]
  exact a5 v hv
 ·rw [List.length_map] at hj
  rw [map_getD hj]
  obtain ⟨b1,b2⟩ := a6 j hj
  refine ⟨nameO_bd hr b1,?_⟩
  have hz : (does.length : Int) = ((allL n l).length : Int) := by rw [a4,sizeV_yes hP]
  have j1 : j < (allSL n l).length := by rw [allSL_len]; omega
  have j2 : j < (atL n ls (7,7) l).length := by rw [atL_len]; omega
  have j3 : j < (allSL n (l.map (mapT (turnH row) n))).length := by rw [allSL_map,List.length_map]; exact j1
  have hat : atL n (turnLH row ls) (7,7) (l.map (mapT (turnH row) n)) = (atL n ls (7,7) l).map (tlab row) := by
   have := atL_turn hr hl (h := (7,7)) rfl l
   rwa [tlab_any hr] at this
  have j4 : j < (atL n (turnLH row ls) (7,7) (l.map (mapT (turnH row) n))).length := by rw [hat,List.length_map]; exact j2
  show doN n (turnLH row ls) (l.map (mapT (turnH row) n)) _ _ j _ = true
  rw [doN_eq j3 j4]
  rw [doN_eq j1 j2] at b2
  have e1 : (allSL n (l.map (mapT (turnH row) n)))[j] = mapA (turnH row) (allSL n l)[j] := by simp only [allSL_map,List.getElem_map]
  have e2 : (atL n (turnLH row ls) (7,7) (l.map (mapT (turnH row) n)))[j] = tlab row (atL n ls (7,7) l)[j] := by simp only [hat,List.getElem_map]
  rw [e1,e2,shA_map,stA_turn hr hl]
  have hok := progB_okA hP (List.getElem_mem j1)
  have hst : R7 (stA ls (allSL n l)[j]) := stT_bd hl _ _
  rw [doesB_turn hr hl ht hho hok.1 hst (List.all_eq_true.1 (atL_lab hl rfl l) _ (List.getElem_mem j2)) b1]
  exact b2
end Go.Proofs.YtbjeldblaclpnaaGreatI
end
section
set_option linter.unusedVariables false
set_option linter.unusedSimpArgs false
namespace Go.Proofs.YtbjeldblaclpnaaGreatI
open Go Go.RowKit
def c_lawTPl : IFn := ⟨2,137,[.t 4],
 .seq (.reg none [⟨some 4,none,.mov (.c (.bool false))⟩])
 (.seq (.seq (.reg none [⟨some 16,none,.mov (.t 0)⟩,⟨some 17,none,.len (.t 16)⟩,⟨some 18,none,.bin .gtr (.t 17) (.c (.int .i64 1048576))⟩,
   ⟨some 19,none,.mov (.t 18)⟩,⟨some 20,some (19,false),.mov (.t 1)⟩,⟨some 21,some (19,false),.len (.t 20)⟩,
   ⟨some 22,some (19,false),.bin .gtr (.t 21) (.c (.int .i64 1048576))⟩,⟨some 23,none,.pick (.t 19) (.c (.bool true)) (.t 22)⟩])
  (.cond (.t 23) (.seq (.reg none [⟨some 4,none,.mov (.c (.bool true))⟩])
   (.ret)) (.skip)))
 (.seq (.reg none [⟨some 25,none,.mov (.t 0)⟩,⟨some 26,none,.call .k (.f 4) [.t 25]⟩,⟨some 24,none,.mov (.t 26)⟩,⟨some 27,none,.ext (.t 24) 0⟩,
   ⟨some 28,none,.ext (.t 24) 1⟩,⟨some 5,none,.new [(.slice none 0 0),(.slice none 0 0)]⟩,
   ⟨some 6,none,.new [(.slice none 0 0),(.slice none 0 0),(.slice none 0 0)]⟩,⟨none,none,.store 2 (.t 5) (.t 27)⟩,⟨none,none,.store 3 (.t 6) (.t 28)⟩])
 (.seq (.reg none [⟨some 30,none,.mov (.t 1)⟩,⟨some 31,none,.call .k (.f 5) [.t 30]⟩,⟨some 29,none,.mov (.t 31)⟩,⟨some 32,none,.ext (.t 29) 0⟩,
   ⟨some 33,none,.ext (.t 29) 1⟩,⟨some 7,none,.mov (.t 32)⟩,⟨some 8,none,.mov (.t 33)⟩])
 (.seq (.reg none [⟨some 34,none,.load true 2 (.t 5)⟩,⟨some 35,none,.load true 3 (.t 6)⟩,⟨some 36,none,.call .q (.f 6) [.t 34,.t 35]⟩,
   ⟨some 9,none,.mov (.t 36)⟩])
 (.seq (.seq (.reg none [⟨some 37,none,.mov (.t 9)⟩,⟨some 38,none,.load true 2 (.t 5)⟩,⟨some 39,none,.load true 3 (.t 6)⟩,
   ⟨some 40,none,.call .q (.f 7) [.t 38,.t 39]⟩,⟨some 41,none,.beq true (.t 37) (.t 40)⟩,⟨some 42,none,.mov (.t 41)⟩,⟨some 43,some (42,false),.mov (.t 9)⟩,
   ⟨some 44,some (42,false),.un .not (.t 43)⟩,⟨some 45,none,.pick (.t 42) (.c (.bool true)) (.t 44)⟩,⟨some 46,none,.mov (.t 45)⟩,
   ⟨some 47,some (46,false),.mov (.t 8)⟩,⟨some 48,some (46,false),.call .q (.f 8) [.t 47,(.c (.int .i64 3))]⟩,⟨some 49,some (46,false),.un .not (.t 48)⟩,
   ⟨some 50,none,.pick (.t 46) (.c (.bool true)) (.t 49)⟩])
  (.cond (.t 50) (.seq (.reg none [⟨some 51,none,.mov (.t 9)⟩,⟨some 52,none,.load true 2 (.t 5)⟩,⟨some 53,none,.load true 3 (.t 6)⟩,
    ⟨some 54,none,.call .q (.f 7) [.t 52,.t 53]⟩,⟨some 55,none,.beq false (.t 51) (.t 54)⟩,⟨some 56,none,.mov (.t 55)⟩,⟨some 57,some (56,true),.mov (.t 7)⟩,
    ⟨some 58,some (56,true),.mov (.t 8)⟩,⟨some 59,some (56,true),.call .q (.f 9) [.t 57,.t 58]⟩,⟨some 60,some (56,true),.mov (.t 7)⟩,
    ⟨some 61,some (56,true),.mov (.t 8)⟩,⟨some 62,some (56,true),.call .q (.f 10) [.t 60,.t 61]⟩,⟨some 63,some (56,true),.bin .eql (.t 59) (.t 62)⟩,
    ⟨some 64,none,.pick (.t 56) (.t 63) (.c (.bool false))⟩,⟨some 4,none,.mov (.t 64)⟩])
   (.ret)) (.skip)))
 (.seq (.reg none [⟨some 66,none,.load true 2 (.t 5)⟩,⟨some 67,none,.mov (.t 8)⟩,⟨some 68,none,.call .k (.f 11) [.t 66,.t 67]⟩,⟨some 65,none,.mov (.t 68)⟩,
   ⟨some 69,none,.ext (.t 65) 0⟩,⟨some 70,none,.ext (.t 65) 1⟩,⟨some 10,none,.new [(.slice none 0 0),(.slice none 0 0)]⟩,⟨none,none,.store 2 (.t 10) (.t 69)⟩,
   ⟨some 11,none,.mov (.t 70)⟩])
 (.seq (.reg none [⟨some 71,none,.mks 1 3 8 [(.int .i64 0)] (.c (.int .i64 3)) (.c (.int .i64 3))⟩,
   ⟨some 72,none,.build [(.slice none 0 0),(.slice none 0 0),(.slice none 0 0)] [(0,1,(.t 71))]⟩,
   ⟨some 12,none,.new [(.slice none 0 0),(.slice none 0 0),(.slice none 0 0)]⟩,⟨none,none,.store 3 (.t 12) (.t 72)⟩])
 (.seq (.seq (.reg none [⟨some 13,none,.mov (.c (.int .i64 0))⟩])
  (.block 0 (.loop (.seq (.seq (.reg none [⟨some 73,none,.mov (.t 13)⟩,⟨some 74,none,.bin .lss (.t 73) (.c (.int .i64 3))⟩])
    (.cond (.t 74) (.skip) (.exit 0)))
   (.seq (.block 1 (.reg (some 13) [⟨some 77,none,.fad 0 (.t 12)⟩,⟨some 78,none,.load false 1 (.t 77)⟩,⟨some 79,none,.mov (.t 8)⟩,⟨some 80,none,.mov (.t 13)⟩,
     ⟨some 81,none,.iad 1 (.t 79) (.t 80)⟩,⟨some 82,none,.load false 1 (.t 81)⟩,⟨some 83,none,.fad 0 (.t 6)⟩,⟨some 84,none,.load false 1 (.t 83)⟩,
     ⟨some 85,none,.mov (.t 13)⟩,⟨some 86,none,.iad 1 (.t 84) (.t 85)⟩,⟨some 87,none,.load false 1 (.t 86)⟩,⟨some 88,none,.mov (.t 8)⟩,
     ⟨some 89,none,.call .q (.f 9) [.t 87,.t 88]⟩,⟨some 90,none,.iad 1 (.t 78) (.t 82)⟩,⟨none,none,.store 1 (.t 90) (.t 89)⟩]))
   (.reg none [⟨some 75,none,.mov (.t 13)⟩,⟨some 76,none,.bin .add (.t 75) (.c (.int .i64 1))⟩,⟨some 13,none,.mov (.t 76)⟩]))))))
 (.seq (.seq (.reg none [⟨some 14,none,.mov (.c (.int .i64 0))⟩])
  (.block 2 (.loop (.seq (.seq (.reg none [⟨some 91,none,.mov (.t 14)⟩,⟨some 92,none,.fad 1 (.t 6)⟩,⟨some 93,none,.load false 1 (.t 92)⟩,
     ⟨some 94,none,.len (.t 93)⟩,⟨some 95,none,.bin .lss (.t 91) (.t 94)⟩])
    (.cond (.t 95) (.skip) (.exit 2)))
   (.seq (.block 3 (.reg (some 11) [⟨some 98,none,.fad 1 (.t 12)⟩,⟨some 99,none,.load false 1 (.t 98)⟩,⟨some 100,none,.mov (.t 8)⟩,
     ⟨some 101,none,.fad 1 (.t 6)⟩,⟨some 102,none,.load false 1 (.t 101)⟩,⟨some 103,none,.mov (.t 14)⟩,⟨some 104,none,.iad 1 (.t 102) (.t 103)⟩,
     ⟨some 105,none,.load false 1 (.t 104)⟩,⟨some 106,none,.iad 1 (.t 100) (.t 105)⟩,⟨some 107,none,.load false 1 (.t 106)⟩,
     ⟨some 108,none,.lit 1 3 1 [(.int .i64 0)] [(0,1,(.t 107))]⟩,⟨some 109,none,.app 1 3 8 false (.t 99) (.t 108)⟩,⟨some 110,none,.fad 1 (.t 12)⟩,
     ⟨none,none,.store 1 (.t 110) (.t 109)⟩]))
   (.reg none [⟨some 96,none,.mov (.t 14)⟩,⟨some 97,none,.bin .add (.t 96) (.c (.int .i64 1))⟩,⟨some 14,none,.mov (.t 97)⟩]))))))
 (.seq (.seq (.reg none [⟨some 15,none,.mov (.c (.int .i64 0))⟩])
  (.block 4 (.loop (.seq (.seq (.reg none [⟨some 111,none,.mov (.t 15)⟩,⟨some 112,none,.fad 2 (.t 6)⟩,⟨some 113,none,.load false 1 (.t 112)⟩,
     ⟨some 114,none,.len (.t 113)⟩,⟨some 115,none,.bin .lss (.t 111) (.t 114)⟩])
    (.cond (.t 115) (.skip) (.exit 4)))
   (.seq (.block 5 (.reg (some 11) [⟨some 118,none,.fad 2 (.t 12)⟩,⟨some 119,none,.load false 1 (.t 118)⟩,⟨some 120,none,.mov (.t 8)⟩,
     ⟨some 121,none,.fad 2 (.t 6)⟩,⟨some 122,none,.load false 1 (.t 121)⟩,⟨some 123,none,.mov (.t 15)⟩,⟨some 124,none,.iad 1 (.t 122) (.t 123)⟩,
     ⟨some 125,none,.load false 1 (.t 124)⟩,⟨some 126,none,.iad 1 (.t 120) (.t 125)⟩,⟨some 127,none,.load false 1 (.t 126)⟩,
     ⟨some 128,none,.lit 1 3 1 [(.int .i64 0)] [(0,1,(.t 127))]⟩,⟨some 129,none,.app 1 3 8 false (.t 119) (.t 128)⟩,⟨some 130,none,.fad 2 (.t 12)⟩,
     ⟨none,none,.store 1 (.t 130) (.t 129)⟩]))
   (.reg none [⟨some 116,none,.mov (.t 15)⟩,⟨some 117,none,.bin .add (.t 116) (.c (.int .i64 1))⟩,⟨some 15,none,.mov (.t 117)⟩]))))))
 (.seq (.reg none [⟨some 131,none,.mov (.t 11)⟩,⟨some 132,none,.mov (.t 131)⟩,⟨some 133,some (132,true),.load true 2 (.t 10)⟩,
   ⟨some 134,some (132,true),.load true 3 (.t 12)⟩,⟨some 135,some (132,true),.call .q (.f 6) [.t 133,.t 134]⟩,
   ⟨some 136,none,.pick (.t 132) (.t 135) (.c (.bool false))⟩,⟨some 4,none,.mov (.t 136)⟩])
 (.ret))))))))))))⟩
set_option maxHeartbeats 4000000 in
theorem lawTPl_ok {F : Nat -> Option IFn} {f : Nat} (hf : F f = some c_lawTPl) (gd : DrawPl F 4) (gt : DrawTS F 5) (gi : PlanOkV F 6) (gs : PlanOkV F 7) (glr : LcRowOk F 8) (git : TSetOk F 9) (gst : TSetOk F 10) (gtp : TurnPOk F 11 (fun _ => 3) turnLH turnH) : LawB2 F f := by
 intro H v w code more hv hw
 have hv0 := hv
 have hw0 := hw
 obtain ⟨h0,a,rfl,_⟩ := hv
 obtain ⟨hm0,am,rfl,_⟩ := hw
 refine QC.mk hf rfl ?_
 refine seq_reg ?_
 simp only [go_sem,binC]
 by_cases hbig : 1048576 < (code.length : Int)
 ·refine seq_assoc (seq_reg ?_)
  simp only [go_sem,binC,decide_eq_true hbig]
  refine seq_cond (t := true) rfl ?_
  simp only [go_sem,binC]
  refine seq_assoc (seq_reg ?_)
  simp only [go_sem,binC]
  exact seq_ret ⟨Or.inr rfl,.bool true,by simp only [go_sem,binC],rfl,rfl⟩
 by_cases hbig2 : 1048576 < (more.length : Int)
 ·refine seq_assoc (seq_reg ?_)
  simp only [go_sem,binC,decide_eq_false hbig,decide_eq_true hbig2]
  refine seq_cond (t := true) rfl ?_
  simp only [go_sem,binC]
  refine seq_assoc (seq_reg ?_)
  simp only [go_sem,binC]
  exact seq_ret ⟨Or.inr rfl,.bool true,by simp only [go_sem,binC],rfl,rfl⟩
 refine seq_assoc (seq_reg ?_)
 simp only [go_sem,binC,decide_eq_false hbig,decide_eq_false hbig2]
 refine seq_cond (t := false) rfl ?_
 simp only [go_sem,binC]
 refine seq_skip (seq_reg ?_)
 simp only [go_sem,binC]
 obtain ⟨d,lv,sv,tv,hw_,dw,ls,l,ts,homes,does,H1,k,hx,r1,r2,r3,r4,r5,r6,htl,hhl,hdl⟩ := gd H _ code hv0
 have hl1 := hx.1
 obtain ⟨hls0,la,rfl,_⟩ := id r1
 obtain ⟨hsl0,sa,rfl,_⟩ := id r2
 obtain ⟨_,ta,rfl,_⟩ := id r4
 obtain ⟨_,ha,rfl,_⟩ := id r5
 obtain ⟨_,da,rfl,_⟩ := id r6
 refine op_callK (by simp only [go_sem,binC]; exact k) ?_
 simp only [go_sem,binC]
 refine ⟨by omega,by omega,?_⟩
 refine wpc_gen fun H2 hH2 => ?_
 have hb : H2[H1.length]? = some ⟨[.slice la ls.length ls.length,.slice sa l.length l.length],0,0,false,true⟩ := hH2 ▸ get_new0 _ _
 have hbp : H2[H1.length + 1]? = some ⟨[.slice ta ts.length ts.length,.slice ha homes.length homes.length,.slice da does.length does.length],0,0,false,true⟩ := hH2 ▸ get_new _ _ 1
 have hy : AgX [] H1 H2 := hH2 ▸ AgX.app [] _ _
 have hl2 : H2.length = H1.length + 2 := by rw [hH2,List.length_append]; rfl
 clear hH2 k
 obtain ⟨s,rw_,row,H3,k3,hx3,rr,hrl⟩ := gt H2 _ more (hw0.mono (agx_sub (hx.tr hy)))
 obtain ⟨_,wa,rfl,_⟩ := id rr
 have hl3 := hx3.1
 refine seq_reg ?_
 simp only [go_sem,binC]
 refine op_callK (by simp only [go_sem,binC]; exact k3) ?_
 simp only [go_sem,binC]
 clear k3
 have hx13 := hy.tr hx3
 replace hb := hx3.get hb (by simp)
 replace hbp := hx3.get hbp (by simp)
 replace r1 := r1.mono (agx_sub hx13)
 replace r2 := r2.mono (agx_sub hx13)
 replace r4 := r4.mono (agx_sub hx13)
 replace r5 := r5.mono (agx_sub hx13)
 replace r6 := r6.mono (agx_sub hx13)
 have hk1 := gi H3 d _ _ _ _ _ ls l ts homes does r1 r2 r3 r4 r5 r6
 have hk2 := gs H3 d _ _ _ _ _ ls l ts homes does r1 r2 r3 r4 r5 r6
 refine seq_reg ?_
 simp only [go_sem,binC,gc_of hb,gc_of hbp,inBlk_some]
 refine op_callQ (by simp only [go_sem,binC]; exact hk1) ?_
 simp only [go_sem,binC]
 refine seq_assoc (seq_reg ?_)
 simp only [go_sem,binC,gc_of hb,gc_of hbp,inBlk_some]
 refine op_callQ (by simp only [go_sem,binC]; exact hk2) ?_
 cases hok : planOkV d (ls,l) ts homes does with
 | false =>
   simp only [go_sem,binC,bne_self_eq_false,beq_self_eq_true]
   refine seq_cond (t := true) rfl ?_
   simp only [go_sem,binC]
   refine seq_assoc (seq_reg ?_)
   simp only [go_sem,binC,gc_of hb,gc_of hbp,inBlk_some]
   refine op_callQ (by simp only [go_sem,binC]; exact hk2) ?_
   rw [hok]
   simp only [go_sem,binC,beq_self_eq_true]
   refine op_callQ (by simp only [go_sem,binC]; exact git H3 s _ row rr) ?_
   simp only [go_sem,binC]
   refine op_callQ (by simp only [go_sem,binC]; exact gst H3 s _ row rr) ?_
   simp only [go_sem,binC,beq_self_eq_true]
   exact seq_ret ⟨Or.inr rfl,.bool true,by simp only [go_sem,binC],rfl,rfl⟩
 | true =>
 simp only [go_sem,binC,bne_self_eq_false,beq_self_eq_true]
 refine op_callQ (by simp only [go_sem,binC]; exact glr H3 _ row rr) ?_
 cases hro : rowB row 3 with
 | false =>
   simp only [go_sem,binC]
   refine seq_cond (t := true) rfl ?_
   simp only [go_sem,binC]
   refine seq_assoc (seq_reg ?_)
   simp only [go_sem,binC,gc_of hb,gc_of hbp,inBlk_some]
   refine op_callQ (by simp only [go_sem,binC]; exact hk2) ?_
   rw [hok]
   simp only [go_sem,binC,beq_self_eq_true]
   refine op_callQ (by simp only [go_sem,binC]; exact git H3 s _ row rr) ?_
   simp only [go_sem,binC]
   refine op_callQ (by simp only [go_sem,binC]; exact gst H3 s _ row rr) ?_
   simp only [go_sem,binC,beq_self_eq_true]
   exact seq_ret ⟨Or.inr rfl,.bool true,by simp only [go_sem,binC],rfl,rfl⟩
 | true =>
 simp only [go_sem,binC]
 refine seq_cond (t := false) rfl ?_
 simp only [go_sem,binC]
 have hP : progB d (ls,l) = true := by
  have := (planOkV_iff.1 hok).1
  unfold typeP at this
  rw [Bool.and_eq_true] at this
  exact this.1
 have hT : turnB d (fun _ => 3) ls l row = true := by
  unfold turnB
  rw [hP,hro]
  rfl
 have hO : turnO d (fun _ => 3) turnLH turnH ls l row = (turnLH row ls,l.map (mapT (turnH row) d)) := if_pos hT
 obtain ⟨lq,sq,H4,k4,hx4,q1,q2⟩ := gtp H3 d _ _ _ ls l row r1 r2 r3 rr
 rw [hO] at q1 q2
 rw [hT] at k4
 obtain ⟨_,lqa,rfl,_⟩ := id q1
 obtain ⟨_,sqa,rfl,_⟩ := id q2
 have hl4 := hx4.1
 refine seq_skip (seq_reg ?_)
 simp only [go_sem,binC,gc_of hb,inBlk_some]
 refine op_callK (by simp only [go_sem,binC]; exact k4) ?_
 simp only [go_sem,binC]
 refine ⟨by omega,?_⟩
 refine wpc_gen fun H5 hH5 => ?_
 have hx5 : AgX [] H4 H5 := hH5 ▸ AgX.app [] _ _
 have hbq : H5[H4.length]? = some ⟨[.slice lqa (turnLH row ls).length (turnLH row ls).length,.slice sqa (l.map (mapT (turnH row) d)).length (l.map (mapT (turnH row) d)).length],0,0,false,true⟩ := hH5 ▸ get_new0 _ _
 have hl5 : H5.length = H4.length + 1 := by rw [hH5,List.length_append]; rfl
 clear hH5 k4
 have hx35 := hx4.tr hx5
 replace hbp := hx35.get hbp (by simp)
 replace rr := rr.mono (agx_sub hx35)
 replace r4 := r4.mono (agx_sub hx35)
 replace r5 := r5.mono (agx_sub hx35)
 replace r6 := r6.mono (agx_sub hx35)
 replace q1 := q1.mono (agx_sub hx5)
 replace q2 := q2.mono (agx_sub hx5)
 refine seq_reg ?_
 simp only [go_sem,binC]
 refine ⟨by omega,by omega,?_⟩
 refine wpc_gen fun H6 hH6 => ?_
 have hx6 : AgX [] H5 H6 := hH6 ▸ AgX.app [] _ _
 have hbt6 : H6[H5.length]? = some ⟨ints (turnT row ts 0),1,3,true,true⟩ := hH6 ▸ get_new0 _ _
 have hbx6 : H6[H5.length + 1]? = some ⟨[sli H5.length 0 3,nilS,nilS],0,0,false,true⟩ := hH6 ▸ get_new _ _ 1
 clear hH6
 have hrow : row.length = 3 := (rowB_iff.1 hro).1
 obtain ⟨_,c2,c3,c4,_,c6⟩ := planOkV_iff.1 hok
 have htr := trK_iff.1 c2
 have hts : ts.length = 3 := htr.1
 have hho := homesB_iff.1 c3
 simp only at hho c6
 have hR7 : ∀ x ∈ ts,R7 x := fun x hxm => by
  obtain ⟨j,hj,rfl⟩ := List.getElem_of_mem hxm
  exact inB_iff.1 (htr.2 j hj).1
 have hdo : ∀ x ∈ does,0 <= x /\ x <= 2 := fun x hxm => by
  obtain ⟨j,hj,rfl⟩ := List.getElem_of_mem hxm
  have := (c6 j hj).1
  rwa [List.getD_eq_getElem?_getD,List.getElem?_eq_getElem hj] at this
 have hhm : ∀ x ∈ homes,0 <= x /\ x <= 2 := hho.2
 have hrg : ∀ j (h : j < row.length),row.getD j 0 = row[j] /\ 0 <= row[j] /\ row[j] < 3 := fun j h => by
  refine ⟨by rw [List.getD_eq_getElem?_getD,List.getElem?_eq_getElem h]; rfl,?_⟩
  have := (rowB_iff.1 hro).2.1 _ (List.getElem_mem h)
  omega
 have hset : ∀ x : Int,R7 x -> tsetO row x = tset row x := fun x h => if_pos (by rw [hro,inB_iff.2 h]; rfl)
 have hsm' : (Co.prog d).sm (turnLH row ls,l.map (mapT (turnH row) d)) := ⟨labs_sm (by rw [turnLH_len]; exact r3.1.1),steps_sm_map r3.2⟩
 clear hk1 hk2 hx35 hx4 hx3 hx13 hy hx hv0 hw0 hT hO c2 c3 c4 c6 r1 r2 r3 hP
 refine seq_assoc (seq_reg ?_)
 simp only [go_sem,binC]
 refine seq_block (wpc_loop ?_)
 suffices hh1 : ∀ (k i : Nat) (e : Env) (Hc : Heap),i + k = 3 -> AgX [] H5 Hc -> Hc[H5.length]? = some ⟨ints (turnT row ts i),1,3,true,true⟩ -> Hc[H5.length + 1]? = some ⟨[sli H5.length 0 3,nilS,nilS],0,0,false,true⟩ -> e 6 = ptr (H1.length + 1) 0 -> e 8 = .slice wa row.length row.length -> e 10 = ptr H4.length 0 -> e 11 = .bool true -> e 12 = ptr (H5.length + 1) 0 -> e 13 = .int .i64 i -> W F H.length _ e Hc _ from
  hh1 3 0 _ H6 rfl hx6 hbt6 hbx6 (by simp only [go_sem,binC]) (by simp only [go_sem,binC]) (by simp only [go_sem,binC]) (by simp only [go_sem,binC]) (by simp only [go_sem,binC]) (by (simp only [go_sem,binC]) <;> rfl)
 intro k
 induction k with
 | succ k ih =>
   intro i e Hc hi hxc hbt hbx e6 e8 e10 e11 e12 e13
   have hi3 : i < 3 := by omega
   obtain ⟨b,o,hv1,hg⟩ := gcI (rr.mono (agx_sub hxc)) (show i < row.length by omega)
   obtain ⟨b2,o2,hv2,hg2⟩ := gcI (r4.mono (agx_sub hxc)) (show i < ts.length by omega)
   simp only [Value.slice.injEq,and_true] at hv1 hv2
   subst hv1 hv2
   have hbp1 := hxc.get hbp (by simp)
   have hw1 : IntKind.i64.wrap ((i : Int) + 1) = ((i + 1 : Nat) : Int) := by rw [wrap_id (by omega) (by omega)]; omega
   have hbtl := (List.getElem?_eq_some_iff.1 hbt).1
   obtain ⟨hr1,hr2,hr3⟩ := hrg i (by omega)
   have htsi := hR7 _ (List.getElem_mem (show i < ts.length by omega))
   have hnx : turnT row ts (i + 1) = (turnT row ts i).set row[i].toNat (tset row ts[i]) := by
    show (turnT row ts i).set (row.getD i 0).toNat (tset row (ts.getD i 0)) = _
    rw [hr1,List.getD_eq_getElem?_getD,List.getElem?_eq_getElem (show i < ts.length by omega)]
    rfl
   refine lp_step ?_
   refine seq_assoc (seq_reg ?_)
   simp only [go_sem,binC,e13]
   refine seq_cond (t := true) (by simp only [go_sem,binC]; rw [decide_eq_true (by omega)]) ?_
   simp only [go_sem,binC]
   refine seq_skip (seq_block (wpc_regD ?_))
   simp only [go_sem,binC,e6,e8,e12,e13,gc_of hbx,gc_of hbp1,inBlk_some]
   refine ⟨⟨by omega,by omega⟩,?_⟩
   simp only [go_sem,binC,Int.toNat_natCast,Nat.mul_one,hg]
   refine ⟨⟨by omega,by omega⟩,?_⟩
   simp only [go_sem,binC,Int.toNat_natCast,Nat.mul_one,hg2]
   refine op_callQ (by simp only [go_sem,binC,e8]; exact git Hc _ _ row (rr.mono (agx_sub hxc))) ?_
   rw [hset _ htsi]
   simp only [go_sem,binC,sli]
   refine ⟨⟨by omega,by omega⟩,?_⟩
   simp only [go_sem,binC,hbt,ints_len,ints_set,ptr,Nat.mul_one]
   refine ⟨⟨by omega,by rw [turnT_len]; omega⟩,?_⟩
   simp only [go_sem,binC,out_n,thenX_n]
   rw [<- hnx]
   have hgs : (Hc.set H5.length ⟨ints (turnT row ts (i + 1)),1,3,true,true⟩)[H5.length]? = some ⟨ints (turnT row ts (i + 1)),1,3,true,true⟩ := List.getElem?_set_self hbtl
   have hxs : AgX [H5.length] Hc (Hc.set H5.length ⟨ints (turnT row ts (i + 1)),1,3,true,true⟩) := AgX.set _ _ _
   refine wpc_reg ?_
   simp only [go_sem,binC,e13,hw1]
   simp only [go_sem,binC,thenX_n]
   exact ih (i + 1) _ _ (by omega) (hxc.setN (Nat.le_refl _) _) hgs (hxs.get hbx (by simp)) (by simp only [go_sem,binC,e6]) (by simp only [go_sem,binC,e8]) (by simp only [go_sem,binC,e10]) (by simp only [go_sem,binC,e11]) (by simp only [go_sem,binC,e12]) (by simp only [go_sem,binC])
 | zero =>
   intro i e Hc hi hxc hbt hbx e6 e8 e10 e11 e12 e13
   obtain rfl : i = 3 := by omega
   refine lp_step ?_
   refine seq_assoc (seq_reg ?_)
   simp only [go_sem,binC,e13]
   refine seq_cond (t := false) (by simp only [go_sem,binC]; rw [decide_eq_false (by omega)]) ?_
   simp only [go_sem,binC]
   refine seq_exit ?_
   simp only [go_sem,binC,thenX_e,out_e,thenX_n]
   generalize hHd : Hc = Hd at hxc hbt hbx ⊢
   clear hHd
   refine seq_assoc (seq_reg ?_)
   simp only [go_sem,binC]
   refine seq_block (wpc_loop ?_)
   have hlo1 : H5.length + 2 <= Hd.length := by have := (List.getElem?_eq_some_iff.1 hbx).1; omega
   suffices hh1 : ∀ (k i : Nat) (e : Env) (Hc : Heap) (v : Value),i + k = homes.length -> AgX [] H5 Hc -> Hd.length <= Hc.length -> Hc[H5.length]? = some ⟨ints (turnT row ts 3),1,3,true,true⟩ -> Hc[H5.length + 1]? = some ⟨[sli H5.length 0 3,v,nilS],0,0,false,true⟩ -> LsV (fun _ => none) Co.int 1 3 Hd.length Hc v ((homes.take i).map (nameO row)) -> e 6 = ptr (H1.length + 1) 0 -> e 8 = .slice wa row.length row.length -> e 10 = ptr H4.length 0 -> e 11 = .bool true -> e 12 = ptr (H5.length + 1) 0 -> e 14 = .int .i64 i -> W F H.length _ e Hc _ from
    hh1 homes.length 0 _ Hd nilS (by omega) hxc (Nat.le_refl _) hbt hbx .nil (by simp only [go_sem,binC,e6]) (by simp only [go_sem,binC,e8]) (by simp only [go_sem,binC,e10]) (by simp only [go_sem,binC,e11]) (by simp only [go_sem,binC,e12]) (by (simp only [go_sem,binC]) <;> rfl)
   clear e6 e8 e10 e11 e12 hbt hbx hxc
   intro k
   induction k with
   | succ k ih =>
     intro i e Hc v hi hxc hdl hbt hbx hv e6 e8 e10 e11 e12 ei
     have hil : i < homes.length := by omega
     obtain ⟨b2,o2,hv2,hg2⟩ := gcI (r5.mono (agx_sub hxc)) hil
     have hxi := hhm _ (List.getElem_mem hil)
     have hxn : (homes[i]).toNat < row.length := by omega
     obtain ⟨b,o,hv1,hg⟩ := gcI (rr.mono (agx_sub hxc)) hxn
     simp only [Value.slice.injEq,and_true] at hv1 hv2
     subst hv1 hv2
     have hbp1 := hxc.get hbp (by simp)
     have hw1 : IntKind.i64.wrap ((i : Int) + 1) = ((i + 1 : Nat) : Int) := by rw [wrap_id (by omega) (by omega)]; omega
     obtain ⟨hr1,hr2,hr3⟩ := hrg _ hxn
     have hnm : nameO row homes[i] = row[(homes[i]).toNat] := hr1
     have htk : (homes.take (i + 1)).map (nameO row) = (homes.take i).map (nameO row) ++ [nameO row homes[i]] := by rw [List.take_add_one,List.getElem?_eq_getElem hil,List.map_append]; rfl
     have ov := hv.one
     obtain ⟨va_,rfl⟩ := hv.shape
     have hbxl := (List.getElem?_eq_some_iff.1 hbx).1
     refine lp_step ?_
     refine seq_assoc (seq_reg ?_)
     simp only [go_sem,binC,e6,ei,gc_of hbp1,inBlk_some]
     refine seq_cond (t := true) (by simp only [go_sem,binC]; rw [decide_eq_true (by omega)]) ?_
     simp only [go_sem,binC]
     refine seq_skip (seq_block (wpc_regD ?_))
     simp only [go_sem,binC,e6,e8,e12,ei,gc_of hbx,gc_of hbp1,inBlk_some]
     refine ⟨⟨by omega,by omega⟩,?_⟩
     simp only [go_sem,binC,Int.toNat_natCast,Nat.mul_one,hg2]
     refine ⟨⟨by omega,by omega⟩,?_⟩
     simp only [go_sem,binC,Int.toNat_natCast,Nat.mul_one,hg]
     rw [<- hnm]
     refine op_app_ls1 (V := fun _ => none) (A := Co.int) (lo := Hd.length) (a := nameO row homes[i]) hv (by simp only [go_sem,binC]) (by (simp only [go_sem,binC]) <;> rfl) rfl ⟨rfl,by omega,by omega⟩ (by omega) (by omega) (by rw [List.length_map,List.length_take]; omega) (by omega) fun H7 u7 hx7 hca7 hn7 ho7 => ?_
     have ob : ∀ b',b' ∈ blkOf (.slice va_ ((homes.take i).map (nameO row)).length ((homes.take i).map (nameO row)).length) -> Hd.length <= b' := fun b' hb' => (hv.blk hb').1
     have hbx7 := hx7.get hbx (fun hb' => by have := ob _ hb'; omega)
     have hbt7 := hx7.get hbt (fun hb' => by have := ob _ hb'; omega)
     have hbx7l := (List.getElem?_eq_some_iff.1 hbx7).1
     have on7 := ho7.one
     obtain ⟨va7,rfl⟩ := ho7.shape
     have hl7 := hx7.1
     simp only [go_sem,binC,e12,hbx7,on7]
     refine ⟨by omega,?_⟩
     simp only [go_sem,binC,out_n,thenX_n]
     have hx57 : AgX [] H5 H7 := hxc.trans hx7 (fun _ h _ => h) (fun b' hb' hl => by have := ob b' hb'; omega)
     rw [<- htk] at ho7 ⊢
     have hxs : AgX [H5.length + 1] H7 (H7.set (H5.length + 1) ⟨[sli H5.length 0 3,.slice va7 ((homes.take (i + 1)).map (nameO row)).length ((homes.take (i + 1)).map (nameO row)).length,nilS],0,0,false,true⟩) := AgX.set _ _ _
     have hgs : (H7.set (H5.length + 1) ⟨[sli H5.length 0 3,.slice va7 ((homes.take (i + 1)).map (nameO row)).length ((homes.take (i + 1)).map (nameO row)).length,nilS],0,0,false,true⟩)[H5.length + 1]? = some ⟨[sli H5.length 0 3,.slice va7 ((homes.take (i + 1)).map (nameO row)).length ((homes.take (i + 1)).map (nameO row)).length,nilS],0,0,false,true⟩ := List.getElem?_set_self hbx7l
     have hLs := ho7.keep (Nat.le_refl _) hxs (fun b' hb' => by have := (ho7.blk hb').1; simp; omega)
     refine wpc_reg ?_
     simp only [go_sem,binC,ei,hw1]
     simp only [go_sem,binC,thenX_n]
     exact ih (i + 1) _ _ _ (by omega) (hx57.setN (by omega) _) (by rw [List.length_set]; omega) (hxs.get hbt7 (by simp)) hgs hLs (by simp only [go_sem,binC,e6]) (by simp only [go_sem,binC,e8]) (by simp only [go_sem,binC,e10]) (by simp only [go_sem,binC,e11]) (by simp only [go_sem,binC,e12]) (by simp only [go_sem,binC])
   | zero =>
     intro i e Hc v hi hxc hdl hbt hbx hv e6 e8 e10 e11 e12 ei
     obtain rfl : i = homes.length := by omega
     rw [List.take_length] at hv
     obtain ⟨u1,rfl⟩ := hv.shape
     have hbp1 := hxc.get hbp (by simp)
     refine lp_step ?_
     refine seq_assoc (seq_reg ?_)
     simp only [go_sem,binC,e6,ei,gc_of hbp1,inBlk_some]
     refine seq_cond (t := false) (by simp only [go_sem,binC]; rw [decide_eq_false (by omega)]) ?_
     simp only [go_sem,binC]
     refine seq_exit ?_
     simp only [go_sem,binC,thenX_e,out_e,thenX_n]
     have hu : LsV (fun _ => none) Co.int 1 3 (H5.length + 2) Hc (.slice u1 (homes.map (nameO row)).length (homes.map (nameO row)).length) (homes.map (nameO row)) := hv.keep hlo1 (AgX.refl [] Hc) (fun b' hb' => by simp)
     have hub0 := fun b' hb' => (hv.blk (b := b') hb').2.1
     clear hv
     generalize hHe : Hc = He at hxc hbt hbx hu hub0 ⊢
     have hub : ∀ b',b' ∈ blkOf (.slice u1 (homes.map (nameO row)).length (homes.map (nameO row)).length) -> b' < He.length := hub0
     clear hHe hub0
     refine seq_assoc (seq_reg ?_)
     simp only [go_sem,binC]
     refine seq_block (wpc_loop ?_)
     have hlo2 : H5.length + 2 <= He.length := by have := (List.getElem?_eq_some_iff.1 hbx).1; omega
     suffices hh2 : ∀ (k i : Nat) (e : Env) (Hc : Heap) (v : Value),i + k = does.length -> AgX [] H5 Hc -> He.length <= Hc.length -> Hc[H5.length]? = some ⟨ints (turnT row ts 3),1,3,true,true⟩ -> Hc[H5.length + 1]? = some ⟨[sli H5.length 0 3,.slice u1 (homes.map (nameO row)).length (homes.map (nameO row)).length,v],0,0,false,true⟩ -> LsV (fun _ => none) Co.int 1 3 He.length Hc v ((does.take i).map (nameO row)) -> LsV (fun _ => none) Co.int 1 3 (H5.length + 2) Hc (.slice u1 (homes.map (nameO row)).length (homes.map (nameO row)).length) (homes.map (nameO row)) -> e 6 = ptr (H1.length + 1) 0 -> e 8 = .slice wa row.length row.length -> e 10 = ptr H4.length 0 -> e 11 = .bool true -> e 12 = ptr (H5.length + 1) 0 -> e 15 = .int .i64 i -> W F H.length _ e Hc _ from
      hh2 does.length 0 _ He nilS (by omega) hxc (Nat.le_refl _) hbt hbx .nil hu (by simp only [go_sem,binC,e6]) (by simp only [go_sem,binC,e8]) (by simp only [go_sem,binC,e10]) (by simp only [go_sem,binC,e11]) (by simp only [go_sem,binC,e12]) (by (simp only [go_sem,binC]) <;> rfl)
     clear e6 e8 e10 e11 e12 hbt hbx hxc
     intro k
     induction k with
     | succ k ih =>
       intro i e Hc v hi hxc hdl hbt hbx hv hu e6 e8 e10 e11 e12 ei
       have hil : i < does.length := by omega
       obtain ⟨b2,o2,hv2,hg2⟩ := gcI (r6.mono (agx_sub hxc)) hil
       have hxi := hdo _ (List.getElem_mem hil)
       have hxn : (does[i]).toNat < row.length := by omega
       obtain ⟨b,o,hv1,hg⟩ := gcI (rr.mono (agx_sub hxc)) hxn
       simp only [Value.slice.injEq,and_true] at hv1 hv2
       subst hv1 hv2
       have hbp1 := hxc.get hbp (by simp)
       have hw1 : IntKind.i64.wrap ((i : Int) + 1) = ((i + 1 : Nat) : Int) := by rw [wrap_id (by omega) (by omega)]; omega
       obtain ⟨hr1,hr2,hr3⟩ := hrg _ hxn
       have hnm : nameO row does[i] = row[(does[i]).toNat] := hr1
       have htk : (does.take (i + 1)).map (nameO row) = (does.take i).map (nameO row) ++ [nameO row does[i]] := by rw [List.take_add_one,List.getElem?_eq_getElem hil,List.map_append]; rfl
       have ov := hv.one
       obtain ⟨va_,rfl⟩ := hv.shape
       have hbxl := (List.getElem?_eq_some_iff.1 hbx).1
       refine lp_step ?_
       refine seq_assoc (seq_reg ?_)
       simp only [go_sem,binC,e6,ei,gc_of hbp1,inBlk_some]
       refine seq_cond (t := true) (by simp only [go_sem,binC]; rw [decide_eq_true (by omega)]) ?_
       simp only [go_sem,binC]
       refine seq_skip (seq_block (wpc_regD ?_))
       simp only [go_sem,binC,e6,e8,e12,ei,gc_of hbx,gc_of hbp1,inBlk_some]
       refine ⟨⟨by omega,by omega⟩,?_⟩
       simp only [go_sem,binC,Int.toNat_natCast,Nat.mul_one,hg2]
       refine ⟨⟨by omega,by omega⟩,?_⟩
       simp only [go_sem,binC,Int.toNat_natCast,Nat.mul_one,hg]
       rw [<- hnm]
       refine op_app_ls1 (V := fun _ => none) (A := Co.int) (lo := He.length) (a := nameO row does[i]) hv (by simp only [go_sem,binC]) (by (simp only [go_sem,binC]) <;> rfl) rfl ⟨rfl,by omega,by omega⟩ (by omega) (by omega) (by rw [List.length_map,List.length_take]; omega) (by omega) fun H7 u7 hx7 hca7 hn7 ho7 => ?_
       have ob : ∀ b',b' ∈ blkOf (.slice va_ ((does.take i).map (nameO row)).length ((does.take i).map (nameO row)).length) -> He.length <= b' := fun b' hb' => (hv.blk hb').1
       have hbx7 := hx7.get hbx (fun hb' => by have := ob _ hb'; omega)
       have hbt7 := hx7.get hbt (fun hb' => by have := ob _ hb'; omega)
       have hbx7l := (List.getElem?_eq_some_iff.1 hbx7).1
       have on7 := ho7.one
       obtain ⟨va7,rfl⟩ := ho7.shape
       have hl7 := hx7.1
       simp only [go_sem,binC,e12,hbx7,on7]
       refine ⟨by omega,?_⟩
       simp only [go_sem,binC,out_n,thenX_n]
       have hx57 : AgX [] H5 H7 := hxc.trans hx7 (fun _ h _ => h) (fun b' hb' hl => by have := ob b' hb'; omega)
       rw [<- htk] at ho7 ⊢
       have hxs : AgX [H5.length + 1] H7 (H7.set (H5.length + 1) ⟨[sli H5.length 0 3,.slice u1 (homes.map (nameO row)).length (homes.map (nameO row)).length,.slice va7 ((does.take (i + 1)).map (nameO row)).length ((does.take (i + 1)).map (nameO row)).length],0,0,false,true⟩) := AgX.set _ _ _
       have hgs : (H7.set (H5.length + 1) ⟨[sli H5.length 0 3,.slice u1 (homes.map (nameO row)).length (homes.map (nameO row)).length,.slice va7 ((does.take (i + 1)).map (nameO row)).length ((does.take (i + 1)).map (nameO row)).length],0,0,false,true⟩)[H5.length + 1]? = some ⟨[sli H5.length 0 3,.slice u1 (homes.map (nameO row)).length (homes.map (nameO row)).length,.slice va7 ((does.take (i + 1)).map (nameO row)).length ((does.take (i + 1)).map (nameO row)).length],0,0,false,true⟩ := List.getElem?_set_self hbx7l
       have hLs := ho7.keep (Nat.le_refl _) hxs (fun b' hb' => by have := (ho7.blk hb').1; simp; omega)
       have hu7 := hu.keep (Nat.le_refl _) hx7 (fun b' hb' h => by have := ob b' h; have := hub b' hb'; omega)
       have hu8 := hu7.keep (Nat.le_refl _) hxs (fun b' hb' => by have := (hu7.blk hb').1; simp; omega)
       refine wpc_reg ?_
       simp only [go_sem,binC,ei,hw1]
       simp only [go_sem,binC,thenX_n]
       exact ih (i + 1) _ _ _ (by omega) (hx57.setN (by omega) _) (by rw [List.length_set]; omega) (hxs.get hbt7 (by simp)) hgs hLs hu8 (by simp only [go_sem,binC,e6]) (by simp only [go_sem,binC,e8]) (by simp only [go_sem,binC,e10]) (by simp only [go_sem,binC,e11]) (by simp only [go_sem,binC,e12]) (by simp only [go_sem,binC])
     | zero =>
       intro i e Hc v hi hxc hdl hbt hbx hv hu e6 e8 e10 e11 e12 ei
       obtain rfl : i = does.length := by omega
       rw [List.take_length] at hv
       obtain ⟨u2,rfl⟩ := hv.shape
       have hbp1 := hxc.get hbp (by simp)
       refine lp_step ?_
       refine seq_assoc (seq_reg ?_)
       simp only [go_sem,binC,e6,ei,gc_of hbp1,inBlk_some]
       refine seq_cond (t := false) (by simp only [go_sem,binC]; rw [decide_eq_false (by omega)]) ?_
       simp only [go_sem,binC]
       refine seq_exit ?_
       simp only [go_sem,binC,thenX_e,out_e,thenX_n]
       have hbq1 := hxc.get hbq (by simp)
       have hT := ints_sl0 hbt (fun x hx => by have := turnT_rg hro hR7 3 x hx; exact ⟨by omega,by omega⟩) (by rw [turnT_len]; omega)
       rw [turnT_len] at hT
       have hk := gi Hc d _ _ _ _ _ (turnLH row ls) (l.map (mapT (turnH row) d)) (turnT row ts 3) (homes.map (nameO row)) (does.map (nameO row)) (q1.mono (agx_sub hxc)) (q2.mono (agx_sub hxc)) hsm' hT (hu.sl rfl (fun _ _ h => by cases h)) (hv.sl rfl (fun _ _ h => by cases h))
       rw [planOkV_turn hok hro] at hk
       refine seq_reg ?_
       simp only [go_sem,binC,e10,e11,e12,gc_of hbq1,gc_of hbx,inBlk_some]
       refine op_callQ (by simp only [go_sem,binC]; exact hk) ?_
       simp only [go_sem,binC]
       exact wpc_ret ⟨Or.inr rfl,.bool true,by simp only [go_sem,binC],rfl,rfl⟩
end Go.Proofs.YtbjeldblaclpnaaGreatI
end
section
set_option linter.unusedVariables false
set_option linter.unusedSimpArgs false
namespace Go.Proofs.YtbjeldblaclpnaaGreatI
open Go Go.RowKit
def fnOf : Nat -> Option IFn
 | 3 => some (c_lawTPl)
 | 4 => some (c_drPO)
 | 5 => some (c_drTS)
 | 6 => some (c_iPlanOk)
 | 7 => some (c_sPlanOk)
 | 8 => some (c_lcRow)
 | 9 => some (c_iTSet)
 | 10 => some (c_sTSet)
 | 11 => some (c_iTurnProg)
 | 12 => some (c_drOff)
 | 13 => some (c_l6Open)
 | 14 => some (c_pick)
 | 15 => some (c_drRow)
 | 16 => some (c_iTypeOk)
 | 17 => some (c_iTrusts)
 | 18 => some (c_iHostsOk)
 | 19 => some (c_iSize)
 | 20 => some (c_iHome1)
 | 21 => some (c_iAt)
 | 22 => some (c_iAll)
 | 23 => some (c_iDoes)
 | 24 => some (c_sTypeOk)
 | 25 => some (c_sTrusts)
 | 26 => some (c_sHomes21)
 | 27 => some (c_sProgSize)
 | 28 => some (c_sSee)
 | 29 => some (c_lHome)
 | 30 => some (c_sIn)
 | 31 => some (c_lStep)
 | 32 => some (c_iSet)
 | 33 => some (c_iRow)
 | 34 => some (c_turned)
 | 35 => some (c_sSet)
 | 36 => some (c_sRow)
 | 37 => some (c_sHas)
 | 38 => some (c_iProg)
 | 39 => some (c_pclone)
 | 40 => some (c_change)
 | 41 => some (c_tp1)
 | 42 => some (c_drPlan)
 | 43 => some (c_drTrusts)
 | 44 => some (c_iWhy0)
 | 45 => some (c_iHas)
 | 46 => some (c_cfInt)
 | 47 => some (c_hk1)
 | 48 => some (c_iHost)
 | 49 => some (c_iWithin)
 | 50 => some (c_iBy)
 | 51 => some (c_iLabels)
 | 52 => some (c_iEvery)
 | 53 => some (c_iSets)
 | 54 => some (c_iMakes)
 | 55 => some (c_sWhy)
 | 56 => some (c_sProg)
 | 57 => some (c_sCount)
 | 58 => some (c_sAllSteps)
 | 59 => some (c_sTypeAt)
 | 60 => some (c_sTypeSets)
 | 61 => some (c_sBy)
 | 62 => some (c_sWithin)
 | 63 => some (c_sVars21)
 | 64 => some (c_iIn)
 | 65 => some (c_conInt)
 | 66 => some (c_sAll)
 | 67 => some (c_con)
 | 68 => some (c_p1)
 | 69 => some (c_iLabelOk)
 | 70 => some (c_iSteps)
 | 71 => some (c_cloneSteps)
 | 72 => some (c_drFine)
 | 73 => some (c_sPlanFind)
 | 74 => some (c_sPlanStep)
 | 75 => some (c_sEither)
 | 76 => some (c_iSource)
 | 77 => some (c_iFlows)
 | 78 => some (c_ifInt)
 | 79 => some (c_iBoth)
 | 80 => some (c_vars)
 | 81 => some (c_sFine)
 | 82 => some (c_sLabelOk)
 | 83 => some (c_sSteps)
 | 84 => some (c_sAt)
 | 85 => some (c_sAny)
 | 86 => some (c_sSets)
 | 87 => some (c_ixInt)
 | 88 => some (c_idx)
 | 89 => some (c_iVar)
 | 90 => some (c_iVal)
 | 91 => some (c_drProg)
 | 92 => some (c_sWithout)
 | 93 => some (c_lFind)
 | 94 => some (c_sBoth)
 | 95 => some (c_sFlows)
 | 96 => some (c_sLBoth)
 | 97 => some (c_sValL)
 | 98 => some (c_sStep)
 | 99 => some (c_iNum)
 | 100 => some (c_drLabel)
 | 101 => some (c_drSteps)
 | 102 => some (c_lDoes)
 | 103 => some (c_sVar)
 | 104 => some (c_sVal)
 | 105 => some (c_drVal)
 | _ => none
def cmOf (f : Nat) : CM := ⟨fun g => if [3,6,7,8,9,10,16,17,18,19,20,23,24,25,26,27,29,30,31,32,33,34,35,36,37,38,44,45,46,47,48,49,50,52,53,55,56,57,61,62,64,65,66,67,68,69,70,74,75,76,77,78,79,81,82,83,85,86,87,88,89,90,94,95,96,97,98,99,103,104].contains g then .q else if [12,13,14,15,28,40,41,42,43,51,72,84,91,100,101,105].contains g then .n else .k,if [12,13,14,15,28,40,41,42,43,51,72,84,91,100,101,105].contains f then .n else .q,[43,71,93,102].contains f⟩
theorem hF3 : cFn Tryz.prog cmOf 3 = some (c_lawTPl) := by kernel_rfl
theorem hF4 : cFn Tryz.prog cmOf 4 = some (c_drPO) := by kernel_rfl
theorem hF5 : cFn Tryz.prog cmOf 5 = some (c_drTS) := by kernel_rfl
theorem hF6 : cFn Tryz.prog cmOf 6 = some (c_iPlanOk) := by kernel_rfl
theorem hF7 : cFn Tryz.prog cmOf 7 = some (c_sPlanOk) := by kernel_rfl
theorem hF8 : cFn Tryz.prog cmOf 8 = some (c_lcRow) := by kernel_rfl
theorem hF9 : cFn Tryz.prog cmOf 9 = some (c_iTSet) := by kernel_rfl
theorem hF10 : cFn Tryz.prog cmOf 10 = some (c_sTSet) := by kernel_rfl
theorem hF11 : cFn Tryz.prog cmOf 11 = some (c_iTurnProg) := by kernel_rfl
theorem hF12 : cFn Tryz.prog cmOf 12 = some (c_drOff) := by kernel_rfl
theorem hF13 : cFn Tryz.prog cmOf 13 = some (c_l6Open) := by kernel_rfl
theorem hF14 : cFn Tryz.prog cmOf 14 = some (c_pick) := by kernel_rfl
theorem hF15 : cFn Tryz.prog cmOf 15 = some (c_drRow) := by kernel_rfl
theorem hF16 : cFn Tryz.prog cmOf 16 = some (c_iTypeOk) := by kernel_rfl
theorem hF17 : cFn Tryz.prog cmOf 17 = some (c_iTrusts) := by kernel_rfl
theorem hF18 : cFn Tryz.prog cmOf 18 = some (c_iHostsOk) := by kernel_rfl
theorem hF19 : cFn Tryz.prog cmOf 19 = some (c_iSize) := by kernel_rfl
theorem hF20 : cFn Tryz.prog cmOf 20 = some (c_iHome1) := by kernel_rfl
theorem hF21 : cFn Tryz.prog cmOf 21 = some (c_iAt) := by kernel_rfl
theorem hF22 : cFn Tryz.prog cmOf 22 = some (c_iAll) := by kernel_rfl
theorem hF23 : cFn Tryz.prog cmOf 23 = some (c_iDoes) := by kernel_rfl
theorem hF24 : cFn Tryz.prog cmOf 24 = some (c_sTypeOk) := by kernel_rfl
theorem hF25 : cFn Tryz.prog cmOf 25 = some (c_sTrusts) := by kernel_rfl
theorem hF26 : cFn Tryz.prog cmOf 26 = some (c_sHomes21) := by kernel_rfl
theorem hF27 : cFn Tryz.prog cmOf 27 = some (c_sProgSize) := by kernel_rfl
theorem hF28 : cFn Tryz.prog cmOf 28 = some (c_sSee) := by kernel_rfl
theorem hF29 : cFn Tryz.prog cmOf 29 = some (c_lHome) := by kernel_rfl
theorem hF30 : cFn Tryz.prog cmOf 30 = some (c_sIn) := by kernel_rfl
theorem hF31 : cFn Tryz.prog cmOf 31 = some (c_lStep) := by kernel_rfl
theorem hF32 : cFn Tryz.prog cmOf 32 = some (c_iSet) := by kernel_rfl
theorem hF33 : cFn Tryz.prog cmOf 33 = some (c_iRow) := by kernel_rfl
theorem hF34 : cFn Tryz.prog cmOf 34 = some (c_turned) := by kernel_rfl
theorem hF35 : cFn Tryz.prog cmOf 35 = some (c_sSet) := by kernel_rfl
theorem hF36 : cFn Tryz.prog cmOf 36 = some (c_sRow) := by kernel_rfl
theorem hF37 : cFn Tryz.prog cmOf 37 = some (c_sHas) := by kernel_rfl
theorem hF38 : cFn Tryz.prog cmOf 38 = some (c_iProg) := by kernel_rfl
theorem hF39 : cFn Tryz.prog cmOf 39 = some (c_pclone) := by kernel_rfl
theorem hF40 : cFn Tryz.prog cmOf 40 = some (c_change) := by kernel_rfl
theorem hF41 : cFn Tryz.prog cmOf 41 = some (c_tp1) := by kernel_rfl
theorem hF42 : cFn Tryz.prog cmOf 42 = some (c_drPlan) := by kernel_rfl
theorem hF43 : cFn Tryz.prog cmOf 43 = some (c_drTrusts) := by kernel_rfl
theorem hF44 : cFn Tryz.prog cmOf 44 = some (c_iWhy0) := by kernel_rfl
theorem hF45 : cFn Tryz.prog cmOf 45 = some (c_iHas) := by kernel_rfl
theorem hF46 : cFn Tryz.prog cmOf 46 = some (c_cfInt) := by kernel_rfl
theorem hF47 : cFn Tryz.prog cmOf 47 = some (c_hk1) := by kernel_rfl
theorem hF48 : cFn Tryz.prog cmOf 48 = some (c_iHost) := by kernel_rfl
theorem hF49 : cFn Tryz.prog cmOf 49 = some (c_iWithin) := by kernel_rfl
theorem hF50 : cFn Tryz.prog cmOf 50 = some (c_iBy) := by kernel_rfl
theorem hF51 : cFn Tryz.prog cmOf 51 = some (c_iLabels) := by kernel_rfl
theorem hF52 : cFn Tryz.prog cmOf 52 = some (c_iEvery) := by kernel_rfl
theorem hF53 : cFn Tryz.prog cmOf 53 = some (c_iSets) := by kernel_rfl
theorem hF54 : cFn Tryz.prog cmOf 54 = some (c_iMakes) := by kernel_rfl
theorem hF55 : cFn Tryz.prog cmOf 55 = some (c_sWhy) := by kernel_rfl
theorem hF56 : cFn Tryz.prog cmOf 56 = some (c_sProg) := by kernel_rfl
theorem hF57 : cFn Tryz.prog cmOf 57 = some (c_sCount) := by kernel_rfl
theorem hF58 : cFn Tryz.prog cmOf 58 = some (c_sAllSteps) := by kernel_rfl
theorem hF59 : cFn Tryz.prog cmOf 59 = some (c_sTypeAt) := by kernel_rfl
theorem hF60 : cFn Tryz.prog cmOf 60 = some (c_sTypeSets) := by kernel_rfl
theorem hF61 : cFn Tryz.prog cmOf 61 = some (c_sBy) := by kernel_rfl
theorem hF62 : cFn Tryz.prog cmOf 62 = some (c_sWithin) := by kernel_rfl
theorem hF63 : cFn Tryz.prog cmOf 63 = some (c_sVars21) := by kernel_rfl
theorem hF64 : cFn Tryz.prog cmOf 64 = some (c_iIn) := by kernel_rfl
theorem hF65 : cFn Tryz.prog cmOf 65 = some (c_conInt) := by kernel_rfl
theorem hF66 : cFn Tryz.prog cmOf 66 = some (c_sAll) := by kernel_rfl
theorem hF67 : cFn Tryz.prog cmOf 67 = some (c_con) := by kernel_rfl
theorem hF68 : cFn Tryz.prog cmOf 68 = some (c_p1) := by kernel_rfl
theorem hF69 : cFn Tryz.prog cmOf 69 = some (c_iLabelOk) := by kernel_rfl
theorem hF70 : cFn Tryz.prog cmOf 70 = some (c_iSteps) := by kernel_rfl
theorem hF71 : cFn Tryz.prog cmOf 71 = some (c_cloneSteps) := by kernel_rfl
theorem hF72 : cFn Tryz.prog cmOf 72 = some (c_drFine) := by kernel_rfl
theorem hF73 : cFn Tryz.prog cmOf 73 = some (c_sPlanFind) := by kernel_rfl
theorem hF74 : cFn Tryz.prog cmOf 74 = some (c_sPlanStep) := by kernel_rfl
theorem hF75 : cFn Tryz.prog cmOf 75 = some (c_sEither) := by kernel_rfl
theorem hF76 : cFn Tryz.prog cmOf 76 = some (c_iSource) := by kernel_rfl
theorem hF77 : cFn Tryz.prog cmOf 77 = some (c_iFlows) := by kernel_rfl
theorem hF78 : cFn Tryz.prog cmOf 78 = some (c_ifInt) := by kernel_rfl
theorem hF79 : cFn Tryz.prog cmOf 79 = some (c_iBoth) := by kernel_rfl
theorem hF80 : cFn Tryz.prog cmOf 80 = some (c_vars) := by kernel_rfl
theorem hF81 : cFn Tryz.prog cmOf 81 = some (c_sFine) := by kernel_rfl
theorem hF82 : cFn Tryz.prog cmOf 82 = some (c_sLabelOk) := by kernel_rfl
theorem hF83 : cFn Tryz.prog cmOf 83 = some (c_sSteps) := by kernel_rfl
theorem hF84 : cFn Tryz.prog cmOf 84 = some (c_sAt) := by kernel_rfl
theorem hF85 : cFn Tryz.prog cmOf 85 = some (c_sAny) := by kernel_rfl
theorem hF86 : cFn Tryz.prog cmOf 86 = some (c_sSets) := by kernel_rfl
theorem hF87 : cFn Tryz.prog cmOf 87 = some (c_ixInt) := by kernel_rfl
theorem hF88 : cFn Tryz.prog cmOf 88 = some (c_idx) := by kernel_rfl
theorem hF89 : cFn Tryz.prog cmOf 89 = some (c_iVar) := by kernel_rfl
theorem hF90 : cFn Tryz.prog cmOf 90 = some (c_iVal) := by kernel_rfl
theorem hF91 : cFn Tryz.prog cmOf 91 = some (c_drProg) := by kernel_rfl
theorem hF92 : cFn Tryz.prog cmOf 92 = some (c_sWithout) := by kernel_rfl
theorem hF93 : cFn Tryz.prog cmOf 93 = some (c_lFind) := by kernel_rfl
theorem hF94 : cFn Tryz.prog cmOf 94 = some (c_sBoth) := by kernel_rfl
theorem hF95 : cFn Tryz.prog cmOf 95 = some (c_sFlows) := by kernel_rfl
theorem hF96 : cFn Tryz.prog cmOf 96 = some (c_sLBoth) := by kernel_rfl
theorem hF97 : cFn Tryz.prog cmOf 97 = some (c_sValL) := by kernel_rfl
theorem hF98 : cFn Tryz.prog cmOf 98 = some (c_sStep) := by kernel_rfl
theorem hF99 : cFn Tryz.prog cmOf 99 = some (c_iNum) := by kernel_rfl
theorem hF100 : cFn Tryz.prog cmOf 100 = some (c_drLabel) := by kernel_rfl
theorem hF101 : cFn Tryz.prog cmOf 101 = some (c_drSteps) := by kernel_rfl
theorem hF102 : cFn Tryz.prog cmOf 102 = some (c_lDoes) := by kernel_rfl
theorem hF103 : cFn Tryz.prog cmOf 103 = some (c_sVar) := by kernel_rfl
theorem hF104 : cFn Tryz.prog cmOf 104 = some (c_sVal) := by kernel_rfl
theorem hF105 : cFn Tryz.prog cmOf 105 = some (c_drVal) := by kernel_rfl
theorem hF (g : Nat) (fn : IFn) (h : fnOf g = some fn) : cFn Tryz.prog cmOf g = some fn := by
 unfold fnOf at h
 split at h
 ·rw [<- h]; exact hF3
 ·rw [<- h]; exact hF4
 ·rw [<- h]; exact hF5
 ·rw [<- h]; exact hF6
 ·rw [<- h]; exact hF7
 ·rw [<- h]; exact hF8
 ·rw [<- h]; exact hF9
 ·rw [<- h]; exact hF10
 ·rw [<- h]; exact hF11
 ·rw [<- h]; exact hF12
 ·rw [<- h]; exact hF13
 ·rw [<- h]; exact hF14
 ·rw [<- h]; exact hF15
 ·rw [<- h]; exact hF16
 ·rw [<- h]; exact hF17
 ·rw [<- h]; exact hF18
 ·rw [<- h]; exact hF19
 ·rw [<- h]; exact hF20
 ·rw [<- h]; exact hF21
 ·rw [<- h]; exact hF22
 ·rw [<- h]; exact hF23
 ·rw [<- h]; exact hF24
 ·rw [<- h]; exact hF25
 ·rw [<- h]; exact hF26
 ·rw [<- h]; exact hF27
 ·rw [<- h]; exact hF28
 ·rw [<- h]; exact hF29
 ·rw [<- h]; exact hF30
 ·rw [<- h]; exact hF31
 ·rw [<- h]; exact hF32
 ·rw [<- h]; exact hF33
 ·rw [<- h]; exact hF34
 ·rw [<- h]; exact hF35
 ·rw [<- h]; exact hF36
 ·rw [<- h]; exact hF37
 ·rw [<- h]; exact hF38
 ·rw [<- h]; exact hF39
 ·rw [<- h]; exact hF40
 ·rw [<- h]; exact hF41
 ·rw [<- h]; exact hF42
 ·rw [<- h]; exact hF43
 ·rw [<- h]; exact hF44
 ·rw [<- h]; exact hF45
 ·rw [<- h]; exact hF46
 ·rw [<- h]; exact hF47
 ·rw [<- h]; exact hF48
 ·rw [<- h]; exact hF49
 ·rw [<- h]; exact hF50
 ·rw [<- h]; exact hF51
 ·rw [<- h]; exact hF52
 ·rw [<- h]; exact hF53
 ·rw [<- h]; exact hF54
 ·rw [<- h]; exact hF55
 ·rw [<- h]; exact hF56
 ·rw [<- h]; exact hF57
 ·rw [<- h]; exact hF58
 ·rw [<- h]; exact hF59
 ·rw [<- h]; exact hF60
 ·rw [<- h]; exact hF61
 ·rw [<- h]; exact hF62
 ·rw [<- h]; exact hF63
 ·rw [<- h]; exact hF64
 ·rw [<- h]; exact hF65
 ·rw [<- h]; exact hF66
 ·rw [<- h]; exact hF67
 ·rw [<- h]; exact hF68
 ·rw [<- h]; exact hF69
 ·rw [<- h]; exact hF70
 ·rw [<- h]; exact hF71
 ·rw [<- h]; exact hF72
 ·rw [<- h]; exact hF73
 ·rw [<- h]; exact hF74
 ·rw [<- h]; exact hF75
 ·rw [<- h]; exact hF76
 ·rw [<- h]; exact hF77
 ·rw [<- h]; exact hF78
 ·rw [<- h]; exact hF79
 ·rw [<- h]; exact hF80
 ·rw [<- h]; exact hF81
 ·rw [<- h]; exact hF82
 ·rw [<- h]; exact hF83
 ·rw [<- h]; exact hF84
 ·rw [<- h]; exact hF85
 ·rw [<- h]; exact hF86
 ·rw [<- h]; exact hF87
 ·rw [<- h]; exact hF88
 ·rw [<- h]; exact hF89
 ·rw [<- h]; exact hF90
 ·rw [<- h]; exact hF91
 ·rw [<- h]; exact hF92
 ·rw [<- h]; exact hF93
 ·rw [<- h]; exact hF94
 ·rw [<- h]; exact hF95
 ·rw [<- h]; exact hF96
 ·rw [<- h]; exact hF97
 ·rw [<- h]; exact hF98
 ·rw [<- h]; exact hF99
 ·rw [<- h]; exact hF100
 ·rw [<- h]; exact hF101
 ·rw [<- h]; exact hF102
 ·rw [<- h]; exact hF103
 ·rw [<- h]; exact hF104
 ·rw [<- h]; exact hF105
 ·cases h
theorem hMixed : Tryz.prog.follows .mixedOrders = true := by kernel_rfl
theorem ok_iIn : ∀ (H : Heap) (a b c : Int),QC fnOf 64 [.int .i64 a,.int .i64 b,.int .i64 c] H (.bool (inB a b c)) := iIn_ok rfl
theorem ok_sIn : ∀ (H : Heap) (a b c : Int),QC fnOf 30 [.int .i64 a,.int .i64 b,.int .i64 c] H (.bool (inB a b c)) := sIn_ok rfl
theorem ok_iSet : ∀ (H : Heap) (a : Int),QC fnOf 32 [.int .i64 a] H (.bool (inB a 0 7)) := iSet_ok rfl ok_iIn
theorem ok_iHost : ∀ (H : Heap) (a : Int),QC fnOf 48 [.int .i64 a] H (.bool (inB a 0 2)) := iHost_ok rfl ok_iIn
theorem ok_iNum : ∀ (H : Heap) (a : Int),QC fnOf 99 [.int .i64 a] H (.bool (inB a 0 9)) := iNum_ok rfl ok_iIn
theorem ok_sAll : ∀ H,QC fnOf 66 [] H (.int .i64 7) := sAll_ok rfl
theorem ok_sSet : ∀ (H : Heap) (a : Int),QC fnOf 35 [.int .i64 a] H (.bool (inB a 0 7)) := sSet_ok rfl ok_sIn ok_sAll
theorem ok_iLabelOk : LabOk fnOf 69 := iLabelOk_ok rfl ok_iSet
theorem ok_sLabelOk : LabOk fnOf 82 := sLabelOk_ok rfl ok_sSet
theorem ok_iVar : VarOk fnOf 89 := iVar_ok rfl ok_iIn
theorem ok_sVar : VarOk fnOf 103 := sVar_ok rfl ok_sIn
theorem ok_iVal : ValOk fnOf 90 := iVal_ok rfl ok_iNum ok_iVar
theorem ok_sVal : ValOk fnOf 104 := sVal_ok rfl ok_sIn ok_sVar
theorem ok_sSteps : ∀ n,StepsOk fnOf 83 n := fun n => (sSteps_all rfl rfl ok_sIn ok_sVar ok_sVal n).1
theorem ok_iSteps : ∀ n,StepsOk fnOf 70 n := iSteps_all rfl ok_iVar ok_iVal ok_iHost
theorem ok_sCount : ∀ n,CntOk fnOf 57 n := cnt_all (fun _ h => sCount_ok rfl h) (sCount_z rfl)
theorem ok_iSize : ∀ n,CntOk fnOf 19 n := cnt_all (fun _ h => iSize_ok rfl h) (iSize_z rfl)
theorem ok_sProg : ProgOk fnOf 56 := sProg_ok rfl ok_sLabelOk ok_sSteps ok_sCount
theorem ok_iProg : ProgOk fnOf 38 := iProg_ok rfl (con_ok rfl (idx_ok rfl (p1_ok rfl ok_iLabelOk))) ok_iSteps ok_iSize
theorem ok_sHas : HasOk fnOf 37 := sHas_ok rfl
theorem ok_sWit : WitOk fnOf 62 := sWithin_ok rfl ok_sHas
theorem ok_sBoth : BothOk fnOf 94 := sBoth_ok rfl ok_sHas
theorem ok_sLBoth : LBothOk fnOf 96 := sLBoth_ok rfl ok_sLabelOk ok_sBoth
theorem ok_sFlows : FlowsOk fnOf 95 := sFlows_ok rfl ok_sLabelOk ok_sWit
theorem ok_sAny : ∀ H,QC fnOf 85 [] H (.agg #[.int .i64 7,.int .i64 7]) := sAny_ok rfl ok_sAll
theorem ok_sFine : FineOk fnOf 81 := sFine_ok rfl (sValL_ok rfl ok_sAny ok_sLBoth) ok_sLBoth ok_sFlows ok_sBoth ok_sHas
theorem ok_sAllSteps : ∀ n,AllOk fnOf 58 n := sAllSteps_all rfl
theorem ok_sAt : ∀ n,AtOk fnOf 84 n := sAt_all rfl ok_sLBoth
theorem ok_sTypeAt : TypeAtOk fnOf 59 := sTypeAt_ok rfl ok_sProg ok_sAny ok_sAt
theorem ok_sWhy : WhyOk fnOf 55 := sWhy_ok rfl ok_sProg ok_sAllSteps ok_sTypeAt ok_sFine
theorem ok_sWithout : ∀ n,WoOk fnOf 92 n := sWithout_all rfl ok_sCount
theorem ok_drProg {H0 : Heap} {rb : Nat} {bv : Value} {code : List Int} (hc : RdC H0 rb bv code) : DrawS fnOf H0 rb bv 91 [] 40000 (ProgQ 3) := drProg_ok rfl rfl rfl rfl rfl ok_sProg hc
theorem ok_drFine {H0 : Heap} {rb : Nat} {bv : Value} {code : List Int} (hc : RdC H0 rb bv code) : DrawS fnOf H0 rb bv 72 [] 40000 (ProgQ 3) := drFine_ok rfl hc (ok_drProg hc) ok_sWhy ok_sWithout
theorem ok_iHas : HasOk fnOf 45 := iHas_ok rfl ok_iHost
theorem ok_iWit : WitOk fnOf 49 := iWithin_ok rfl
theorem ok_iBoth : ILBoth fnOf 79 := iBoth_ok rfl
theorem ok_iAt : AtP fnOf 21 := iAt_ok rfl (iLabels_all rfl ok_iBoth) (iEvery_ok rfl)
theorem ok_iWhy0 : WhyI fnOf 44 := iWhy0_ok rfl ok_iAt (iAll_all rfl) (iSource_ok rfl rfl ok_iBoth) (iFlows_ok rfl ok_iWit) ok_iHas
theorem ok_iTypeOk : TypeP fnOf 16 := iTypeOk_ok rfl ok_iProg ok_iWhy0
theorem ok_iTrusts : TrOk fnOf 17 := iTrusts_ok rfl ok_iSet ok_iHas
theorem ok_iBy : ByOk fnOf 50 := iBy_ok rfl ok_iHas
theorem ok_iDoes : DoesOk fnOf 23 := iDoes_ok rfl ok_iHas ok_iWit ok_iBy (iSets_all rfl) (iMakes_ok rfl rfl)
theorem ok_iHome1 : HomeI fnOf 20 := iHome1_ok rfl ok_iHas ok_iWit ok_iBy
theorem ok_sTrusts : TrOk fnOf 25 := sTrusts_ok rfl ok_sSet ok_sHas
theorem ok_sBy : ByOk fnOf 61 := sBy_ok rfl ok_sHas
theorem ok_sWhyV : WhyV fnOf 55 := sWhyV_ok rfl ok_sProg ok_sAllSteps ok_sTypeAt ok_sFine
theorem ok_sTypeOk : TypeP fnOf 24 := sTypeOk_ok rfl ok_sWhyV ok_sProg
theorem ok_sAllA : ∀ n,AllA fnOf 58 n := sAllA_all rfl
theorem ok_sTypeSets : SetsOk fnOf 60 := sTypeSets_ok rfl ok_sProg ok_sAllA (sSets_all rfl (sEither_ok rfl ok_sBoth))
theorem ok_sSee : SeeOk fnOf 28 := sSee_ok rfl ok_sAllA ok_sTypeAt ok_sTypeSets ok_sBy
theorem ok_lHome : LHome fnOf 29 := lHome_ok rfl ok_sHas ok_sWit
theorem ok_lStep : LStep fnOf 31 := lStep_ok rfl ok_sHas ok_sWit (sVars21_ok rfl)
theorem ok_iHostsOk : HostsI fnOf 18 := iHostsOk_ok rfl rfl rfl rfl ok_iHost
theorem ok_iPlanOk : PlanOkV fnOf 6 := iPlanOk_ok rfl ok_iTypeOk ok_iTrusts ok_iHostsOk ok_iSize ok_iHome1 ok_iAt (iAll_all rfl) ok_iDoes
theorem ok_sProgSize : SizeV fnOf 27 := sProgSizeV_ok rfl ok_sProg ok_sCount
theorem ok_sHomes21 : Homes21 fnOf 26 := sHomes21_ok rfl ok_sIn
theorem ok_sPlanStep : StepV fnOf 74 := sPlanStep_ok rfl ok_sProg ok_sTrusts ok_sHomes21 ok_sProgSize ok_sIn ok_sSee ok_lStep
theorem ok_sPlanOk : PlanOkV fnOf 7 := sPlanOk_ok rfl ok_sTypeOk ok_sTrusts ok_sHomes21 ok_sProgSize ok_sIn ok_sSee ok_lHome ok_lStep
theorem ok_drTrusts {H0 : Heap} {rb : Nat} {bv : Value} {code : List Int} (hc : RdC H0 rb bv code) : DrawS fnOf H0 rb bv 43 [] 10 TrQ := drTrusts_ok rfl rfl (sEither_ok rfl ok_sBoth) hc
theorem ok_lDoes : LDoes fnOf 102 := lDoes_ok rfl ok_lStep
theorem ok_lFind : ∀ m,LFind fnOf 93 m := lFind_all rfl ok_lHome ok_lDoes
theorem ok_sPlanFind : FindS fnOf 73 := sPlanFind_ok rfl ok_sTypeOk ok_sTrusts ok_sSee ok_lFind
theorem ok_drPlan {H0 : Heap} {rb : Nat} {bv : Value} {code : List Int} (hc : RdC H0 rb bv code) : DrawS fnOf H0 rb bv 42 [] 370000 PlanQ := drPlan_ok rfl rfl hc (ok_drFine hc) (ok_drTrusts hc) ok_sPlanFind ok_sProgSize ok_sPlanStep
theorem ok_drOff {H0 : Heap} {rb : Nat} {bv : Value} {code : List Int} (hc : RdC H0 rb bv code) : DrawS fnOf H0 rb bv 12 [] 370020 OffQ := drOff_ok rfl rfl hc (ok_drPlan hc) (ok_drTrusts hc)
theorem ok_drPO : DrawPl fnOf 4 := drPO_ok rfl rfl ok_drOff
theorem ok_conInt : ∀ (H : Heap) (v : Value) (l : List Int) (x : Int),SlR Co.int (vw 0 H) v l -> QC fnOf 65 [v,.int .i64 x] H (.bool (decide (x ∈ l))) := conInt_ok rfl rfl
theorem ok_iRow : RowOk fnOf 33 := iRow_ok rfl ok_iIn ok_conInt
theorem ok_sRow : RowOk fnOf 36 := sRow_ok rfl
theorem ok_pclone : PCloneOk fnOf 39 := pclone_ok rfl (cloneSteps_all rfl)
theorem ok_sTSet : TSetOk fnOf 10 := sTSet_ok rfl ok_sHas ok_sSet ok_sRow
theorem ok_iTSet : TSetOk fnOf 9 := iTSet_ok rfl ok_iSet ok_iRow (turned_ok rfl ok_iHas)
theorem ok_iTurnProg : TurnPOk fnOf 11 (fun _ => 3) turnLH turnH := iTurnProg_ok rfl ok_iProg ok_iRow ok_pclone rfl rfl (turned_ok rfl ok_iHas)
theorem ok_lcRow : LcRowOk fnOf 8 := lcRow_ok rfl
theorem ok_drTS : DrawTS fnOf 5 := drTS_ok rfl rfl rfl rfl
theorem ok_lawTPl : LawB2 fnOf 3 := lawTPl_ok rfl ok_drPO ok_drTS ok_iPlanOk ok_sPlanOk ok_lcRow ok_iTSet ok_sTSet ok_iTurnProg
end Go.Proofs.YtbjeldblaclpnaaGreatI
end
section
set_option linter.unusedVariables false
set_option linter.unusedSimpArgs false
namespace Go.Proofs.YtbjeldblaclpnaaGreatI
open Go Go.RowKit
theorem Good.byte {w : World} {n : Int} (h : (Lit.int .u8 n).wf = true) : Good Co.byte w [.int .u8 n] := fun H m s =>
 ⟨n,[],m,[.int .u8 n],by simpa using s,sub_refl m,⟨rfl,by simpa [Lit.wf,IntKind.min,IntKind.max,IntKind.signed,IntKind.bits] using h⟩,All2.cons (.inl rfl) All2.nil⟩
theorem good_5 {T : Type} {enc : TypeId × Value -> T} {w : World} {spare : Nat -> Bool} {held : Bool} {n : Nat} {cs : List Value} {x : DataW T × List MemPlace} (h : DataW.trod enc Tryz.prog w 0 spare held n 5 cs = some x) : Good Co.byte w cs := by
 obtain ⟨m,rfl,_,hw⟩ := DataW.trod_int Tryz.underlying5 h
 exact Good.byte hw
theorem good_22 {T : Type} {enc : TypeId × Value -> T} {w : World} {spare : Nat -> Bool} {held : Bool} {n : Nat} {cs : List Value} {x : DataW T × List MemPlace} (h : DataW.trod enc Tryz.prog w 0 spare held n 22 cs = some x) : Good (Co.sl Co.byte) w cs :=
 Good.sl Tryz.underlying22 (by kernel_rfl) (by decide) h fun _ _ _ _ h => good_5 h
theorem lawB2_calls {n : Nat} (hl : LawB2 fnOf n) {W : World} {a b : Option Addr} {l c l' c' : Nat} (g0 : Good (Co.sl Co.byte) W [.slice a l c]) (g1 : Good (Co.sl Co.byte) W [.slice b l' c']) :
  Calls Tryz.prog n #[.slice a l c,.slice b l' c'] W fun e w' => e = .returned (.bool true) /\ Below W.heap.size W w' := by
 obtain ⟨ts,L,m,cs0,s,q,r,e⟩ := g0 [] (fun _ => none) (SL.none _)
 rw [List.nil_append] at s r
 obtain ⟨ts',L2,m2,cs1,s2,q2,r2,e2⟩ := g1 L m s
 obtain ⟨u,rfl,hu⟩ := r
 obtain ⟨u',rfl,hu'⟩ := r2
 exact law_core hF hMixed s2 (vals := [u,u']) (All2.cons (VR.one_mk (e.mono fun _ _ _ h => VR1.mono q2 h)) (All2.cons (VR.one_mk e2) All2.nil)) (hl _ u u' ts ts' (hu.mono (vw_app 0 L L2)) hu')
end Go.Proofs.YtbjeldblaclpnaaGreatI
end
