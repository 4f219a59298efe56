/- Texts of this proof, merged: M5. -/
import Derived.Test.YtbjeldblaclpnaaGreatPz4
import Derived.ProofKit
import Derived.ChangeOld
import Derived.ChangeSlices
import Derived.Deep.Strs
import Derived.Below
section
section
set_option linter.unusedVariables false
set_option linter.unusedSimpArgs false
namespace Go.Proofs.YtbjeldblaclpnaaGreatI
open Go Go.RowKit
def SimI (c c' : Value) : Prop := c' = c \/ (∃ n,c = .int .i64 n) /\ ∃ n',c' = .int .i64 n' /\ -9223372036854775808 <= n' /\ n' <= 9223372036854775807
theorem SimI.trans {a b c : Value} (h : SimI a b) (h' : SimI b c) : SimI a c := by
 rcases h' with rfl | ⟨⟨m,rfl⟩,h2⟩
 ·exact h
 ·rcases h with h | ⟨h1,_⟩
  ·exact .inr ⟨⟨m,h.symm⟩,h2⟩
  ·exact .inr ⟨h1,h2⟩
def CsSim (cs cs' : List Value) : Prop := cs'.length = cs.length /\ ∀ (i : Nat) (c : Value),cs[i]? = some c -> ∃ c' : Value,cs'[i]? = some c' /\ SimI c c'
theorem CsSim.refl (cs : List Value) : CsSim cs cs := ⟨rfl,fun _ c h => ⟨c,h,.inl rfl⟩⟩
theorem CsSim.trans {a b c : List Value} (h : CsSim a b) (h' : CsSim b c) : CsSim a c := ⟨h'.1.trans h.1,fun i x hx => let ⟨y,hy,h1⟩ := h.2 i x hx; let ⟨z,hz,h2⟩ := h'.2 i y hy; ⟨z,hz,h1.trans h2⟩⟩
theorem CsSim.cut {a b : List Value} (h : CsSim a b) (o n : Nat) : CsSim ((a.drop o).take n) ((b.drop o).take n) := by
 refine ⟨by simp only [List.length_take,List.length_drop,h.1],fun i c hc => ?_⟩
 by_cases hi : i < n
 ·rw [List.getElem?_take_of_lt hi,List.getElem?_drop] at hc ⊢
  exact h.2 _ _ hc
 ·rw [List.getElem?_take_eq_none (by omega)] at hc; cases hc
theorem CsSim.split {x y cs : List Value} (h : CsSim (x ++ y) cs) : ∃ x' y',cs = x' ++ y' /\ CsSim x x' /\ CsSim y y' := by
 refine ⟨cs.take x.length,cs.drop x.length,(List.take_append_drop _ _).symm,?_,?_⟩
 ·have := h.cut 0 x.length
  simpa using this
 ·have := h.cut x.length y.length
  have e : (cs.drop x.length).take y.length = cs.drop x.length := List.take_of_length_le (by rw [List.length_drop,h.1,List.length_append]; omega)
  rw [e] at this
  simpa using this
def vwb (lo hi : Nat) (H : Heap) : Vw := fun b => if lo <= b /\ b < hi then (H[b]?).bind (fun k => if k.solo = true then some k.cells else none) else none
theorem vwb_some {lo hi : Nat} {H : Heap} {b : Nat} {cs : List Value} (h : vwb lo hi H b = some cs) : lo <= b /\ b < hi /\ ∃ es et ap,H[b]? = some ⟨cs,es,et,ap,true⟩ := by
 unfold vwb at h
 split at h
 ·rename_i h1
  cases hk : H[b]? with
  | none => simp [hk] at h
  | some k =>
    simp only [hk,Option.bind_some] at h
    split at h
    ·rename_i hs
     simp only [Option.some.injEq] at h
     subst h
     obtain ⟨cs,es,et,ap,so⟩ := k
     simp only at hs
     subst hs
     exact ⟨h1.1,h1.2,_,_,_,rfl⟩
    ·cases h
 ·cases h
theorem vwb_mk {lo hi : Nat} {H : Heap} {b : Nat} {cs : List Value} {es et : Nat} {ap : Bool} (h1 : lo <= b) (h2 : b < hi) (h : H[b]? = some ⟨cs,es,et,ap,true⟩) : vwb lo hi H b = some cs := by
 unfold vwb
 rw [if_pos ⟨h1,h2⟩,h]
 rfl
theorem vwb_vw {lo hi : Nat} {H H' : Heap} (h : ∀ b,lo <= b -> b < hi -> H'[b]? = H[b]?) : Sub (vwb lo hi H) (vw 0 H') := by
 intro b cs hb
 obtain ⟨h1,h2,es,et,ap,h3⟩ := vwb_some hb
 unfold vw
 rw [if_pos (Nat.zero_le _),h b h1 h2,h3]
 rfl
theorem vws_vwb {lo : Nat} {H : Heap} {hi : Nat} (h : H.length <= hi) : Sub (vws lo H) (vwb lo hi H) := by
 intro b cs hb
 unfold vws at hb
 unfold vwb
 split at hb
 ·rename_i h1
  have hb2 : b < hi := by
   cases hk : H[b]? with
   | none => simp [hk] at hb
   | some k => have := (List.getElem?_eq_some_iff.1 hk).1; omega
  rw [if_pos ⟨h1,hb2⟩]
  exact hb
 ·cases hb
def FrI (lo hi : Nat) (H H' : Heap) : Prop := H.length <= H'.length /\ ∀ b,b < H.length -> H'[b]? = H[b]? \/ (lo <= b /\ b < hi /\ ∃ k k',H[b]? = some k /\ H'[b]? = some k' /\ k'.solo = k.solo /\ CsSim k.cells k'.cells)
theorem FrI.refl (lo hi : Nat) (H : Heap) : FrI lo hi H H := ⟨Nat.le_refl _,fun _ _ => .inl rfl⟩
theorem FrI.grow {lo hi : Nat} (H L : Heap) : FrI lo hi H (H ++ L) := ⟨by rw [List.length_append]; omega,fun b hb => .inl (List.getElem?_append_left hb)⟩
theorem FrI.trans {lo hi : Nat} {H H1 H2 : Heap} (h : FrI lo hi H H1) (h' : FrI lo hi H1 H2) : FrI lo hi H H2 := by
 refine ⟨Nat.le_trans h.1 h'.1,fun b hb => ?_⟩
 have := h.1
 rcases h.2 b hb with e1 | ⟨l1,l2,k,k',e1,e2,e3,e4⟩
 ·rcases h'.2 b (by omega) with f1 | ⟨l1,l2,k,k',f1,f2,f3,f4⟩
  ·exact .inl (f1.trans e1)
  ·exact .inr ⟨l1,l2,k,k',e1 ▸ f1,f2,f3,f4⟩
 ·rcases h'.2 b (by omega) with f1 | ⟨_,_,q,q',f1,f2,f3,f4⟩
  ·exact .inr ⟨l1,l2,k,k',e1,f1.trans e2,e3,e4⟩
  ·rw [e2] at f1
   simp only [Option.some.injEq] at f1
   subst f1
   exact .inr ⟨l1,l2,k,q',e1,f2,f3.trans e3,e4.trans f4⟩
theorem FrI.out {lo hi : Nat} {H H' : Heap} (h : FrI lo hi H H') {b : Nat} (hb : b < H.length) (ho : b < lo \/ hi <= b) : H'[b]? = H[b]? := by
 rcases h.2 b hb with h1 | ⟨h1,h2,_⟩
 ·exact h1
 ·omega
def VSim (V V' : Vw) : Prop := ∀ b cs,V b = some cs -> ∃ cs',V' b = some cs' /\ CsSim cs cs'
theorem FrI.vsim {lo hi : Nat} {H H' : Heap} (h : FrI lo hi H H') : VSim (vwb lo hi H) (vwb lo hi H') := by
 intro b cs hb
 obtain ⟨h1,h2,es,et,ap,h3⟩ := vwb_some hb
 rcases h.2 b (List.getElem?_eq_some_iff.1 h3).1 with f1 | ⟨_,_,k,k',f1,f2,f3,f4⟩
 ·exact ⟨cs,vwb_mk h1 h2 (f1.trans h3),CsSim.refl _⟩
 ·rw [h3] at f1
  simp only [Option.some.injEq] at f1
  subst f1
  obtain ⟨cs',es',et',ap',so'⟩ := k'
  simp only at f3
  subst f3
  exact ⟨cs',vwb_mk h1 h2 f2,f4⟩
theorem VSim.rng {V V' : Vw} (h : VSim V V') {b o n : Nat} {cs : List Value} (k : rng V b o n = some cs) : ∃ cs',rng V' b o n = some cs' /\ CsSim cs cs' := by
 unfold Go.Proofs.YtbjeldblaclpnaaGreatI.rng at k ⊢
 cases hv : V b with
 | none => simp [hv] at k
 | some c =>
   obtain ⟨c',hc,hs⟩ := h b c hv
   rw [hv] at k
   rw [hc]
   simp only at k ⊢
   split at k
   ·rename_i hl
    simp only [Option.some.injEq] at k
    subst k
    rw [hs.1,if_pos hl]
    exact ⟨_,rfl,hs.cut _ _⟩
   ·cases k
def CoSim {α β : Type} (A : Co α) (s : α -> β) : Prop := ∀ (V V' : Vw) (cs cs' : List Value) (a : α),VSim V V' -> CsSim cs cs' -> A.rd V cs a -> ∃ a',A.rd V' cs' a' /\ s a' = s a
theorem CoSim.comp {α β γ : Type} {A : Co α} {s : α -> β} (h : CoSim A s) (g : β -> γ) : CoSim A (fun a => g (s a)) := fun V V' cs cs' a h1 h2 h3 => let ⟨a',h4,h5⟩ := h V V' cs cs' a h1 h2 h3; ⟨a',h4,congrArg g h5⟩
theorem CoSim.int : CoSim Co.int (fun _ => ()) := by
 rintro V V' cs cs' a _ ⟨h1,h2⟩ ⟨rfl,h3⟩
 obtain ⟨c',h4,h5⟩ := h2 0 _ rfl
 obtain ⟨x,rfl⟩ : ∃ x,cs' = [x] := List.length_eq_one_iff.1 h1
 simp only [List.getElem?_cons_zero,Option.some.injEq] at h4
 subst h4
 rcases h5 with rfl | ⟨_,n',rfl,h6⟩
 ·exact ⟨a,⟨rfl,h3⟩,rfl⟩
 ·exact ⟨n',⟨rfl,h6⟩,rfl⟩
theorem CoSim.bool : CoSim Co.bool (fun _ => ()) := by
 rintro V V' cs cs' a _ ⟨h1,h2⟩ rfl
 obtain ⟨c',h4,h5⟩ := h2 0 _ rfl
 obtain ⟨x,rfl⟩ : ∃ x,cs' = [x] := List.length_eq_one_iff.1 h1
 simp only [List.getElem?_cons_zero,Option.some.injEq] at h4
 subst h4
 rcases h5 with rfl | ⟨⟨_,h⟩,_⟩
 ·exact ⟨a,rfl,rfl⟩
 ·cases h
theorem mk_list {α : Type} (P : Nat -> α -> Prop) : ∀ (n : Nat),(∀ i,i < n -> ∃ a,P i a) -> ∃ l : List α,l.length = n /\ ∀ i (h : i < l.length),P i l[i]
 | 0,_ => ⟨[],rfl,fun i h => by simp at h⟩
 | n + 1,h => by
   obtain ⟨l,h1,h2⟩ := mk_list P n fun i hi => h i (by omega)
   obtain ⟨a,ha⟩ := h n (by omega)
   refine ⟨l ++ [a],by simp [h1],fun i hi => ?_⟩
   by_cases hin : i < l.length
   ·rw [List.getElem_append_left hin]; exact h2 i hin
   ·simp only [List.length_append,List.length_cons,List.length_nil] at hi
    obtain rfl : i = l.length := by omega
    simpa [h1] using ha
theorem CoSim.sl {α β : Type} {A : Co α} {s : α -> β} (hA : CoSim A s) : CoSim (Co.sl A) (fun l => l.map s) := by
 rintro V V' cs cs' l hV ⟨hc1,hc2⟩ ⟨v,rfl,h0,a,rfl,h1⟩
 obtain ⟨c',h4,h5⟩ := hc2 0 _ rfl
 obtain ⟨x,rfl⟩ : ∃ x,cs' = [x] := List.length_eq_one_iff.1 hc1
 simp only [List.getElem?_cons_zero,Option.some.injEq] at h4
 subst h4
 rcases h5 with rfl | ⟨⟨_,h⟩,_⟩
 ·rcases h1 with rfl | ⟨b,o,rfl,h1⟩
  ·exact ⟨[],⟨_,rfl,h0,a,rfl,.inl rfl⟩,rfl⟩
  ·obtain ⟨l',hl,h2⟩ := mk_list (fun i a' => ∀ h : i < l.length,(∃ cs,rng V' b (o + i * A.w) A.w = some cs /\ A.rd V' cs a') /\ s a' = s l[i]) l.length fun i hi => by
    obtain ⟨cs,h3,h4⟩ := h1 i hi
    obtain ⟨cs',h5,h6⟩ := hV.rng h3
    obtain ⟨a',h7,h8⟩ := hA V V' cs cs' _ hV h6 h4
    exact ⟨a',fun _ => ⟨⟨cs',h5,h7⟩,h8⟩⟩
   refine ⟨l',⟨_,rfl,by omega,some ⟨b,o,none⟩,by rw [hl],.inr ⟨b,o,rfl,fun i hi => (h2 i hi (by omega)).1⟩⟩,?_⟩
   refine List.ext_getElem (by simp [hl]) fun i h3 h4 => ?_
   rw [List.length_map] at h3
   rw [List.getElem_map,List.getElem_map]
   exact (h2 i h3 (by omega)).2
 ·cases h
def MkOk (F : Nat -> Option IFn) {α : Type} (A : Co α) (agg : Bool) (f : Nat) (c : α -> Nat) : Prop := ∀ (H : Heap) (v : Value) (a : α) (lo hi lo0 : Nat) (k : Int),Rd A agg (vwb lo hi H) v a -> hi <= H.length -> lo0 <= lo -> 0 <= k -> k + (c a : Nat) <= 9223372036854775807 ->
 ∃ H',NC F lo0 f [v,.int .i64 k] H (.int .i64 (k + (c a : Nat))) H' /\ FrI lo hi H H'
def AllI {α : Type} (A : Co α) : Prop := ∀ V cs a,A.rd V cs a -> ∀ c,c ∈ cs -> ∃ n,c = .int .i64 n
theorem AllI.int : AllI Co.int := fun V cs a h c hc => by rw [h.1] at hc; simp only [List.mem_singleton] at hc; exact ⟨_,hc⟩
def markC (w g : Nat) (agg : Bool) : ICode := .reg none [⟨some 12,none,.mov (.t 0)⟩,⟨some 13,none,.mov (.t 5)⟩,⟨some 14,none,.iad w (.t 12) (.t 13)⟩,
    ⟨some 15,none,.load agg w (.t 14)⟩,⟨some 16,none,.mov (.t 1)⟩,⟨some 17,none,.call .n (.f g) [.t 15,.t 16]⟩,⟨some 1,none,.mov (.t 17)⟩]
theorem sum_take (f : Nat -> Nat) : ∀ (l : List Nat) (i : Nat) (h : i < l.length),(l.take (i + 1)).sum = (l.take i).sum + l[i]
 | a :: l,0,_ => by simp
 | a :: l,i + 1,h => by
   rw [List.take_succ_cons,List.sum_cons,sum_take f l i (by simpa using h),List.take_succ_cons,List.sum_cons,List.getElem_cons_succ]
   omega
theorem sum_take_le : ∀ (l : List Nat) (i : Nat),(l.take i).sum <= l.sum
 | [],i => by simp
 | a :: l,0 => by simp
 | a :: l,i + 1 => by rw [List.take_succ_cons,List.sum_cons,List.sum_cons]; have := sum_take_le l i; omega
theorem MkOk.sl {F : Nat -> Option IFn} {α : Type} {A : Co α} {w f g nt : Nat} {agg : Bool} {c : α -> Nat} (hf : F f = some (markH 18 w (markC w g agg) nt)) (hs : CoSim A c) (hw : A.w = w) (hva : ∀ V cs a,A.rd V cs a -> ∃ v,valOf agg cs = some v) (hg : MkOk F A agg g c) :
  MkOk F (Co.sl A) false f (fun l => (l.map c).sum) := by
 rintro H v l lo hi lo0 k ⟨cs,hc,u,rfl,hr⟩ hhi hlo hk hkn
 simp only [valOf_one,Option.some.injEq] at hc hkn
 subst hc
 have hr0 := hr
 obtain ⟨hn,a,rfl,ha⟩ := hr
 suffices h : ∃ v H',NC F lo0 f [.slice a l.length l.length,.int .i64 k] H v H' /\ v = .int .i64 (k + ((l.map c).sum : Nat)) /\ FrI lo hi H H' by
  obtain ⟨v,H',h1,rfl,h2⟩ := h
  exact ⟨H',h1,h2⟩
 refine NC.mk hf rfl ?_
 refine seq_reg ?_
 simp only [go_sem,binC]
 refine seq_assoc (seq_reg ?_)
 simp only [go_sem,binC]
 refine seq_block (wpc_loop ?_)
 suffices h : ∀ (j i : Nat) (e : Env) (H' : Heap),i + j = l.length -> FrI lo hi H H' -> e 0 = .slice a l.length l.length -> e 5 = .int .i64 i -> e 1 = .int .i64 (k + (((l.map c).take i).sum : Nat)) -> W F lo0 _ e H' _ from
  h l.length 0 _ _ (by omega) (FrI.refl _ _ _) (by simp only [go_sem,binC]) (by simp only [go_sem,binC]; rfl) (by simp only [go_sem,binC]; simp)
 intro j
 induction j with
 | zero =>
   intro i e H' hi2 hfr e0 e5 e1
   refine lp_step ?_
   refine seq_assoc (seq_reg ?_)
   simp only [go_sem,binC,e0,e5]
   refine seq_cond (t := false) (by simp only [go_sem,binC]; rw [decide_eq_false (by omega)]) ?_
   simp only [go_sem,binC]
   refine seq_exit ?_
   simp only [go_sem,binC,thenX_e,out_e,thenX_n]
   refine seq_reg ?_
   simp only [go_sem,binC,e1]
   obtain rfl : i = l.length := by omega
   refine wpc_ret ⟨Or.inr rfl,_,(by simp only [go_sem,binC]; rfl),?_,hfr⟩
   rw [List.take_of_length_le (by rw [List.length_map]; omega)]
 | succ j ih =>
   intro i e H' hi2 hfr e0 e5 e1
   refine lp_step ?_
   refine seq_assoc (seq_reg ?_)
   simp only [go_sem,binC,e0,e5]
   refine seq_cond (t := true) (by simp only [go_sem,binC]; rw [decide_eq_true (by omega)]) ?_
   simp only [go_sem,binC]
   refine seq_skip (seq_block ?_)
   unfold markC
   refine wpc_reg ?_
   have hil : i < l.length := by omega
   obtain ⟨l',hl',hm⟩ := hs.sl _ _ _ _ _ hfr.vsim (CsSim.refl _) (Co.rd_sl.2 hr0)
   obtain ⟨_,a',e6,h7⟩ := Co.rd_sl.1 hl'
   have hll : l'.length = l.length := by have := congrArg List.length hm; simpa using this
   rcases h7 with rfl | ⟨b,o,rfl,h7⟩
   ·simp only [List.length_nil] at hll; omega
   obtain ⟨cs,h8,h9⟩ := h7 i (by omega)
   obtain ⟨x,hx⟩ := hva _ _ _ h9
   rw [hll] at e6
   simp only [Value.slice.injEq] at e6
   obtain ⟨rfl,_⟩ := e6
   have hgc : getCells H' b (o + i * w) w = some cs := hw ▸ rng_gc (rng_sub (vwb_vw (fun _ _ _ => rfl)) h8)
   simp only [go_sem,binC,e0,e5,e1,hgc,hx]
   refine ⟨⟨by omega,by omega⟩,?_⟩
   have hci : c l'[i] = c l[i] := by
    have := congrArg (fun q => q[i]?) hm
    simp only [List.getElem?_map,List.getElem?_eq_getElem hil,List.getElem?_eq_getElem (show i < l'.length by omega),Option.map_some,Option.some.injEq] at this
    exact this
   have hsum := sum_take (fun x => x) (l.map c) i (by rw [List.length_map]; exact hil)
   rw [List.getElem_map] at hsum
   have hle := sum_take_le (l.map c) (i + 1)
   obtain ⟨H2,h10,h11⟩ := hg H' x l'[i] lo hi lo0 (k + (((l.map c).take i).sum : Nat)) ⟨cs,hx,h9⟩ (Nat.le_trans hhi hfr.1) hlo (by omega) (by rw [hci]; omega)
   refine op_callN (by simp only [go_sem,binC]; exact h10) ?_
   simp only [go_sem,binC,out_n,thenX_n]
   refine wpc_reg ?_
   simp only [go_sem,binC,e5]
   have hw1 : IntKind.i64.wrap ((i : Int) + 1) = ((i + 1 : Nat) : Int) := by rw [wrap_id (by omega) (by omega)]; omega
   rw [hw1]
   simp only [go_sem,binC,thenX_n]
   refine ih (i + 1) _ H2 (by omega) (hfr.trans h11) (by simp only [go_sem,binC,e0]) (by simp only [go_sem,binC]) (by simp only [go_sem,binC]; rw [hci]; congr 1; omega)
end Go.Proofs.YtbjeldblaclpnaaGreatI
end
section
set_option linter.unusedVariables false
set_option linter.unusedSimpArgs false
namespace Go.Proofs.YtbjeldblaclpnaaGreatI
open Go Go.RowKit
def Ag (lo hi : Nat) (H H' : Heap) : Prop := ∀ b,lo <= b -> b < hi -> H'[b]? = H[b]?
theorem Ag.refl (lo hi : Nat) (H : Heap) : Ag lo hi H H := fun _ _ _ => rfl
theorem Ag.trans {lo hi lo' hi' : Nat} {H H1 H2 : Heap} (h : Ag lo hi H H1) (h' : Ag lo' hi' H1 H2) (h1 : lo' <= lo) (h2 : hi <= hi') : Ag lo hi H H2 := fun b h3 h4 => (h' b (by omega) (by omega)).trans (h b h3 h4)
theorem Ag.sub {lo hi lo' hi' : Nat} {H H1 : Heap} (h : Ag lo hi H H1) (h1 : lo <= lo') (h2 : hi' <= hi) : Ag lo' hi' H H1 := fun b h3 h4 => h b (by omega) (by omega)
theorem vws_lt {lo : Nat} {H : Heap} {b : Nat} {cs : List Value} (h : vws lo H b = some cs) : lo <= b /\ b < H.length /\ ∃ es et ap,H[b]? = some ⟨cs,es,et,ap,true⟩ := by
 have h1 := vws_vwb (Nat.le_refl _) b cs h
 exact vwb_some h1
theorem Ag.vws {lo : Nat} {H H' : Heap} (h : Ag lo H.length H H') : Sub (vws lo H) (vw 0 H') := by
 intro b cs hb
 obtain ⟨h1,h2,es,et,ap,h3⟩ := vws_lt hb
 unfold vw
 rw [if_pos (Nat.zero_le _),h b h1 h2,h3]
 rfl
theorem Ag.vwb {lo hi : Nat} {H H' : Heap} (h : Ag lo H.length H H') (hh : H.length <= hi) : Sub (Go.Proofs.YtbjeldblaclpnaaGreatI.vws lo H) (Go.Proofs.YtbjeldblaclpnaaGreatI.vwb lo hi H') := by
 intro b cs hb
 obtain ⟨h1,h2,es,et,ap,h3⟩ := vws_lt hb
 exact vwb_mk h1 (by omega) ((h b h1 h2).trans h3)
theorem FrI.ag {lo hi lo' hi' : Nat} {H H' : Heap} (h : FrI lo hi H H') (h1 : hi' <= lo \/ hi <= lo') (h2 : hi' <= H.length) : Ag lo' hi' H H' := fun b h3 h4 => h.out (by omega) (by omega)
theorem sl_cells {α : Type} {A : Co α} {w : Nat} (hw : A.w = w) {H : Heap} {v : Value} {l : List α} (h : SlR A (vw 0 H) v l) (hl : l ≠ []) :
  ∃ b o ys,v = .slice (some ⟨b,o,none⟩) l.length l.length /\ getCells H b o (l.length * w) = some ys /\ ys.length = l.length * w /\ ∀ i (h : i < l.length),A.rd (vw 0 H) ((ys.drop (i * w)).take w) l[i] := by
 obtain ⟨h0,a,rfl,h1⟩ := h
 obtain ⟨b,o,rfl,h1'⟩ := h1.resolve_left hl
 clear h1
 have h1 := h1'
 clear h1'
 have hpos : 0 < l.length := List.length_pos_iff.2 hl
 rw [hw] at h1
 obtain ⟨cs,h2,_⟩ := h1 (l.length - 1) (by omega)
 have h3 := rng_gc h2
 unfold getCells at h3
 split at h3
 ·rename_i k hk
  split at h3
  ·rename_i hl2
   have hm : l.length * w = (l.length - 1) * w + w := by
    obtain ⟨n,hn⟩ : ∃ n,l.length = n + 1 := ⟨l.length - 1,by omega⟩
    rw [hn,Nat.succ_mul]; rfl
   refine ⟨b,o,(k.cells.drop o).take (l.length * w),rfl,?_,?_,fun i hi => ?_⟩
   ·unfold getCells
    rw [hk]
    simp only
    rw [if_pos (by omega)]
   ·rw [List.length_take,List.length_drop]; omega
   ·obtain ⟨cs',h5,h6⟩ := h1 i hi
    have h7 := rng_gc h5
    unfold getCells at h7
    rw [hk] at h7
    simp only at h7
    have hi2 : i * w + w <= l.length * w := by rw [<- Nat.succ_mul]; exact Nat.mul_le_mul_right _ hi
    rw [if_pos (by omega)] at h7
    simp only [Option.some.injEq] at h7
    rw [<- h7] at h6
    have e : (((k.cells.drop o).take (l.length * w)).drop (i * w)).take w = (k.cells.drop (o + i * w)).take w := by
     rw [List.drop_take,List.take_take,List.drop_drop,Nat.min_eq_left (by omega)]
    rw [e]
    exact h6
  ·cases h3
 ·cases h3
theorem CoSim.len {α β : Type} {A : Co α} {s : α -> β} (h : CoSim A s) (w : Nat) : CoSim (Co.sl A) (fun l => l.length * w) := by
 intro V V' cs cs' l h1 h2 h3
 obtain ⟨l',h4,h5⟩ := h.sl V V' cs cs' l h1 h2 h3
 have h6 : l'.length = l.length := by simpa using congrArg List.length h5
 exact ⟨l',h4,congrArg (· * w) h6⟩
theorem CoSim.sum {α : Type} {A : Co α} {c : α -> Nat} (h : CoSim A c) : CoSim (Co.sl A) (fun l => (l.map c).sum) := h.sl.comp List.sum
theorem wpc_gen {F : Nat -> Option IFn} {lo : Nat} {c : ICode} {e : Env} {H L : Heap} {K : X -> Env -> Heap -> Prop} (h : ∀ Hb,Hb = H ++ L -> wpc F lo c e Hb K) : wpc F lo c e (H ++ L) K := h _ rfl
end Go.Proofs.YtbjeldblaclpnaaGreatI
end
section
set_option linter.unusedVariables false
set_option linter.unusedSimpArgs false
namespace Go.Proofs.YtbjeldblaclpnaaGreatI
open Go Go.RowKit Go.ChangeShapes
structure SL (m : MM) (H : Heap) (h : Array Obj) : Prop where
 dom : ∀ b x,m b = some x -> b < H.length
 cell : ∀ b x k,m b = some x -> H[b]? = some k -> ∃ cs t fr,h[x.blk]? = some (.cells cs t fr) /\ ∀ (j : Nat) (v : Value),k.cells[j]? = some v -> ∃ v',cs[x.off + j]? = some v' /\ VR1 m v v'
 lt : ∀ b x,m b = some x -> x.blk < h.size
 na : ∀ (b : Nat) (k : Blk),H[b]? = some k -> k.app = false
theorem SL.sim {m : MM} {H : Heap} {h : Array Obj} (s : SL m H h) : Sim H.length (ltN h.size) m H h := by
 refine ⟨s.dom,s.cell,?_,?_,fun b x _ hm => s.lt b x hm,fun _ hk => hk,Nat.le_refl _,fun b x k _ hk ha => by rw [s.na b k hk] at ha; cases ha⟩
 ·intro b x k hl hm; exact absurd (s.dom b x hm) (by omega)
 ·intro b b' x x' k k' _ hl _ hm; exact absurd (s.dom b x hm) (by omega)
theorem SL.none (h : Array Obj) : SL (fun _ => .none) [] h := by
 refine ⟨?_,?_,?_,?_⟩
 ·intro b x h; cases h
 ·intro b x k h; cases h
 ·intro b x h; cases h
 ·intro b k h; simp at h
section
variable {T : Type} {enc : TypeId × Value -> T} {P : Program} {w : World} {spare : Nat -> Bool} {held : Bool}
def Good {α : Type} (A : Co α) (w : World) (cs : List Value) : Prop := ∀ (H : Heap) (m : MM),SL m H w.heap -> ∃ a L m' cs0,SL m' (H ++ L) w.heap /\ m.sub m' /\ A.rd (vw 0 (H ++ L)) cs0 a /\ All2 (VR1 m') cs0 cs
theorem sub_refl (m : MM) : m.sub m := fun _ _ h => h
theorem sub_trans {m m' m'' : MM} (h : m.sub m') (h' : m'.sub m'') : m.sub m'' := fun b x k => h' b x (h b x k)
theorem Good.int {n : Int} (h : (Lit.int .i64 n).wf = true) : Good Co.int w [.int .i64 n] := fun H m s =>
 ⟨n,[],m,[.int .i64 n],by simpa using s,sub_refl m,⟨rfl,by simpa [Lit.wf,IntKind.min,IntKind.max,IntKind.signed,IntKind.bits] using h⟩,All2.cons (.inl rfl) All2.nil⟩
theorem Good.bool {b : Bool} : Good Co.bool w [.bool b] := fun H m s => ⟨b,[],m,[.bool b],by simpa using s,sub_refl m,rfl,All2.cons (.inl rfl) All2.nil⟩
theorem add_add (a : Addr) (x y : Nat) : (a.add x).add y = a.add (x + y) := by
 unfold Addr.add
 by_cases hx : x = 0
 ·simp [hx]
 ·by_cases hy : y = 0
  ·simp [hx,hy]
  ·simp [hx,hy,Nat.add_assoc]
theorem cell_at {a : Addr} {j : Nat} {v : Value} (h : w.cell? (a.add j) = some v) : ∃ cs t fr,w.heap[a.block]? = some (.cells cs t fr) /\ cs[a.off + j]? = some v /\ (j = 0 -> a.spot = none) := by
 unfold World.cell? at h
 rw [block_add] at h
 split at h
 ·rename_i c t fr hc
  split at h
  ·cases h
  ·rename_i hs
   refine ⟨c,t,fr,hc,?_,fun hj => ?_⟩
   ·unfold Addr.add at h
    split at h
    ·rename_i hj; subst hj; simpa using h
    ·exact h
   ·subst hj
    simpa [Addr.add] using hs
 ·cases h
theorem Good.sl {α : Type} {A : Co α} {fuel : Nat} {t e : TypeId} {cs : List Value} {x : DataW T × List MemPlace} (ht : P.underlying t = some (.slice e)) (hw : P.cellsOf e = A.w) (h0 : 0 < A.w)
  (h : DataW.trod enc P w 0 spare held fuel t cs = some x) (he : ∀ n cs x,n < fuel -> DataW.trod enc P w 0 spare held n e cs = some x -> Good A w cs) : Good (Co.sl A) w cs := by
 rcases DataW.trod_slice ht h with ⟨rfl,_⟩ | ⟨a,len,cap,elems,rest,n,rfl,rfl,_,_,hl,hm,hlen,hel,_,_⟩
 ·exact fun H m s => ⟨[],[],m,[.slice none 0 0],by simpa using s,sub_refl m,⟨_,rfl,by simp,none,rfl,.inl rfl⟩,All2.cons (.inl ⟨rfl,rfl⟩) All2.nil⟩
 intro H m s
 rcases Nat.eq_zero_or_pos len with hz | hpos
 ·subst hz
  exact ⟨[],[],m,[.slice (some ⟨0,1,none⟩) 0 0],by simpa using s,sub_refl m,⟨_,rfl,by simp,_,rfl,.inl rfl⟩,All2.cons (.inl (.inr ⟨rfl,by simp,_,_,rfl⟩)) All2.nil⟩
 have key : ∀ k,k <= len -> ∃ (l : List α) (L : Heap) (m' : MM) (big : List Value),l.length = k /\ big.length = k * A.w /\ SL m' (H ++ L) w.heap /\ m.sub m' /\
   (∀ i (h : i < l.length),A.rd (vw 0 (H ++ L)) ((big.drop (i * A.w)).take A.w) l[i]) /\ (∀ j v,big[j]? = some v -> ∃ v',w.cell? (a.add j) = some v' /\ VR1 m' v v') := by
  intro k
  induction k with
  | zero => exact fun _ => ⟨[],[],m,[],rfl,by simp,by simpa using s,sub_refl m,fun i h => by simp at h,fun j v h => by simp at h⟩
  | succ k ih =>
    intro hk
    obtain ⟨l,L,m1,big,h1,h2,h3,h4,h5,h6⟩ := ih (by omega)
    have hk' := hel k (by omega)
    have hke : k < elems.length := by omega
    rw [List.getElem?_eq_getElem hke,Option.bind_eq_some_iff,hw] at hk'
    obtain ⟨ck,hc,hd⟩ := hk'
    obtain ⟨b,L2,m2,c2,s2,q2,r2,e2⟩ := he n ck _ (by omega) hd (H ++ L) m1 h3
    have hcl := A.len r2
    rw [List.append_assoc] at s2 r2
    refine ⟨l ++ [b],L ++ L2,m2,big ++ c2,by simp [h1],by rw [List.length_append,h2,hcl,Nat.succ_mul],s2,sub_trans h4 q2,?_,?_⟩
    ·intro i hi
     simp only [List.length_append,List.length_cons,List.length_nil,Nat.zero_add] at hi
     by_cases hik : i < l.length
     ·have hb : i * A.w + A.w <= big.length := by rw [h2,<- Nat.succ_mul]; exact Nat.mul_le_mul_right _ (by omega)
      rw [List.getElem_append_left hik,List.drop_append_of_le_length (by omega),List.take_append_of_le_length (by rw [List.length_drop]; omega)]
      exact A.mono (by rw [<- List.append_assoc]; exact vw_app 0 _ _) (h5 i hik)
     ·have hik' : i = k := by omega
      subst hik'
      rw [List.getElem_append_right (by omega)]
      have : big.length = i * A.w := h2
      rw [<- this,List.drop_left,List.take_of_length_le (by omega)]
      simpa [h1] using r2
    ·intro j v hj
     rcases Nat.lt_or_ge j big.length with hjl | hjl
     ·rw [List.getElem?_append_left hjl] at hj
      obtain ⟨v',g1,g2⟩ := h6 j v hj
      exact ⟨v',g1,VR1.mono q2 g2⟩
     ·rw [List.getElem?_append_right hjl] at hj
      have hj2 : j - big.length < c2.length := (List.getElem?_eq_some_iff.1 hj).1
      obtain ⟨_,_,hcell⟩ := World.cells?_some hc
      have hj3 := hcell (j - big.length) (by omega)
      rw [add_add,<- h2,show big.length + (j - big.length) = j by omega] at hj3
      have hl2 : c2.length = ck.length := e2.1
      have hj4 : j - big.length < ck.length := by omega
      obtain ⟨y,hy,hr⟩ := e2.2 (j - big.length) v hj
      exact ⟨y,hj3.trans hy,hr⟩
 obtain ⟨l,L,m1,big,h1,h2,h3,h4,h5,h6⟩ := key len (Nat.le_refl _)
 have hbig : 0 < big.length := by rw [h2]; exact Nat.mul_pos hpos h0
 obtain ⟨v0,hv0,_⟩ := h6 0 _ (List.getElem?_eq_getElem hbig)
 obtain ⟨cs0,t0,fr0,g1,_,g3⟩ := cell_at hv0
 have hsp := g3 rfl
 have hblt : a.block < w.heap.size := (Array.getElem?_eq_some_iff.1 g1).1
 have hsub : m1.sub (m1.put (H ++ L).length ⟨a.block,a.off,0,0,0⟩) := by
  intro b x hb
  have := h3.dom b x hb
  simp only [MM.put]
  rw [if_neg (by omega)]
  exact hb
 refine ⟨l,L ++ [⟨big,0,0,false,false⟩],m1.put (H ++ L).length ⟨a.block,a.off,0,0,0⟩,[.slice (some ⟨(H ++ L).length,0,none⟩) l.length l.length],?_,sub_trans h4 hsub,?_,?_⟩
 ·rw [<- List.append_assoc]
  refine ⟨?_,?_,?_,?_⟩
  ·intro b x hb
   rcases MM.put_eq hb with ⟨rfl,_⟩ | ⟨_,hb⟩
   ·simp
   ·have := h3.dom b x hb
    rw [List.length_append]; omega
  ·intro b x k hb hk
   rcases MM.put_eq hb with ⟨rfl,rfl⟩ | ⟨_,hb⟩
   ·rw [List.getElem?_append_right (Nat.le_refl _)] at hk
    simp only [Nat.sub_self,List.getElem?_cons_zero,Option.some.injEq] at hk
    subst hk
    refine ⟨cs0,t0,fr0,g1,fun j v hj => ?_⟩
    obtain ⟨v',u1,u2⟩ := h6 j v hj
    obtain ⟨cs1,t1,fr1,y1,y2,_⟩ := cell_at u1
    rw [g1] at y1
    cases y1
    exact ⟨v',y2,VR1.mono hsub u2⟩
   ·rw [List.getElem?_append_left (h3.dom b x hb)] at hk
    obtain ⟨c1,t1,f1,y1,y2⟩ := h3.cell b x k hb hk
    exact ⟨c1,t1,f1,y1,fun j v hj => let ⟨v',z1,z2⟩ := y2 j v hj; ⟨v',z1,VR1.mono hsub z2⟩⟩
  ·intro b x hb
   rcases MM.put_eq hb with ⟨rfl,rfl⟩ | ⟨_,hb⟩
   ·exact hblt
   ·exact h3.lt b x hb
  ·intro b k hk
   rcases get_snoc hk with ⟨_,hk⟩ | ⟨_,rfl⟩
   ·exact h3.na b k hk
   ·rfl
 ·refine ⟨_,rfl,?_,_,rfl,.inr ⟨_,_,rfl,fun i hi => ⟨_,?_,A.mono (by rw [<- List.append_assoc]; exact vw_app 0 _ _) (h5 i hi)⟩⟩⟩
  ·have : maxLen = 9223372036854775807 := by decide
   omega
  ·have hb : i * A.w + A.w <= big.length := by rw [h2,<- Nat.succ_mul]; exact Nat.mul_le_mul_right _ (by omega)
   unfold rng vw
   rw [if_pos (Nat.zero_le _),<- List.append_assoc,get_new0]
   simp only [List.getElem?_cons_zero,Option.map_some,Nat.zero_add]
   rw [if_pos hb]
 ·refine All2.cons (.inl (.inl ⟨_,MM.put_self _ _ _,rfl,cap,?_,by omega,fun _ => by simp⟩)) All2.nil
  obtain ⟨ab,ao,asp⟩ := a
  simp only at hsp
  subst hsp
  rw [h1]
  rfl
theorem cut {cs : List Value} {o s : Nat} : cs.drop o = (cs.drop o).take s ++ cs.drop (o + s) := by rw [<- List.drop_drop,List.take_append_drop]
end
end Go.Proofs.YtbjeldblaclpnaaGreatI
end
section
set_option linter.unusedVariables false
set_option linter.unusedSimpArgs false
namespace Go.Proofs.YtbjeldblaclpnaaGreatI
open Go Go.RowKit
end Go.Proofs.YtbjeldblaclpnaaGreatI
end
section
set_option linter.unusedVariables false
set_option linter.unusedSimpArgs false
namespace Go.Proofs.YtbjeldblaclpnaaGreatI
open Go Go.RowKit
def Co.val : Co (Int × Int × Int) := Co.pair Co.int (Co.pair Co.int Co.int)
def TStep : Nat -> Type
 | 0 => Empty
 | n + 1 => Int × Int × (Int × Int × Int) × Int × List (TStep n) × List (TStep n)
def Co.step : (n : Nat) -> Co (TStep n)
 | 0 => ⟨8,fun _ _ _ => False,fun _ => True,fun _ h => h,fun h => h.elim,fun h => h.elim⟩
 | n + 1 => Co.pair Co.int (Co.pair Co.int (Co.pair Co.val (Co.pair Co.int (Co.pair (Co.sl (Co.step n)) (Co.sl (Co.step n))))))
theorem step_w : ∀ n,(Co.step n).w = 8
 | 0 => rfl
 | n + 1 => rfl
def TProg (n : Nat) := List (Int × Int) × List (TStep n)
def Co.prog (n : Nat) : Co (TProg n) := Co.pair (Co.sl Co.p2) (Co.sl (Co.step n))
section
variable {F : Nat -> Option IFn} {lo : Nat} {e : Env} {H : Heap} {K : Value -> Prop} {k : IntKind} {x y : Int}
theorem cmp_lss (h1 : x < y -> K (.bool true)) (h2 : ¬ x < y -> K (.bool false)) : optP (binI .lss k x y) K := by
 show K (.bool (decide (x < y)))
 by_cases h : x < y
 ·rw [decide_eq_true h]; exact h1 h
 ·rw [decide_eq_false h]; exact h2 h
theorem cmp_leq (h1 : x <= y -> K (.bool true)) (h2 : ¬ x <= y -> K (.bool false)) : optP (binI .leq k x y) K := by
 show K (.bool (decide (x <= y)))
 by_cases h : x <= y
 ·rw [decide_eq_true h]; exact h1 h
 ·rw [decide_eq_false h]; exact h2 h
theorem cmp_gtr (h1 : y < x -> K (.bool true)) (h2 : ¬ y < x -> K (.bool false)) : optP (binI .gtr k x y) K := by
 show K (.bool (decide (y < x)))
 by_cases h : y < x
 ·rw [decide_eq_true h]; exact h1 h
 ·rw [decide_eq_false h]; exact h2 h
theorem cmp_geq (h1 : y <= x -> K (.bool true)) (h2 : ¬ y <= x -> K (.bool false)) : optP (binI .geq k x y) K := by
 show K (.bool (decide (y <= x)))
 by_cases h : y <= x
 ·rw [decide_eq_true h]; exact h1 h
 ·rw [decide_eq_false h]; exact h2 h
theorem cmp_eql (h1 : x = y -> K (.bool true)) (h2 : ¬ x = y -> K (.bool false)) : optP (binI .eql k x y) K := by
 show K (.bool (x == y))
 by_cases h : x = y
 ·rw [beq_iff_eq.2 h]; exact h1 h
 ·rw [beq_eq_false_iff_ne.2 h]; exact h2 h
theorem cmp_neq (h1 : x = y -> K (.bool false)) (h2 : ¬ x = y -> K (.bool true)) : optP (binI .neq k x y) K := by
 show K (.bool (x != y))
 by_cases h : x = y
 ·have : (x != y) = false := by simp [h]
  rw [this]; exact h1 h
 ·have : (x != y) = true := by simp [h]
  rw [this]; exact h2 h
theorem op_callB {g : Nat} {args : List Opd} {b : Bool} {K : Value -> Heap -> Prop} (h : QC F g (args.map (·.ev e)) H (.bool b)) (k1 : b = true -> K (.bool true) H) (k2 : b = false -> K (.bool false) H) : wpOp F lo (.call .q (.f g) args) e H K :=
 op_callQ h (by cases b; exact k2 rfl; exact k1 rfl)
theorem fin_t {n : Nat} {K : Value -> Heap -> Prop} {X : X} (hx : X = .r) (h : K (e n) H) : fin [.t n] K X e H := ⟨.inr hx,_,rfl,h⟩
end
end Go.Proofs.YtbjeldblaclpnaaGreatI
end
section
set_option linter.unusedVariables false
set_option linter.unusedSimpArgs false
namespace Go.Proofs.YtbjeldblaclpnaaGreatI
open Go Go.RowKit
theorem law_core {P : Program} {F : Nat -> Option IFn} {cm : Nat -> CM} {n : Nat} (hF : ∀ g fn,F g = some fn -> cFn P cm g = some fn) (hm : P.follows .mixedOrders = true) {W : World} {L : Heap} {m : MM} (s : SL m L W.heap) {vals : List Value} {args : Array Value}
  (hv : All2 (VR m) vals args.toList) (hq : QC F n vals L (.bool true)) : Calls P n args W fun e w' => e = .returned (.bool true) /\ Below W.heap.size W w' := by
 obtain ⟨fn,x,e1,H1,h1,h2,h3,h4,h5,h6⟩ := hq
 refine call_core (hF _ _ h1) h2 (sound hF hm h3) h4 h5 s.sim hv _ ?_
 intro v' w' m' _ _ q3 q4
 exact ⟨by rw [q3.bool],q4.below⟩
theorem VR.one_mk {m : MM} {v v' : Value} (h : All2 (VR1 m) [v] [v']) : VR m v v' := by
 obtain ⟨y,hy,hr⟩ := h.2 0 v rfl
 simp only [List.getElem?_cons_zero,Option.some.injEq] at hy
 subst hy
 exact .inl (.inl hr)
end Go.Proofs.YtbjeldblaclpnaaGreatI
end
section
set_option linter.unusedVariables false
set_option linter.unusedSimpArgs false
namespace Go.Proofs.YtbjeldblaclpnaaGreatI
open Go Go.RowKit
section
variable (F : Nat -> Option IFn) (lo : Nat) (Z : List Nat)
def wpx (p : Nat) (l : List IOper) (e : Env) (B L : Heap) (K : Env -> Heap -> Prop) : Prop :=
 (∀ b,b ∈ Z -> b < B.length) -> ∃ e1 H1,BS F lo (.prx Z p l) e (B ++ L) .n e1 H1 /\ K e1 H1
def Kx (p : Nat) (r : List IOper) (d : Option Nat) (e : Env) (B L : Heap) (K : Env -> Heap -> Prop) (v : Value) (H1 : Heap) : Prop := ∃ L',H1 = hide Z B ++ L' /\ wpx F lo Z p r (putE e d v) B L' K
variable {F lo Z}
@[go_sem] theorem Kx_app (p : Nat) (r : List IOper) (d : Option Nat) (e : Env) (B L L' : Heap) (K : Env -> Heap -> Prop) (v : Value) : Kx F lo Z p r d e B L K v (hide Z B ++ L') = wpx F lo Z p r (putE e d v) B L' K :=
 propext ⟨fun ⟨L2,h1,h2⟩ => by rw [List.append_cancel_left_eq] at h1; subst h1; exact h2,fun h => ⟨L',rfl,h⟩⟩
@[go_sem] theorem Kx_nil (p : Nat) (r : List IOper) (d : Option Nat) (e : Env) (B L : Heap) (K : Env -> Heap -> Prop) (v : Value) : Kx F lo Z p r d e B L K v (hide Z B) = wpx F lo Z p r (putE e d v) B [] K := by
 have := Kx_app p r d e B L [] K v (F := F) (lo := lo) (Z := Z)
 rwa [List.append_nil] at this
theorem wpx_zero {l : List IOper} {e : Env} {B L : Heap} {K : Env -> Heap -> Prop} (h : wpo F lo l e (B ++ L) K) : wpx F lo Z 0 l e B L K := fun _ =>
 let ⟨e1,H1,h1,h2⟩ := wpo_sound h; ⟨e1,H1,BS.px0 h1,h2⟩
theorem wpx_A {p : Nat} {d : Option Nat} {op : IOp} {r : List IOper} {e : Env} {B L : Heap} {K : Env -> Heap -> Prop} (hn : isB op = false) (h : wpOp F (B.length + L.length) op e (hide Z B ++ L) (Kx F lo Z p r d e B L K)) : wpx F lo Z (p + 1) (⟨d,none,op⟩ :: r) e B L K := by
 intro hX
 obtain ⟨v,H1,h1,L',rfl,h3⟩ := wpOp_sound (d := d) h
 obtain ⟨e1,H2,h4,h5⟩ := h3 hX
 have hex := h1.ext
 have hX' : ∀ b,b ∈ Z -> b < (B ++ L).length := fun b hb => by have := hX b hb; rw [List.length_append]; omega
 have hh : hide Z (B ++ L) = hide Z B ++ L := hide_app L hX
 have hL : L' = L ++ L'.drop L.length := by
  have h6 : L'.take L.length = L := by
   refine List.ext_getElem? fun i => ?_
   by_cases hi : i < L.length
   ·rw [List.getElem?_take_of_lt hi]
    have := hex.2 (B.length + i) (by omega) (by rw [List.length_append,hide_length]; omega)
    rw [List.getElem?_append_right (by rw [hide_length]; omega),List.getElem?_append_right (by rw [hide_length]; omega),hide_length] at this
    simpa using this
   ·rw [List.getElem?_take_eq_none (by omega),List.getElem?_eq_none (by omega)]
  have h7 := List.take_append_drop L.length L'
  rw [h6] at h7
  exact h7.symm
 refine ⟨e1,H2,BS.pxA (e1 := putE e d v) (L := L'.drop L.length) rfl hn ?_ ?_,h5⟩
 ·have : (B ++ L).length = B.length + L.length := List.length_append
  rw [hh,this,List.append_assoc,<- hL]
  exact h1
 ·rw [List.append_assoc,<- hL]
  exact h4
theorem wpx_B {p : Nat} {d g : Nat} {args : List Opd} {r : List IOper} {e : Env} {B B' L : Heap} {v : Value} {K : Env -> Heap -> Prop} (hl : B'.length = B.length) (hne : ∀ b,b ∉ Z -> B'[b]? = B[b]?)
  (hc : ∀ (b : Nat) (k k' : Blk),B[b]? = some k -> B'[b]? = some k' -> ∀ (j : Nat) (v : Value),k'.cells[j]? = some v -> k.cells[j]? = some v \/ scal1 v = true) (hs : scal v = true)
  (h : ∀ E,∃ G,NC F lo g (args.map (·.ev e)) (B ++ (L ++ E)) v (B' ++ (L ++ (E ++ G)))) (k : wpx F lo Z p r (putE e (some d) v) B' L K) : wpx F lo Z (p + 1) (⟨some d,none,.call .n (.f g) args⟩ :: r) e B L K := by
 intro hX
 obtain ⟨e1,H2,h4,h5⟩ := k (fun b hb => by rw [hl]; exact hX b hb)
 refine ⟨e1,H2,BS.pxB (d := d) (v := v) (H1 := B' ++ L) (fun E => Classical.choose (h E)) rfl rfl rfl hs (by rw [List.length_append,List.length_append,hl]) ?_ ?_ (fun E => ?_) h4,h5⟩
 ·intro b hb
  rw [List.getElem?_append,List.getElem?_append,hl,hne b hb]
 ·intro b k k' h1 h2 j v hj
  rw [List.getElem?_append] at h1 h2
  rw [hl] at h2
  split at h1
  ·rename_i hb
   rw [if_pos hb] at h2
   exact hc b k k' h1 h2 j v hj
  ·rename_i hb
   rw [if_neg hb,h1] at h2
   cases h2
   exact .inl hj
 ·have hh := Classical.choose_spec (h E)
  obtain ⟨fn,x,ee,q1,q2,q3,q4,q5⟩ := hh
  rw [List.append_assoc,List.append_assoc]
  exact BS.callN (first := #[]) (cap := #[]) rfl q1 (by simpa using q2) (by simpa using q3) q4 q5
theorem wpx_N {p : Nat} {d : Option Nat} {op : IOp} {r : List IOper} {e : Env} {B L : Heap} {K : Env -> Heap -> Prop} (hn : isB op = true) (h : wpOp F lo op e (B ++ L) fun v H1 => (∀ b,b ∉ Z -> b < (B ++ L).length -> H1[b]? = (B ++ L)[b]?) /\ wpx F lo Z p r (putE e d v) H1 [] K) : wpx F lo Z (p + 1) (⟨d,none,op⟩ :: r) e B L K := by
 intro hX
 obtain ⟨v,H1,h1,h2,h3⟩ := wpOp_sound (d := d) h
 have hlen := h1.ext.1
 obtain ⟨e1,H2,h4,h5⟩ := h3 fun b hb => by have := hX b hb; rw [List.length_append] at hlen; omega
 rw [List.append_nil] at h4
 exact ⟨e1,H2,BS.pxN rfl hn h1 h2 h4,h5⟩
theorem wpc_regX {p : Nat} {l : List IOper} {e : Env} {H : Heap} {K : X -> Env -> Heap -> Prop} (Z : List Nat) (hX : ∀ b,b ∈ Z -> lo <= b /\ b < H.length) (h : wpx F lo Z p l e H [] (K .n)) : wpc F lo (.reg (some p) l) e H K := by
 obtain ⟨e1,H1,h1,h2⟩ := h fun b hb => (hX b hb).2
 rw [List.append_nil] at h1
 exact ⟨.n,e1,H1,BS.regX hX h1,h2⟩
theorem seq_regX {p : Nat} {l : List IOper} {b : ICode} {e : Env} {H : Heap} {K : X -> Env -> Heap -> Prop} (Z : List Nat) (hX : ∀ b,b ∈ Z -> lo <= b /\ b < H.length) (h : wpx F lo Z p l e H [] fun e1 H1 => wpc F lo b e1 H1 K) : wpc F lo (.seq (.reg (some p) l) b) e H K := wpc_seq (wpc_regX Z hX h)
end
theorem gc_hid {Z : List Nat} {B : Heap} {N : Nat} (h : B.length = N) (L : Heap) (k o n : Nat) : getCells (hide Z B ++ L) (N + k) o n = inBlk L[k]? o n := by
 have h1 : N = (hide Z B).length := by rw [hide_length,h]
 rw [h1]
 exact gc_new _ _ _ _ _
theorem gc_hid0 {Z : List Nat} {B : Heap} {N : Nat} (h : B.length = N) (L : Heap) (o n : Nat) : getCells (hide Z B ++ L) N o n = inBlk L[0]? o n := gc_hid h L 0 o n
theorem gc_hidO {Z : List Nat} {B : Heap} (L : Heap) {b o n : Nat} {cs : List Value} (h : getCells B b o n = some cs) (hZ : b ∉ Z) : getCells (hide Z B ++ L) b o n = some cs := by
 unfold getCells at h ⊢
 split at h
 ·rename_i k hk
  have hl := (List.getElem?_eq_some_iff.1 hk).1
  rw [List.getElem?_append_left (by rw [hide_length]; exact hl),hide_get_ne hZ,hk]
  exact h
 ·cases h
@[go_sem] theorem cells_sliM (b o n : Nat) : Array.toList (Value.cells.match_1 (fun _ => Array Value) (sli b o n) (fun cs => cs) (fun v => #[v])) = [sli b o n] := rfl
@[go_sem] theorem cells_nilM : Array.toList (Value.cells.match_1 (fun _ => Array Value) nilS (fun cs => cs) (fun v => #[v])) = [nilS] := rfl
@[go_sem] theorem cells_ptrM (b o : Nat) : Array.toList (Value.cells.match_1 (fun _ => Array Value) (ptr b o) (fun cs => cs) (fun v => #[v])) = [ptr b o] := rfl
def AgX (xs : List Nat) (H H' : Heap) : Prop := H.length <= H'.length /\ ∀ b,b < H.length -> b ∉ xs -> H'[b]? = H[b]?
theorem AgX.refl (xs : List Nat) (H : Heap) : AgX xs H H := ⟨Nat.le_refl _,fun _ _ _ => rfl⟩
theorem AgX.app (xs : List Nat) (H L : Heap) : AgX xs H (H ++ L) := ⟨by rw [List.length_append]; omega,fun b hb _ => List.getElem?_append_left hb⟩
theorem AgX.set (H : Heap) (b : Nat) (k : Blk) : AgX [b] H (H.set b k) := ⟨by rw [List.length_set]; exact Nat.le_refl _,fun b' _ hn => List.getElem?_set_ne (by simpa using fun h => hn (by simp [h]))⟩
theorem AgX.trans {xs ys zs : List Nat} {H H1 H2 : Heap} (h : AgX xs H H1) (h' : AgX ys H1 H2) (hx : ∀ b,b ∈ xs -> b < H.length -> b ∈ zs) (hy : ∀ b,b ∈ ys -> b < H.length -> b ∈ zs) : AgX zs H H2 :=
 ⟨Nat.le_trans h.1 h'.1,fun b hb hn => (h'.2 b (Nat.lt_of_lt_of_le hb h.1) fun hm => hn (hy b hm hb)).trans (h.2 b hb fun hm => hn (hx b hm hb))⟩
theorem AgX.get {xs : List Nat} {H H' : Heap} (h : AgX xs H H') {b : Nat} {k : Blk} (hk : H[b]? = some k) (hn : b ∉ xs) : H'[b]? = some k := (h.2 b (List.getElem?_eq_some_iff.1 hk).1 hn).trans hk
def vwl (lo : Nat) (xs : List Nat) (H : Heap) : Vw := fun b => if lo <= b /\ b ∉ xs then (H[b]?).map (·.cells) else none
theorem vwl_sub {lo lo' : Nat} {xs xs' ys : List Nat} {H H' : Heap} (h : AgX ys H H') (h1 : lo' <= lo) (h2 : ∀ b,b < H.length -> lo <= b -> b ∉ xs -> b ∉ ys /\ b ∉ xs') : Sub (vwl lo xs H) (vwl lo' xs' H') := by
 intro b cs hb
 unfold vwl at hb ⊢
 split at hb
 ·rename_i h3
  cases hk : H[b]? with
  | none => simp [hk] at hb
  | some k =>
    have hl := (List.getElem?_eq_some_iff.1 hk).1
    obtain ⟨h4,h5⟩ := h2 b hl h3.1 h3.2
    rw [if_pos ⟨by omega,h5⟩,h.2 b hl h4]
    exact hb
 ·cases hb
theorem vwl_vw (lo : Nat) (xs : List Nat) (H : Heap) : Sub (vwl lo xs H) (vw lo H) := by
 intro b cs hb
 unfold vwl at hb
 unfold vw
 split at hb
 ·rename_i h; rw [if_pos h.1]; exact hb
 ·cases hb
def OwnG {α : Type} (A : Co α) (es et lo vl : Nat) (xs : List Nat) (H : Heap) (b : Nat) (so : Bool) (l : List α) : Prop :=
 lo <= b /\ l.length <= 1048576 /\ ∃ cs,H[b]? = some ⟨cs,es,et,true,so⟩ /\ cs.length = l.length * es /\ ∀ i (h : i < l.length),A.rd (vwl vl (b :: xs) H) ((cs.drop (i * es)).take es) l[i]
abbrev OwnL {α : Type} (A : Co α) (es et lo : Nat) (xs : List Nat) (H : Heap) (b : Nat) (so : Bool) (l : List α) : Prop := OwnG A es et lo lo xs H b so l
theorem OwnG.nil {α : Type} {A : Co α} {es et lo vl : Nat} {xs : List Nat} {H : Heap} (h : lo <= H.length) : OwnG A es et lo vl xs (H ++ [⟨[],es,et,true,true⟩]) H.length true ([] : List α) :=
 ⟨h,by simp,[],get_new0 _ _,by simp,fun i hi => by simp at hi⟩
theorem OwnG.sub {α : Type} {A : Co α} {es et lo vl : Nat} {xs xs' ys : List Nat} {H H' : Heap} {b : Nat} {so : Bool} {l : List α} (h : OwnG A es et lo vl xs H b so l) (hx : AgX ys H H') (hb : b ∉ ys) (h2 : ∀ b',b' < H.length -> vl <= b' -> b' ≠ b -> b' ∉ xs -> b' ∉ ys /\ b' ∉ xs') : OwnG A es et lo vl xs' H' b so l := by
 obtain ⟨h3,h4,cs,h5,h6,h7⟩ := h
 refine ⟨h3,h4,cs,hx.get h5 hb,h6,fun i hi => A.mono (vwl_sub hx (Nat.le_refl _) fun b' q1 q2 q3 => ?_) (h7 i hi)⟩
 simp only [List.mem_cons,not_or] at q3 ⊢
 obtain ⟨z1,z2⟩ := h2 b' q1 q2 q3.1 q3.2
 exact ⟨z1,q3.1,z2⟩
theorem OwnG.slR {α : Type} {A : Co α} {es et lo vl : Nat} {xs : List Nat} {H : Heap} {b : Nat} {so : Bool} {l : List α} (hw : A.w = es) (h : OwnG A es et lo vl xs H b so l) (hn : b ∉ xs) (hv : vl <= lo := by omega) : SlR A (vwl vl xs H) (sli b 0 l.length) l := by
 obtain ⟨h3,h4,cs,h5,h6,h7⟩ := h
 refine ⟨by omega,_,rfl,.inr ⟨_,_,rfl,fun i hi => ⟨_,?_,A.mono (vwl_sub (AgX.refl [] H) (Nat.le_refl _) fun b' q1 q2 q3 => ?_) (h7 i hi)⟩⟩⟩
 ·have hi2 : i * es + es <= l.length * es := by rw [<- Nat.succ_mul]; exact Nat.mul_le_mul_right _ hi
  unfold rng vwl
  rw [if_pos ⟨by omega,hn⟩,h5,hw]
  simp only [Option.map_some,Nat.zero_add]
  rw [if_pos (by omega)]
 ·simp only [List.mem_cons,not_or] at q3
  exact ⟨List.not_mem_nil,q3.2⟩
theorem op_app_own {F : Nat -> Option IFn} {lo0 : Nat} {α : Type} {A : Co α} {es et bytes lo vl : Nat} {xs : List Nat} {x y : Opd} {e : Env} {H : Heap} {ys : List Value} {b : Nat} {so : Bool} {l : List α} {a : α} {K : Value -> Heap -> Prop}
  (hv : OwnG A es et lo vl xs H b so l) (hx : x.ev e = sli b 0 l.length) (hy : y.ev e = sli H.length 0 1) (hlo0 : lo0 <= lo) (hw : A.w = es) (hr : A.rd (vwl vl (b :: xs) H) ys a) (hl : l.length < 1048576) (hb : bytes <= 1048576) (hxs : ∀ b',b' ∈ xs -> b' < H.length)
  (k : ∀ H',AgX [b] H H' -> OwnG A es et lo vl xs H' (H.length + 1) (so && decide (l = [])) (l ++ [a]) -> K (sli (H.length + 1) 0 (l.length + 1)) H') : wpOp F lo0 (.app es et bytes false x y) e (H ++ [⟨ys,es,et,true,true⟩]) K := by
 obtain ⟨h3,h4,cs,h5,h6,h7⟩ := hv
 have hyl : ys.length = es := by rw [A.len hr,hw]
 have hbl := (List.getElem?_eq_some_iff.1 h5).1
 have hbytes : (l.length + 1) * bytes <= 1048576 * 1048576 := Nat.mul_le_mul (by omega) hb
 refine op_app _ _ _ _ _ (b := ⟨b,0,none⟩) (n := l.length) (c := l.length) (a := ⟨H.length,0,none⟩) (m := 1) (c' := 1) (ys := ys) (kb := ⟨cs,es,et,true,so⟩) hx hy (by omega) ?_ ?_ ⟨by show lo0 <= b; omega,rfl,rfl,rfl,rfl,by rw [h6],by omega,by omega⟩ ?_
 ·unfold getCells
  rw [get_new0]
  simp only [List.getElem?_cons_zero,Nat.one_mul,Nat.zero_add]
  rw [if_pos (by omega),List.drop_zero,List.take_of_length_le (by omega)]
 ·show (H ++ [_])[b]? = _
  rw [List.getElem?_append_left hbl]; exact h5
 ·simp only [Bool.false_eq_true,if_false,Bool.or_false,List.length_append,List.length_cons,List.length_nil,Nat.zero_add]
  have hset : (H ++ ([⟨ys,es,et,true,true⟩] : Heap)).set b ⟨cs,es,et,false,so && l.length == 0⟩ = H.set b ⟨cs,es,et,false,so && l.length == 0⟩ ++ [⟨ys,es,et,true,true⟩] := List.set_append_left _ _ hbl
  rw [hset,List.append_assoc]
  have hag : AgX [b] H (H.set b ⟨cs,es,et,false,so && l.length == 0⟩ ++ ([⟨ys,es,et,true,true⟩] ++ [⟨cs ++ ys,es,et,true,so && l.length == 0⟩])) := (AgX.set H b _).trans (AgX.app [] _ _) (fun b h _ => h) (fun b h _ => by cases h)
  have hso : (so && decide (l = [])) = (so && l.length == 0) := by cases l <;> simp
  refine k _ hag (show OwnG _ _ _ _ _ _ _ _ _ _ from ⟨by omega,by simp; omega,cs ++ ys,?_,?_,?_⟩)
  ·have : H.length + 1 = (H.set b ⟨cs,es,et,false,so && l.length == 0⟩).length + 1 := by rw [List.length_set]
   rw [this,get_new,hso]
   rfl
  ·rw [List.length_append,h6,hyl,List.length_append,List.length_cons,List.length_nil,Nat.add_mul,Nat.zero_add,Nat.one_mul]
  ·intro i hi
   have hmono : Sub (vwl vl (b :: xs) H) (vwl vl ((H.length + 1) :: xs) (H.set b ⟨cs,es,et,false,so && l.length == 0⟩ ++ ([⟨ys,es,et,true,true⟩] ++ [⟨cs ++ ys,es,et,true,so && l.length == 0⟩]))) := vwl_sub hag (Nat.le_refl _) fun b' q1 q2 q3 => by
    simp only [List.mem_cons,not_or,List.not_mem_nil,not_false_eq_true,and_true] at q3 ⊢
    exact ⟨q3.1,by omega,q3.2⟩
   simp only [List.length_append,List.length_cons,List.length_nil,Nat.zero_add] at hi
   by_cases hil : i < l.length
   ·have hi2 : i * es + es <= l.length * es := by rw [<- Nat.succ_mul]; exact Nat.mul_le_mul_right _ hil
    rw [List.getElem_append_left hil,List.drop_append_of_le_length (by omega),List.take_append_of_le_length (by rw [List.length_drop]; omega)]
    exact A.mono hmono (h7 i hil)
   ·obtain rfl : i = l.length := by omega
    rw [List.drop_append,List.drop_of_length_le (by omega),List.nil_append,h6,Nat.sub_self,List.drop_zero,List.take_of_length_le (by omega)]
    simpa using A.mono hmono hr
def Co.byte : Co Int := ⟨1,fun _ cs n => cs = [.int .u8 n] /\ 0 <= n /\ n <= 255,fun _ => True,fun _ h => h,fun h => by rw [h.1]; rfl,fun h c hc => by rw [h.1] at hc; simp only [List.mem_singleton] at hc; subst hc; rfl⟩
structure RdC (H0 : Heap) (rb : Nat) (bv : Value) (code : List Int) : Prop where
 low : H0.length <= rb
 bytes : SlR Co.byte (vw 0 H0) bv code
 len : code.length <= 2000
def rBlk (bv : Value) (p : Int) : Blk := ⟨[bv,.int .i64 p],0,0,false,true⟩
structure St (H0 : Heap) (rb : Nat) (bv : Value) (p : Int) (H : Heap) : Prop where
 ag : Ag 0 H0.length H0 H
 r : H[rb]? = some (rBlk bv p)
theorem St.lt {H0 : Heap} {rb : Nat} {bv : Value} {p : Int} {H : Heap} (h : St H0 rb bv p H) : rb < H.length := (List.getElem?_eq_some_iff.1 h.r).1
theorem St.mono {H0 : Heap} {rb : Nat} {bv : Value} {code : List Int} {p : Int} {H H' : Heap} {xs : List Nat} (hc : RdC H0 rb bv code) (h : St H0 rb bv p H) (ha : AgX xs H H') (hx : ∀ b,b ∈ xs -> rb < b) : St H0 rb bv p H' := by
 refine ⟨fun b h1 h2 => ?_,ha.get h.r fun hm => by have := hx _ hm; omega⟩
 have := h.lt
 have := hc.low
 rw [ha.2 b (by omega) fun hm => by have := hx _ hm; omega]
 exact h.ag b h1 h2
theorem gc_set {H : Heap} {b : Nat} (hb : b < H.length) (k : Blk) (o n : Nat) : getCells (H.set b k) b o n = inBlk (some k) o n := by unfold getCells; rw [List.getElem?_set_self hb]; rfl
theorem gc_of {H : Heap} {b : Nat} {k : Blk} (h : H[b]? = some k) (o n : Nat) : getCells H b o n = inBlk (some k) o n := by unfold getCells; rw [h]; rfl
theorem AgX.setN {xs : List Nat} {H H' : Heap} (h : AgX xs H H') {b : Nat} (hb : H.length <= b) (k : Blk) : AgX xs H (H'.set b k) := h.trans (AgX.set H' b k) (fun _ h _ => h) (fun b' h1 h2 => by simp only [List.mem_singleton] at h1; omega)
theorem AgX.appN {xs : List Nat} {H H' : Heap} (h : AgX xs H H') (L : Heap) : AgX xs H (H' ++ L) := h.trans (AgX.app xs H' L) (fun _ h _ => h) (fun _ h _ => h)
theorem AgX.tr {xs : List Nat} {H H1 H2 : Heap} (h : AgX xs H H1) (h' : AgX xs H1 H2) : AgX xs H H2 := h.trans h' (fun _ h _ => h) (fun _ h _ => h)
theorem St.setN {H0 : Heap} {rb : Nat} {bv : Value} {code : List Int} {p : Int} {H : Heap} (hc : RdC H0 rb bv code) (h : St H0 rb bv p H) {b : Nat} (hb : rb < b) (k : Blk) : St H0 rb bv p (H.set b k) := h.mono hc (AgX.set H b k) (fun b' h => by simp only [List.mem_singleton] at h; omega)
theorem St.appN {H0 : Heap} {rb : Nat} {bv : Value} {code : List Int} {p : Int} {H : Heap} (hc : RdC H0 rb bv code) (h : St H0 rb bv p H) (L : Heap) : St H0 rb bv p (H ++ L) := h.mono hc (AgX.app [] _ _) (fun _ h => by cases h)
end Go.Proofs.YtbjeldblaclpnaaGreatI
end
section
set_option linter.unusedVariables false
set_option linter.unusedSimpArgs false
namespace Go.Proofs.YtbjeldblaclpnaaGreatI
open Go Go.RowKit
@[go_sem] theorem nilckV_ptr (b o : Nat) : nilckV (ptr b o) = some (ptr b o) := rfl
theorem beq_t {a b : Int} (h : a = b) : (a == b) = true := beq_iff_eq.2 h
theorem beq_f {a b : Int} (h : ¬ a = b) : (a == b) = false := beq_eq_false_iff_ne.2 h
theorem rem_eq {k : IntKind} {x y : Int} (h : y ≠ 0) : binI .rem k x y = some (.int k (x.tmod y)) := by unfold binI; simp only; rw [if_neg h]
theorem quo_eq {k : IntKind} {x y : Int} (h : y ≠ 0) : binI .quo k x y = some (.int k (k.wrap (x.tdiv y))) := by unfold binI; simp only; rw [if_neg h]
theorem xor_eq {k : IntKind} {x y : Int} : binI .xor k x y = some (.int k (k.wrap ((BitVec.ofInt k.bits x ^^^ BitVec.ofInt k.bits y).toNat : Nat))) := rfl
def c_pick : IFn := ⟨2,99,[.t 4],
 .seq (.reg none [⟨some 4,none,.mov (.c (.int .i64 0))⟩])
 (.seq (.reg none [⟨some 7,none,.mov (.t 0)⟩,⟨some 8,none,.mov (.t 0)⟩,⟨some 9,none,.nilck (.t 8)⟩,⟨some 10,none,.fad 1 (.t 9)⟩,
   ⟨some 11,none,.load false 1 (.t 10)⟩,⟨some 12,none,.bin .add (.t 11) (.c (.int .i64 1))⟩,⟨some 13,none,.nilck (.t 7)⟩,⟨some 14,none,.fad 1 (.t 13)⟩,
   ⟨none,none,.store 1 (.t 14) (.t 12)⟩])
 (.seq (.seq (.reg none [⟨some 15,none,.mov (.t 1)⟩,⟨some 16,none,.bin .lss (.t 15) (.c (.int .i64 1))⟩,⟨some 17,none,.mov (.t 16)⟩,
   ⟨some 18,some (17,false),.mov (.t 0)⟩,⟨some 19,some (17,false),.nilck (.t 18)⟩,⟨some 20,some (17,false),.fad 0 (.t 19)⟩,
   ⟨some 21,some (17,false),.load false 1 (.t 20)⟩,⟨some 22,some (17,false),.len (.t 21)⟩,⟨some 23,some (17,false),.bin .eql (.t 22) (.c (.int .i64 0))⟩,
   ⟨some 24,none,.pick (.t 17) (.c (.bool true)) (.t 23)⟩])
  (.cond (.t 24) (.seq (.reg none [⟨some 4,none,.mov (.c (.int .i64 0))⟩])
   (.ret)) (.skip)))
 (.seq (.reg none [⟨some 25,none,.mov (.t 0)⟩,⟨some 26,none,.nilck (.t 25)⟩,⟨some 27,none,.fad 1 (.t 26)⟩,⟨some 28,none,.load false 1 (.t 27)⟩,
   ⟨some 29,none,.bin .sub (.t 28) (.c (.int .i64 1))⟩,⟨some 5,none,.mov (.t 29)⟩])
 (.seq (.seq (.reg none [⟨some 30,none,.mov (.t 5)⟩,⟨some 31,none,.mov (.t 0)⟩,⟨some 32,none,.nilck (.t 31)⟩,⟨some 33,none,.fad 0 (.t 32)⟩,
   ⟨some 34,none,.load false 1 (.t 33)⟩,⟨some 35,none,.len (.t 34)⟩,⟨some 36,none,.bin .lss (.t 30) (.t 35)⟩])
  (.cond (.t 36) (.seq (.reg none [⟨some 37,none,.mov (.t 0)⟩,⟨some 38,none,.nilck (.t 37)⟩,⟨some 39,none,.fad 0 (.t 38)⟩,⟨some 40,none,.load false 1 (.t 39)⟩,
    ⟨some 41,none,.mov (.t 5)⟩,⟨some 42,none,.iad 1 (.t 40) (.t 41)⟩,⟨some 43,none,.load false 1 (.t 42)⟩,⟨some 44,none,.conv .i64 (.t 43)⟩,
    ⟨some 45,none,.mov (.t 1)⟩,⟨some 46,none,.bin .rem (.t 44) (.t 45)⟩,⟨some 4,none,.mov (.t 46)⟩])
   (.ret)) (.skip)))
 (.seq (.reg (some 44) [⟨some 47,none,.mov (.t 0)⟩,⟨some 48,none,.nilck (.t 47)⟩,⟨some 49,none,.fad 0 (.t 48)⟩,⟨some 50,none,.load false 1 (.t 49)⟩,
   ⟨some 51,none,.mov (.t 5)⟩,⟨some 52,none,.mov (.t 0)⟩,⟨some 53,none,.nilck (.t 52)⟩,⟨some 54,none,.fad 0 (.t 53)⟩,⟨some 55,none,.load false 1 (.t 54)⟩,
   ⟨some 56,none,.len (.t 55)⟩,⟨some 57,none,.bin .rem (.t 51) (.t 56)⟩,⟨some 58,none,.iad 1 (.t 50) (.t 57)⟩,⟨some 59,none,.load false 1 (.t 58)⟩,
   ⟨some 60,none,.conv .i64 (.t 59)⟩,⟨some 61,none,.bin .mul (.t 60) (.c (.int .i64 131))⟩,⟨some 62,none,.mov (.t 0)⟩,⟨some 63,none,.nilck (.t 62)⟩,
   ⟨some 64,none,.fad 0 (.t 63)⟩,⟨some 65,none,.load false 1 (.t 64)⟩,⟨some 66,none,.mov (.t 5)⟩,⟨some 67,none,.bin .mul (.t 66) (.c (.int .i64 7))⟩,
   ⟨some 68,none,.bin .add (.t 67) (.c (.int .i64 3))⟩,⟨some 69,none,.mov (.t 0)⟩,⟨some 70,none,.nilck (.t 69)⟩,⟨some 71,none,.fad 0 (.t 70)⟩,
   ⟨some 72,none,.load false 1 (.t 71)⟩,⟨some 73,none,.len (.t 72)⟩,⟨some 74,none,.bin .rem (.t 68) (.t 73)⟩,⟨some 75,none,.iad 1 (.t 65) (.t 74)⟩,
   ⟨some 76,none,.load false 1 (.t 75)⟩,⟨some 77,none,.conv .i64 (.t 76)⟩,⟨some 78,none,.bin .mul (.t 77) (.c (.int .i64 1117))⟩,
   ⟨some 79,none,.bin .add (.t 61) (.t 78)⟩,⟨some 80,none,.mov (.t 5)⟩,⟨some 81,none,.bin .mul (.t 80) (.c (.int .i64 29))⟩,
   ⟨some 82,none,.bin .add (.t 79) (.t 81)⟩,⟨some 83,none,.mov (.t 5)⟩,⟨some 84,none,.mov (.t 0)⟩,⟨some 85,none,.nilck (.t 84)⟩,⟨some 86,none,.fad 0 (.t 85)⟩,
   ⟨some 87,none,.load false 1 (.t 86)⟩,⟨some 88,none,.len (.t 87)⟩,⟨some 89,none,.bin .quo (.t 83) (.t 88)⟩,
   ⟨some 90,none,.bin .mul (.t 89) (.c (.int .i64 53))⟩,⟨some 91,none,.bin .add (.t 82) (.t 90)⟩,⟨some 6,none,.mov (.t 91)⟩])
 (.seq (.reg none [⟨some 92,none,.mov (.t 6)⟩,⟨some 93,none,.mov (.t 6)⟩,⟨some 94,none,.bin .quo (.t 93) (.c (.int .i64 64))⟩,
   ⟨some 95,none,.bin .xor (.t 92) (.t 94)⟩,⟨some 6,none,.mov (.t 95)⟩])
 (.seq (.reg none [⟨some 96,none,.mov (.t 6)⟩,⟨some 97,none,.mov (.t 1)⟩,⟨some 98,none,.bin .rem (.t 96) (.t 97)⟩,⟨some 4,none,.mov (.t 98)⟩])
 (.ret))))))))⟩
def mixX (code : List Int) (p : Int) : Int := code.getD (p % code.length).toNat 0 * 131 + code.getD ((p * 7 + 3) % code.length).toNat 0 * 1117 + p * 29 + p / code.length * 53
def mixV (code : List Int) (p : Int) : Int := ((BitVec.ofInt 64 (mixX code p) ^^^ BitVec.ofInt 64 (mixX code p / 64)).toNat : Nat)
def pickV (code : List Int) (p n : Int) : Int := if n < 1 then 0 else if code = [] then 0 else if p < code.length then (code.getD p.toNat 0) % n else mixV code p % n
theorem pickV_bd (code : List Int) (p : Int) {n : Int} (h : 1 <= n) : 0 <= pickV code p n /\ pickV code p n < n := by
 unfold pickV
 rw [if_neg (by omega)]
 split
 ·omega
 ·split
  ·exact ⟨Int.emod_nonneg _ (by omega),Int.emod_lt_of_pos _ (by omega)⟩
  ·exact ⟨Int.emod_nonneg _ (by omega),Int.emod_lt_of_pos _ (by omega)⟩
theorem pickV_0 (code : List Int) (p : Int) {n : Int} (h : n < 1) : pickV code p n = 0 := by unfold pickV; rw [if_pos h]
theorem rdc_at {H0 : Heap} {rb : Nat} {bv : Value} {code : List Int} (hc : RdC H0 rb bv code) (hne : code ≠ []) : ∃ b o,bv = .slice (some ⟨b,o,none⟩) code.length code.length /\ b < H0.length /\ ∀ H,Ag 0 H0.length H0 H -> ∀ j (hj : j < code.length),getCells H b (o + j) 1 = some [.int .u8 code[j]] := by
 obtain ⟨h0,a,rfl,h1⟩ := hc.bytes
 obtain ⟨b,o,rfl,h2⟩ := h1.resolve_left hne
 replace h1 := h2
 have hpos : 0 < code.length := List.length_pos_iff.2 hne
 have hlt : b < H0.length := by
  obtain ⟨cs,h2,_⟩ := h1 0 hpos
  have h3 := rng_gc h2
  unfold getCells at h3
  split at h3
  ·rename_i k hk; exact (List.getElem?_eq_some_iff.1 hk).1
  ·cases h3
 refine ⟨b,o,rfl,hlt,fun H hag j hj => ?_⟩
 obtain ⟨cs,h2,h3,_⟩ := h1 j hj
 have h4 := rng_gc h2
 subst h3
 simp only [Co.byte,Nat.mul_one] at h4
 unfold getCells at h4 ⊢
 rw [hag b (Nat.zero_le _) hlt]
 exact h4
theorem code_bd {H0 : Heap} {rb : Nat} {bv : Value} {code : List Int} (hc : RdC H0 rb bv code) (j : Nat) : 0 <= code.getD j 0 /\ code.getD j 0 <= 255 := by
 by_cases hj : j < code.length
 ·obtain ⟨h0,a,rfl,h1⟩ := hc.bytes
  obtain ⟨b,o,rfl,h2⟩ := h1.resolve_left (fun h => by rw [h] at hj; simp at hj)
  obtain ⟨cs,_,_,h3⟩ := h2 j hj
  rw [List.getD_eq_getElem?_getD,List.getElem?_eq_getElem hj]
  exact h3
 ·rw [List.getD_eq_getElem?_getD,List.getElem?_eq_none (by omega)]
  simp
theorem mixX_bd {H0 : Heap} {rb : Nat} {bv : Value} {code : List Int} (hc : RdC H0 rb bv code) (hne : code ≠ []) {p : Int} (h0 : 0 <= p) (h1 : p <= 1000000) : 0 <= mixX code p /\ mixX code p <= 100000000 := by
 have hpos : 0 < code.length := List.length_pos_iff.2 hne
 have a1 := code_bd hc (p % code.length).toNat
 have a2 := code_bd hc ((p * 7 + 3) % code.length).toNat
 have a3 : 0 <= p / code.length := Int.ediv_nonneg h0 (by omega)
 have a4 : p / code.length <= p := Int.ediv_le_self _ h0
 unfold mixX
 omega
theorem xor_bd {x : Int} (h0 : 0 <= x) (h1 : x <= 100000000) : (((BitVec.ofInt 64 x ^^^ BitVec.ofInt 64 (x / 64)).toNat : Nat) : Int) <= 9223372036854775807 := by
 obtain ⟨n,rfl⟩ : ∃ n : Nat,x = n := ⟨x.toNat,by omega⟩
 have e1 : ((n : Int) / 64) = ((n / 64 : Nat) : Int) := by omega
 rw [e1,BitVec.ofInt_natCast,BitVec.ofInt_natCast,BitVec.toNat_xor,BitVec.toNat_ofNat,BitVec.toNat_ofNat]
 have h2 : n % 2 ^ 64 ^^^ (n / 64) % 2 ^ 64 < 2 ^ 62 := Nat.xor_lt_two_pow (by omega) (by omega)
 omega
set_option maxRecDepth 20000 in
theorem pick_ok {F : Nat -> Option IFn} {f : Nat} (hf : F f = some c_pick) {H0 H : Heap} {rb lo : Nat} {bv : Value} {code : List Int} {p n : Int} (hc : RdC H0 rb bv code) (hs : St H0 rb bv p H) (hp : 0 <= p) (hp2 : p <= 1000000) (hlo : lo <= rb) :
  NC F lo f [ptr rb 0,.int .i64 n] H (.int .i64 (pickV code p n)) (H.set rb (rBlk bv (p + 1))) := by
 have hr := hs.r
 have hrl := hs.lt
 have hbv : ∃ a,bv = .slice a code.length code.length := by obtain ⟨_,a,h,_⟩ := hc.bytes; exact ⟨a,h⟩
 refine NC.mkE hf rfl ?_
 refine seq_reg ?_
 simp only [go_sem,binC]
 refine seq_reg ?_
 have g1 : ∀ o n,getCells H rb o n = inBlk (some ⟨[bv,.int .i64 p],0,0,false,true⟩) o n := fun o n => by unfold getCells; rw [hr]; rfl
 have hr' : H[rb]? = some ⟨[bv,.int .i64 p],0,0,false,true⟩ := hr
 simp only [go_sem,binC,g1,inBlk_some,hr']
 rw [wrap_id (x := p + 1) (by omega) (by omega)]
 refine ⟨hlo,?_⟩
 obtain ⟨H1,hH1⟩ : ∃ H1,H1 = H.set rb ⟨[bv,.int .i64 (p + 1)],0,0,false,true⟩ := ⟨_,rfl⟩
 have hH1' : H.set rb (rBlk bv (p + 1)) = H1 := hH1.symm
 have g2 : ∀ o n,getCells H1 rb o n = inBlk (some ⟨[bv,.int .i64 (p + 1)],0,0,false,true⟩) o n := fun o n => by unfold getCells; rw [hH1,List.getElem?_set_self hrl]; rfl
 have hag : Ag 0 H0.length H0 H1 := fun b h1 h2 => by rw [hH1,List.getElem?_set_ne (by have := hc.low; omega)]; exact hs.ag b h1 h2
 rw [hH1',<- hH1]
 clear hH1 hH1' g1 hr'
 obtain ⟨a,rfl⟩ := hbv
 refine seq_assoc (seq_reg ?_)
 simp only [go_sem,binC]
 by_cases hn : n < 1
 ·have hn' : decide (n < 1) = true := decide_eq_true hn
  simp only [go_sem,binC,hn']
  refine seq_cond (t := true) (by simp only [go_sem,binC]) ?_
  simp only [go_sem,binC]
  refine seq_assoc (seq_reg ?_)
  simp only [go_sem,binC]
  refine seq_ret ⟨Or.inr rfl,_,(by simp only [go_sem,binC]; rfl),?_,rfl⟩
  rw [pickV_0 _ _ hn]
 have hn' : decide (n < 1) = false := decide_eq_false hn
 simp only [go_sem,binC,hn',g2,inBlk_some]
 by_cases hne : code = []
 ·have hz : ((code.length : Int) == 0) = true := by rw [hne]; rfl
  simp only [go_sem,binC,hz]
  refine seq_cond (t := true) (by simp only [go_sem,binC]) ?_
  simp only [go_sem,binC]
  refine seq_assoc (seq_reg ?_)
  simp only [go_sem,binC]
  refine seq_ret ⟨Or.inr rfl,_,(by simp only [go_sem,binC]; rfl),?_,rfl⟩
  unfold pickV
  rw [if_neg hn,if_pos hne]
 have hpos : 0 < code.length := List.length_pos_iff.2 hne
 have hz : ((code.length : Int) == 0) = false := by rw [beq_eq_false_iff_ne]; omega
 simp only [go_sem,binC,hz]
 refine seq_cond (t := false) (by simp only [go_sem,binC]) ?_
 simp only [go_sem,binC]
 refine seq_skip (seq_reg ?_)
 simp only [go_sem,binC,g2,inBlk_some]
 rw [wrap_id (x := p + 1 - 1) (by omega) (by omega),show p + 1 - 1 = p by omega]
 obtain ⟨b,o,hbo,hbl,hby⟩ := rdc_at hc hne
 simp only [Value.slice.injEq,true_and,and_true] at hbo
 obtain rfl : a = some ⟨b,o,none⟩ := hbo
 have hby1 := hby H1 hag
 have hwb : ∀ j,IntKind.i64.wrap (code.getD j 0) = code.getD j 0 := fun j => by have := code_bd hc j; exact wrap_id (by omega) (by omega)
 have hbyD : ∀ j,j < code.length -> getCells H1 b (o + j) 1 = some [.int .u8 (code.getD j 0)] := fun j hj => by rw [hby1 j hj,List.getD_eq_getElem?_getD,List.getElem?_eq_getElem hj]; rfl
 refine seq_assoc (seq_reg ?_)
 simp only [go_sem,binC,g2,inBlk_some]
 by_cases hpc : p < code.length
 ·have hpc' : decide (p < code.length) = true := decide_eq_true hpc
  simp only [go_sem,binC,hpc']
  refine seq_cond (t := true) (by simp only [go_sem,binC]) ?_
  simp only [go_sem,binC]
  refine seq_assoc (seq_reg ?_)
  simp only [go_sem,binC,g2,inBlk_some,Nat.mul_one,hbyD p.toNat (by omega),hwb,rem_eq (k := .i64) (x := code.getD p.toNat 0) (y := n) (by omega)]
  refine ⟨⟨by omega,by omega⟩,?_⟩
  refine seq_ret ⟨Or.inr rfl,_,(by simp only [go_sem,binC]; rfl),?_,rfl⟩
  unfold pickV
  rw [if_neg hn,if_neg hne,if_pos hpc,Int.tmod_eq_emod_of_nonneg (code_bd hc _).1]
 have hpc' : decide (p < code.length) = false := decide_eq_false hpc
 simp only [go_sem,binC,hpc']
 refine seq_cond (t := false) (by simp only [go_sem,binC]) ?_
 simp only [go_sem,binC]
 have hL : (0 : Int) < code.length := by omega
 have e1 : ∀ x : Int,0 <= x -> binI .rem .i64 x code.length = some (.int .i64 (x % code.length)) := fun x hx => by rw [rem_eq (by omega),Int.tmod_eq_emod_of_nonneg hx]
 have b1 : ∀ x : Int,0 <= x % code.length /\ x % code.length < code.length := fun x => ⟨Int.emod_nonneg _ (by omega),Int.emod_lt_of_pos _ hL⟩
 have b2 := b1 p
 have b3 := b1 (p * 7 + 3)
 have c1 := code_bd hc (p % code.length).toNat
 have c2 := code_bd hc ((p * 7 + 3) % code.length).toNat
 have q1 : 0 <= p / code.length := Int.ediv_nonneg hp (by omega)
 have q2 : p / code.length <= p := Int.ediv_le_self _ hp
 have w1 : IntKind.i64.wrap (p * 7) = p * 7 := wrap_id (by omega) (by omega)
 have w2 : IntKind.i64.wrap (p * 7 + 3) = p * 7 + 3 := wrap_id (by omega) (by omega)
 have w3 : IntKind.i64.wrap (code.getD (p % code.length).toNat 0 * 131) = code.getD (p % code.length).toNat 0 * 131 := wrap_id (by omega) (by omega)
 have w4 : IntKind.i64.wrap (code.getD ((p * 7 + 3) % code.length).toNat 0 * 1117) = code.getD ((p * 7 + 3) % code.length).toNat 0 * 1117 := wrap_id (by omega) (by omega)
 have w5 : IntKind.i64.wrap (code.getD (p % code.length).toNat 0 * 131 + code.getD ((p * 7 + 3) % code.length).toNat 0 * 1117) = code.getD (p % code.length).toNat 0 * 131 + code.getD ((p * 7 + 3) % code.length).toNat 0 * 1117 := wrap_id (by omega) (by omega)
 have w6 : IntKind.i64.wrap (p * 29) = p * 29 := wrap_id (by omega) (by omega)
 have w7 : IntKind.i64.wrap (code.getD (p % code.length).toNat 0 * 131 + code.getD ((p * 7 + 3) % code.length).toNat 0 * 1117 + p * 29) = code.getD (p % code.length).toNat 0 * 131 + code.getD ((p * 7 + 3) % code.length).toNat 0 * 1117 + p * 29 := wrap_id (by omega) (by omega)
 have e2 : binI .quo .i64 p code.length = some (.int .i64 (p / code.length)) := by rw [quo_eq (by omega),Int.tdiv_eq_ediv_of_nonneg hp,wrap_id (by omega) (by omega)]
 have w8 : IntKind.i64.wrap (p / code.length * 53) = p / code.length * 53 := wrap_id (by omega) (by omega)
 have w9 : IntKind.i64.wrap (code.getD (p % code.length).toNat 0 * 131 + code.getD ((p * 7 + 3) % code.length).toNat 0 * 1117 + p * 29 + p / code.length * 53) = mixX code p := wrap_id (by omega) (by omega)
 refine seq_skip (seq_regD ?_)
 simp only [go_sem,binC,g2,inBlk_some,Nat.mul_one,e1 p hp,hbyD (p % code.length).toNat (by omega),hwb,w1,w2,w3,w4,w5,w6,w7,w8,w9,e2,e1 (p * 7 + 3) (by omega),hbyD ((p * 7 + 3) % code.length).toNat (by omega)]
 refine ⟨b2,b3,?_⟩
 refine seq_reg ?_
 have hm := mixX_bd hc hne hp hp2
 have hx := xor_bd hm.1 hm.2
 have e3 : binI .quo .i64 (mixX code p) 64 = some (.int .i64 (mixX code p / 64)) := by rw [quo_eq (by omega),Int.tdiv_eq_ediv_of_nonneg hm.1,wrap_id (by omega) (by omega)]
 have e4 : binI .xor .i64 (mixX code p) (mixX code p / 64) = some (.int .i64 (mixV code p)) := by rw [xor_eq,wrap_id (by omega) (by exact hx)]; rfl
 simp only [go_sem,binC,e3,e4]
 refine seq_reg ?_
 simp only [go_sem,binC,rem_eq (k := .i64) (x := mixV code p) (y := n) (by omega)]
 refine wpc_ret ⟨Or.inr rfl,_,(by simp only [go_sem,binC]; rfl),?_,rfl⟩
 unfold pickV
 rw [if_neg hn,if_neg hne,if_neg hpc,Int.tmod_eq_emod_of_nonneg (by unfold mixV; omega)]
end Go.Proofs.YtbjeldblaclpnaaGreatI
end
section
set_option linter.unusedVariables false
set_option linter.unusedSimpArgs false
namespace Go.Proofs.YtbjeldblaclpnaaGreatI
open Go Go.RowKit
theorem heap_split {H H' : Heap} {rb : Nat} {k : Blk} (h : AgX [rb] H H') (hl : rb < H.length) (hk : H'[rb]? = some k) : H' = H.set rb k ++ H'.drop H.length := by
 have h1 : H'.take H.length = H.set rb k := by
  refine List.ext_getElem? fun b => ?_
  by_cases hb : b < H.length
  ·rw [List.getElem?_take_of_lt hb]
   by_cases hbr : b = rb
   ·subst hbr; rw [hk,List.getElem?_set_self hb]
   ·rw [h.2 b hb (by simpa using hbr),List.getElem?_set_ne (fun h => hbr h.symm)]
  ·rw [List.getElem?_take_eq_none (by omega),List.getElem?_eq_none (by rw [List.length_set]; omega)]
 have h2 := List.take_append_drop H.length H'
 rw [h1] at h2
 exact h2.symm
theorem St.set {H0 : Heap} {rb : Nat} {bv : Value} {code : List Int} {p q : Int} {H : Heap} (hc : RdC H0 rb bv code) (h : St H0 rb bv p H) : St H0 rb bv q (H.set rb (rBlk bv q)) :=
 ⟨fun b h1 h2 => by rw [List.getElem?_set_ne (by have := hc.low; omega)]; exact h.ag b h1 h2,List.getElem?_set_self h.lt⟩
section
variable {F : Nat -> Option IFn} {H0 H B L : Heap} {rb lo : Nat} {bv : Value} {code : List Int} {p n : Int} {e : Env} {x y : Opd}
theorem op_draw {K : Value -> Heap -> Prop} (hf : F 14 = some c_pick) (hc : RdC H0 rb bv code) (hs : St H0 rb bv p H) (hp : 0 <= p) (hp2 : p <= 1000000) (hlo : lo <= rb) (hx : x.ev e = ptr rb 0) (hy : y.ev e = .int .i64 n)
  (k : ∀ H1,H1.length = H.length -> AgX [rb] H H1 -> St H0 rb bv (p + 1) H1 -> K (.int .i64 (pickV code p n)) H1) : wpOp F lo (.call .n (.f 14) [x,y]) e H K := by
 refine op_callN (by simp only [List.map_cons,List.map_nil,hx,hy]; exact pick_ok hf hc hs hp hp2 hlo) (k _ List.length_set (AgX.set H rb _) (hs.set hc))
theorem wpx_pick {q d : Nat} {r : List IOper} {K : Env -> Heap -> Prop} (hf : F 14 = some c_pick) (hc : RdC H0 rb bv code) (hs : St H0 rb bv p B) (hp : 0 <= p) (hp2 : p <= 1000000) (hlo : lo <= rb) (hx : x.ev e = ptr rb 0) (hy : y.ev e = .int .i64 n)
  (k : ∀ B1,B1.length = B.length -> AgX [rb] B B1 -> St H0 rb bv (p + 1) B1 -> wpx F lo [rb] q r (putE e (some d) (.int .i64 (pickV code p n))) B1 L K) : wpx F lo [rb] (q + 1) (⟨some d,none,.call .n (.f 14) [x,y]⟩ :: r) e B L K := by
 have hl := hs.lt
 refine wpx_B (B' := B.set rb (rBlk bv (p + 1))) List.length_set ?_ ?_ rfl (fun E => ⟨[],?_⟩) (k _ List.length_set (AgX.set B rb _) (hs.set hc))
 ·intro b hb
  exact List.getElem?_set_ne (fun h => hb (by simp [h]))
 ·intro b k1 k2 h1 h2 j v hj
  by_cases hb : b = rb
  ·subst hb
   rw [List.getElem?_set_self hl] at h2
   rw [hs.r] at h1
   cases h1; cases h2
   unfold rBlk at hj ⊢
   match j,hj with
   | 0,hj => exact .inl hj
   | 1,hj => simp only [List.getElem?_cons_succ,List.getElem?_cons_zero,Option.some.injEq] at hj; subst hj; exact .inr rfl
   | j + 2,hj => simp at hj
  ·rw [List.getElem?_set_ne (fun h => hb h.symm),h1] at h2
   cases h2
   exact .inl hj
 ·have hs' : St H0 rb bv p (B ++ (L ++ E)) := hs.mono hc (AgX.app [] _ _) (fun _ h => by cases h)
  have := pick_ok hf hc hs' hp hp2 hlo (n := n)
  rw [List.set_append_left _ _ hl] at this
  simp only [List.map_cons,List.map_nil,hx,hy,List.append_nil]
  exact this
end
theorem tk9 {a0 a1 a2 a3 a4 a5 a6 a7 a8 : Int} {i : Nat} (hi : i < 9) : List.take 1 (List.drop i [Value.int .i64 a0,.int .i64 a1,.int .i64 a2,.int .i64 a3,.int .i64 a4,.int .i64 a5,.int .i64 a6,.int .i64 a7,.int .i64 a8]) = [.int .i64 ([a0,a1,a2,a3,a4,a5,a6,a7,a8].getD i 0)] := by
 have : i = 0 \/ i = 1 \/ i = 2 \/ i = 3 \/ i = 4 \/ i = 5 \/ i = 6 \/ i = 7 \/ i = 8 := by omega
 rcases this with rfl | rfl | rfl | rfl | rfl | rfl | rfl | rfl | rfl <;> rfl
theorem tk3 {a0 a1 a2 : Int} {i : Nat} (hi : i < 3) : List.take 1 (List.drop i [Value.int .i64 a0,.int .i64 a1,.int .i64 a2]) = [.int .i64 ([a0,a1,a2].getD i 0)] := by
 have : i = 0 \/ i = 1 \/ i = 2 := by omega
 rcases this with rfl | rfl | rfl <;> rfl
def c_drLabel : IFn := ⟨1,16,[.cell true 2 2],
 .seq (.reg none [⟨some 2,none,.new [(.int .i64 0),(.int .i64 0)]⟩])
 (.seq (.reg (some 12) [
   ⟨some 4,none,.lit 1 3 9 [(.int .i64 0),(.int .i64 0),(.int .i64 0),(.int .i64 0),(.int .i64 0),(.int .i64 0),(.int .i64 0),(.int .i64 0),(.int .i64 0)] [(0,1,(.c (.int .i64 7))),(1,1,(.c (.int .i64 7))),(2,1,(.c (.int .i64 3))),(3,1,(.c (.int .i64 5))),(4,1,(.c (.int .i64 6))),(5,1,(.c (.int .i64 1))),(6,1,(.c (.int .i64 2))),(7,1,(.c (.int .i64 4))),(8,1,(.c (.int .i64 0)))]⟩,
   ⟨some 5,none,.mov (.t 0)⟩,⟨some 6,none,.call .n (.f 14) [.t 5,(.c (.int .i64 9))]⟩,⟨some 7,none,.iad 1 (.t 4) (.t 6)⟩,⟨some 8,none,.load false 1 (.t 7)⟩,
   ⟨some 9,none,.lit 1 3 9 [(.int .i64 0),(.int .i64 0),(.int .i64 0),(.int .i64 0),(.int .i64 0),(.int .i64 0),(.int .i64 0),(.int .i64 0),(.int .i64 0)] [(0,1,(.c (.int .i64 0))),(1,1,(.c (.int .i64 0))),(2,1,(.c (.int .i64 1))),(3,1,(.c (.int .i64 2))),(4,1,(.c (.int .i64 4))),(5,1,(.c (.int .i64 3))),(6,1,(.c (.int .i64 7))),(7,1,(.c (.int .i64 5))),(8,1,(.c (.int .i64 6)))]⟩,
   ⟨some 10,none,.mov (.t 0)⟩,⟨some 11,none,.call .n (.f 14) [.t 10,(.c (.int .i64 9))]⟩,⟨some 12,none,.iad 1 (.t 9) (.t 11)⟩,
   ⟨some 13,none,.load false 1 (.t 12)⟩,⟨some 14,none,.build [(.int .i64 0),(.int .i64 0)] [(0,1,(.t 8)),(1,1,(.t 13))]⟩,
   ⟨some 3,none,.new [(.int .i64 0),(.int .i64 0)]⟩,⟨none,none,.store 2 (.t 3) (.t 14)⟩])
 (.seq (.reg none [⟨some 15,none,.load true 2 (.t 3)⟩,⟨none,none,.store 2 (.t 2) (.t 15)⟩])
 (.ret)))⟩
def labK (code : List Int) (p : Int) : Int := [7,7,3,5,6,1,2,4,0].getD (pickV code p 9).toNat 0
def labT (code : List Int) (p : Int) : Int := [0,0,1,2,4,3,7,5,6].getD (pickV code p 9).toNat 0
theorem lab_bd {a0 a1 a2 a3 a4 a5 a6 a7 a8 : Int} (h : ∀ a,a ∈ [a0,a1,a2,a3,a4,a5,a6,a7,a8] -> 0 <= a /\ a <= 7) (i : Nat) : 0 <= [a0,a1,a2,a3,a4,a5,a6,a7,a8].getD i 0 /\ [a0,a1,a2,a3,a4,a5,a6,a7,a8].getD i 0 <= 7 := by
 by_cases hi : i < 9
 ·rw [List.getD_eq_getElem?_getD,List.getElem?_eq_getElem hi]
  exact h _ (List.getElem_mem _)
 ·rw [List.getD_eq_getElem?_getD,List.getElem?_eq_none (by simpa using hi)]
  simp
theorem labK_bd (code : List Int) (p : Int) : 0 <= labK code p /\ labK code p <= 7 := lab_bd (by simp) _
theorem labT_bd (code : List Int) (p : Int) : 0 <= labT code p /\ labT code p <= 7 := lab_bd (by simp) _
theorem drLabel_ok {F : Nat -> Option IFn} {f : Nat} (hf : F f = some c_drLabel) (hpk : F 14 = some c_pick) {H0 H : Heap} {rb lo : Nat} {bv : Value} {code : List Int} {p : Int} (hc : RdC H0 rb bv code) (hs : St H0 rb bv p H) (hp : 0 <= p) (hp2 : p + 2 <= 1000000) (hlo : lo <= rb) :
  ∃ G,NC F lo f [ptr rb 0] H (.agg #[.int .i64 (labK code p),.int .i64 (labT code (p + 1))]) (H.set rb (rBlk bv (p + 2)) ++ G) := by
 have hl := hs.lt
 suffices h : ∃ v H',NC F lo f [ptr rb 0] H v H' /\ v = .agg #[.int .i64 (labK code p),.int .i64 (labT code (p + 1))] /\ AgX [rb] H H' /\ H'[rb]? = some (rBlk bv (p + 2)) by
  obtain ⟨v,H',h1,rfl,h2,h3⟩ := h
  rw [heap_split h2 hl h3] at h1
  exact ⟨_,h1⟩
 refine NC.mk hf rfl ?_
 refine seq_reg ?_
 simp only [go_sem,binC]
 refine wpc_gen fun H1 hH1 => ?_
 obtain ⟨N,n1⟩ : ∃ N,H1.length = N := ⟨_,rfl⟩
 have hN : N = H.length + 1 := by rw [<- n1,hH1,List.length_append]; rfl
 have hs1 : St H0 rb bv p H1 := hH1 ▸ hs.mono hc (AgX.app [] _ _) (fun _ h => by cases h)
 have hx1 : AgX [rb] H H1 := hH1 ▸ AgX.app [rb] _ _
 have hb1 : H1[H.length]? = some ⟨[.int .i64 0,.int .i64 0],0,0,false,true⟩ := hH1 ▸ get_new0 _ _
 clear hH1
 refine seq_regX [rb] (by simp; omega) ?_
 refine wpx_A rfl ?_
 simp only [go_sem,binC,hide_length,n1]
 refine wpx_A rfl ?_
 simp only [go_sem,binC,hide_length,n1]
 refine wpx_pick (n := 9) hpk hc hs1 hp (by omega) hlo (by simp only [go_sem,binC]) (by simp only [go_sem,binC]) fun B1 hl1 hx2 hs2 => ?_
 have n2 := hl1.trans n1
 have hk1 := pickV_bd code p (n := 9) (by omega)
 refine wpx_A rfl ?_
 simp only [go_sem,binC]
 refine ⟨hk1,?_⟩
 refine wpx_A rfl ?_
 have hi1 : (pickV code p 9).toNat + 1 <= 9 := by omega
 simp only [go_sem,binC,Nat.mul_one,gc_hid n2,gc_hid0 n2,inBlk_some,tk9 (i := (pickV code p 9).toNat) (by omega),hi1]
 refine wpx_A rfl ?_
 simp only [go_sem,binC,hide_length,n2]
 refine wpx_A rfl ?_
 simp only [go_sem,binC,hide_length,n2]
 refine wpx_pick (n := 9) hpk hc hs2 (by omega) (by omega) hlo (by simp only [go_sem,binC]) (by simp only [go_sem,binC]) fun B2 hl2 hx3 hs3 => ?_
 have n3 := hl2.trans n2
 have hk2 := pickV_bd code (p + 1) (n := 9) (by omega)
 refine wpx_A rfl ?_
 simp only [go_sem,binC]
 refine ⟨hk2,?_⟩
 refine wpx_A rfl ?_
 have hi2 : (pickV code (p + 1) 9).toNat + 1 <= 9 := by omega
 simp only [go_sem,binC,Nat.mul_one,gc_hid n3,gc_hid0 n3,inBlk_some,tk9 (i := (pickV code (p + 1) 9).toNat) (by omega),hi2]
 refine wpx_A rfl ?_
 simp only [go_sem,binC,hide_length,n3]
 refine wpx_A rfl ?_
 simp only [go_sem,binC,hide_length,n3]
 refine wpx_zero ?_
 subst n3
 simp only [go_sem,binC,hide_length]
 refine ⟨by omega,?_⟩
 refine wpc_gen fun H3 hH3 => ?_
 have hne : H.length ≠ rb := by omega
 have hx4 : AgX [rb] B2 H3 := hH3 ▸ AgX.app [rb] _ _
 have hb3 : H3[H.length]? = some ⟨[.int .i64 0,.int .i64 0],0,0,false,true⟩ := hx4.get (hx3.get (hx2.get hb1 (by simpa using hne)) (by simpa using hne)) (by simpa using hne)
 have hs4 : St H0 rb bv (p + 1 + 1) H3 := hs3.mono hc (hH3 ▸ AgX.app [] _ _) (fun _ h => by cases h)
 have hx5 : AgX [rb] H H3 := ((hx1.trans hx2 (fun _ h _ => h) (fun _ h _ => h)).trans hx3 (fun _ h _ => h) (fun _ h _ => h)).trans hx4 (fun _ h _ => h) (fun _ h _ => h)
 have hg3 : getCells H3 (B2.length + 2) 0 2 = some [.int .i64 (labK code p),.int .i64 (labT code (p + 1))] := by rw [hH3,gc_new]; rfl
 clear hH3
 refine seq_reg ?_
 simp only [go_sem,binC,hg3,hb3]
 refine ⟨by omega,?_⟩
 have hb5 : H.length < H3.length := (List.getElem?_eq_some_iff.1 hb3).1
 refine wpc_ret ⟨Or.inr rfl,_,?_,rfl,?_,?_⟩
 ·simp only [go_sem,binC]
  unfold getCells
  rw [List.getElem?_set_self hb5]
  rfl
 ·exact hx5.trans (AgX.set _ _ _) (fun _ h _ => h) (fun b hb h2 => by simp only [List.mem_singleton] at hb; omega)
 ·rw [List.getElem?_set_ne (by omega)]
  have := hs4.r
  rw [show p + 1 + 1 = p + 2 by omega] at this
  exact this
end Go.Proofs.YtbjeldblaclpnaaGreatI
end
section
set_option linter.unusedVariables false
set_option linter.unusedSimpArgs false
namespace Go.Proofs.YtbjeldblaclpnaaGreatI
open Go Go.RowKit
def DrawS (F : Nat -> Option IFn) (H0 : Heap) (rb : Nat) (bv : Value) (f : Nat) (args : List Value) (c : Int) (Q : Heap -> Heap -> Value -> Prop) : Prop :=
 ∀ (H : Heap) (p : Int) (lo : Nat),St H0 rb bv p H -> 0 <= p -> p + c <= 1000000 -> lo <= rb -> ∃ v H' p',NC F lo f (ptr rb 0 :: args) H v H' /\ AgX [rb] H H' /\ St H0 rb bv p' H' /\ (p <= p' /\ p' <= p + c) /\ Q H H' v
theorem DrawS.mk {F : Nat -> Option IFn} {H0 : Heap} {rb : Nat} {bv : Value} {f np nt : Nat} {rs : List IRes} {body : ICode} {args : List Value} {c : Int} {Q : Heap -> Heap -> Value -> Prop} (hf : F f = some ⟨np,nt,rs,body⟩) (hl : (ptr rb 0 :: args).length = np)
  (h : ∀ (H : Heap) (p : Int) (lo : Nat),St H0 rb bv p H -> 0 <= p -> p + c <= 1000000 -> lo <= rb -> wpc F lo body (ini (ptr rb 0 :: args)) H (fin rs fun v H' => ∃ p',AgX [rb] H H' /\ St H0 rb bv p' H' /\ (p <= p' /\ p' <= p + c) /\ Q H H' v)) : DrawS F H0 rb bv f args c Q := by
 intro H p lo h1 h2 h3 h4
 obtain ⟨v,H',h5,p',h6,h7,h8,h9⟩ := NC.mk hf hl (h H p lo h1 h2 h3 h4)
 exact ⟨v,H',p',h5,h6,h7,h8,h9⟩
theorem pickV_i64 (code : List Int) (p : Int) {n : Int} (h : n <= 9223372036854775807) : 0 <= pickV code p n /\ pickV code p n <= 9223372036854775807 := by
 by_cases h1 : n < 1
 ·rw [pickV_0 _ _ h1]; omega
 ·have := pickV_bd code p (n := n) (by omega); omega
def c_drVal : IFn := ⟨2,35,[.cell true 3 4],
 .seq (.reg none [⟨some 4,none,.new [(.int .i64 0),(.int .i64 0),(.int .i64 0)]⟩])
 (.seq (.seq (.reg none [⟨some 5,none,.mov (.t 0)⟩,⟨some 6,none,.call .n (.f 14) [.t 5,(.c (.int .i64 5))]⟩])
  (.block 0 (.seq (.reg none [⟨some 8,none,.bin .eql (.t 6) (.c (.int .i64 0))⟩,⟨some 7,none,.mov (.t 8)⟩])
   (.cond (.t 7) (.seq (.reg none [⟨some 9,none,.mov (.t 0)⟩,⟨some 10,none,.call .n (.f 14) [.t 9,(.c (.int .i64 10))]⟩,
     ⟨some 11,none,.build [(.int .i64 0),(.int .i64 0),(.int .i64 0)] [(0,1,(.c (.int .i64 1))),(1,1,(.t 10))]⟩,⟨none,none,.store 3 (.t 4) (.t 11)⟩])
    (.ret)) (.seq (.seq (.reg none [⟨some 13,none,.bin .eql (.t 6) (.c (.int .i64 1))⟩,⟨some 12,none,.mov (.t 13)⟩])
     (.cond (.t 12) (.skip) (.reg none [⟨some 14,none,.bin .eql (.t 6) (.c (.int .i64 2))⟩,⟨some 12,none,.mov (.t 14)⟩])))
    (.cond (.t 12) (.seq (.reg none [⟨some 15,none,.mov (.t 0)⟩,⟨some 16,none,.mov (.t 1)⟩,⟨some 17,none,.call .n (.f 14) [.t 15,.t 16]⟩,
      ⟨some 18,none,.build [(.int .i64 0),(.int .i64 0),(.int .i64 0)] [(0,1,(.c (.int .i64 2))),(1,1,(.t 17))]⟩,⟨none,none,.store 3 (.t 4) (.t 18)⟩])
     (.ret)) (.seq (.reg none [⟨some 20,none,.bin .eql (.t 6) (.c (.int .i64 3))⟩,⟨some 19,none,.mov (.t 20)⟩])
     (.cond (.t 19) (.seq (.reg none [⟨some 21,none,.mov (.t 0)⟩,⟨some 22,none,.mov (.t 1)⟩,⟨some 23,none,.call .n (.f 14) [.t 21,.t 22]⟩,
       ⟨some 24,none,.mov (.t 0)⟩,⟨some 25,none,.mov (.t 1)⟩,⟨some 26,none,.call .n (.f 14) [.t 24,.t 25]⟩,
       ⟨some 27,none,.build [(.int .i64 0),(.int .i64 0),(.int .i64 0)] [(0,1,(.c (.int .i64 3))),(1,1,(.t 23)),(2,1,(.t 26))]⟩,
       ⟨none,none,.store 3 (.t 4) (.t 27)⟩])
      (.ret)) (.skip)))))))))
 (.seq (.reg none [⟨some 28,none,.mov (.t 0)⟩,⟨some 29,none,.mov (.t 1)⟩,⟨some 30,none,.call .n (.f 14) [.t 28,.t 29]⟩,⟨some 31,none,.mov (.t 0)⟩,
   ⟨some 32,none,.mov (.t 1)⟩,⟨some 33,none,.call .n (.f 14) [.t 31,.t 32]⟩,
   ⟨some 34,none,.build [(.int .i64 0),(.int .i64 0),(.int .i64 0)] [(0,1,(.c (.int .i64 4))),(1,1,(.t 30)),(2,1,(.t 33))]⟩,
   ⟨none,none,.store 3 (.t 4) (.t 34)⟩])
 (.ret)))⟩
def IsVal (v : Value) : Prop := ∃ a b c : Int,v = .agg #[.int .i64 a,.int .i64 b,.int .i64 c] /\ (-9223372036854775808 <= a /\ a <= 9223372036854775807) /\ (-9223372036854775808 <= b /\ b <= 9223372036854775807) /\ (-9223372036854775808 <= c /\ c <= 9223372036854775807)
theorem drVal_ok {F : Nat -> Option IFn} {f : Nat} (hf : F f = some c_drVal) (hpk : F 14 = some c_pick) {H0 : Heap} {rb : Nat} {bv : Value} {code : List Int} (hc : RdC H0 rb bv code) {n : Int} (hn : n <= 9223372036854775807) : DrawS F H0 rb bv f [.int .i64 n] 3 (fun _ _ v => IsVal v) := by
 refine DrawS.mk hf rfl fun H p lo hs hp hp2 hlo => ?_
 have hl := hs.lt
 have hne : H.length ≠ rb := by omega
 have ra := fun q => pickV_i64 code q hn
 refine seq_reg ?_
 simp only [go_sem,binC]
 refine wpc_gen fun H0' hH0 => ?_
 have hs0 : St H0 rb bv p H0' := hH0 ▸ hs.appN hc _
 have ht0 : AgX [rb] H H0' := hH0 ▸ AgX.app [rb] _ _
 have hb0 : H0'[H.length]? = some ⟨[.int .i64 0,.int .i64 0,.int .i64 0],0,0,false,true⟩ := hH0 ▸ get_new0 _ _
 clear hH0
 refine seq_assoc (seq_reg ?_)
 simp only [go_sem,binC]
 refine op_draw (n := 5) hpk hc hs0 (by omega) (by omega) hlo (by simp only [go_sem,binC]) (by simp only [go_sem,binC]) fun H1 hl1 hx1 hs1 => ?_
 have ht1 := ht0.tr hx1
 have hb1 := hx1.get hb0 (by simpa using hne)
 simp only [go_sem,binC]
 have key : ∀ (H' : Heap) (q : Int) (a b c : Int),St H0 rb bv q H' -> AgX [rb] H H' -> H'[H.length]? = some ⟨[.int .i64 0,.int .i64 0,.int .i64 0],0,0,false,true⟩ -> (p <= q /\ q <= p + 3) -> (-9223372036854775808 <= a /\ a <= 9223372036854775807) -> (-9223372036854775808 <= b /\ b <= 9223372036854775807) -> (-9223372036854775808 <= c /\ c <= 9223372036854775807) ->
   ∀ e : Env,e 4 = ptr H.length 0 -> fin [.cell true 3 4] (fun v H'' => ∃ p',AgX [rb] H H'' /\ St H0 rb bv p' H'' /\ (p <= p' /\ p' <= p + 3) /\ IsVal v) .r e (H'.set H.length ⟨[.int .i64 a,.int .i64 b,.int .i64 c],0,0,false,true⟩) := by
  intro H' q a b c h1 h2 h3 h4 h5 h6 h7 e he
  have hbl := (List.getElem?_eq_some_iff.1 h3).1
  refine ⟨.inr rfl,.agg #[.int .i64 a,.int .i64 b,.int .i64 c],?_,q,h2.setN (Nat.le_refl _) _,h1.setN hc (by omega) _,h4,a,b,c,rfl,h5,h6,h7⟩
  simp only [go_sem,binC,he,gc_set hbl]
 refine seq_block ?_
 refine seq_reg ?_
 by_cases h0 : pickV code p 5 = 0
 ·simp only [go_sem,binC,beq_t h0]
  refine wpc_cond (t := true) (by simp only [go_sem,binC]) ?_
  simp only [go_sem,binC]
  refine seq_reg ?_
  simp only [go_sem,binC]
  refine op_draw (n := 10) hpk hc hs1 (by omega) (by omega) hlo (by simp only [go_sem,binC]) (by simp only [go_sem,binC]) fun H2 hl2 hx2 hs2 => ?_
  have ht2 := ht1.tr hx2
  have hb2 := hx2.get hb1 (by simpa using hne)
  simp only [go_sem,binC,hb2]
  refine ⟨by omega,?_⟩
  refine wpc_ret ?_
  simp only [go_sem,binC,out_r,thenX_r]
  exact key H2 _ 1 _ 0 hs2 ht2 hb2 (by omega) (by omega) (by have := pickV_i64 code (p + 1) (n := 10) (by omega); omega) (by omega) _ (by simp only [go_sem,binC])
 simp only [go_sem,binC,beq_f h0]
 refine wpc_cond (t := false) (by simp only [go_sem,binC]) ?_
 simp only [go_sem,binC]
 refine seq_assoc (seq_reg ?_)
 by_cases h1 : pickV code p 5 = 1
 ·simp only [go_sem,binC,beq_t h1]
  refine seq_cond (t := true) (by simp only [go_sem,binC]) ?_
  simp only [go_sem,binC]
  refine seq_skip ?_
  refine wpc_cond (t := true) (by simp only [go_sem,binC]) ?_
  simp only [go_sem,binC]
  refine seq_reg ?_
  simp only [go_sem,binC]
  refine op_draw (n := n) hpk hc hs1 (by omega) (by omega) hlo (by simp only [go_sem,binC]) (by simp only [go_sem,binC]) fun H2 hl2 hx2 hs2 => ?_
  have ht2 := ht1.tr hx2
  have hb2 := hx2.get hb1 (by simpa using hne)
  simp only [go_sem,binC,hb2]
  refine ⟨by omega,?_⟩
  refine wpc_ret ?_
  simp only [go_sem,binC,out_r,thenX_r]
  exact key H2 _ 2 (pickV code (p + 1) n) 0 hs2 ht2 hb2 (by omega) (by omega) (by have := ra (p + 1); omega) (by omega) _ (by simp only [go_sem,binC])
 simp only [go_sem,binC,beq_f h1]
 refine seq_cond (t := false) (by simp only [go_sem,binC]) ?_
 simp only [go_sem,binC]
 refine seq_reg ?_
 by_cases h2 : pickV code p 5 = 2
 ·simp only [go_sem,binC,beq_t h2]
  refine wpc_cond (t := true) (by simp only [go_sem,binC]) ?_
  simp only [go_sem,binC]
  refine seq_reg ?_
  simp only [go_sem,binC]
  refine op_draw (n := n) hpk hc hs1 (by omega) (by omega) hlo (by simp only [go_sem,binC]) (by simp only [go_sem,binC]) fun H2 hl2 hx2 hs2 => ?_
  have ht2 := ht1.tr hx2
  have hb2 := hx2.get hb1 (by simpa using hne)
  simp only [go_sem,binC,hb2]
  refine ⟨by omega,?_⟩
  refine wpc_ret ?_
  simp only [go_sem,binC,out_r,thenX_r]
  exact key H2 _ 2 (pickV code (p + 1) n) 0 hs2 ht2 hb2 (by omega) (by omega) (by have := ra (p + 1); omega) (by omega) _ (by simp only [go_sem,binC])
 simp only [go_sem,binC,beq_f h2]
 refine wpc_cond (t := false) (by simp only [go_sem,binC]) ?_
 simp only [go_sem,binC]
 refine seq_reg ?_
 by_cases h3 : pickV code p 5 = 3
 ·simp only [go_sem,binC,beq_t h3]
  refine wpc_cond (t := true) (by simp only [go_sem,binC]) ?_
  simp only [go_sem,binC]
  refine seq_reg ?_
  simp only [go_sem,binC]
  refine op_draw (n := n) hpk hc hs1 (by omega) (by omega) hlo (by simp only [go_sem,binC]) (by simp only [go_sem,binC]) fun H2 hl2 hx2 hs2 => ?_
  have ht2 := ht1.tr hx2
  have hb2 := hx2.get hb1 (by simpa using hne)
  simp only [go_sem,binC]
  refine op_draw (n := n) hpk hc hs2 (by omega) (by omega) hlo (by simp only [go_sem,binC]) (by simp only [go_sem,binC]) fun H3 hl3 hx3 hs3 => ?_
  have ht3 := ht2.tr hx3
  have hb3 := hx3.get hb2 (by simpa using hne)
  simp only [go_sem,binC,hb3]
  refine ⟨by omega,?_⟩
  refine wpc_ret ?_
  simp only [go_sem,binC,out_r,thenX_r]
  exact key H3 _ 3 (pickV code (p + 1) n) (pickV code (p + 1 + 1) n) hs3 ht3 hb3 (by omega) (by omega) (by have := ra (p + 1); omega) (by have := ra (p + 1 + 1); omega) _ (by simp only [go_sem,binC])
 simp only [go_sem,binC,beq_f h3]
 refine wpc_cond (t := false) (by simp only [go_sem,binC]) ?_
 simp only [go_sem,binC]
 refine wpc_skip ?_
 simp only [go_sem,binC,out_n,thenX_n]
 refine seq_reg ?_
 simp only [go_sem,binC]
 refine op_draw (n := n) hpk hc hs1 (by omega) (by omega) hlo (by simp only [go_sem,binC]) (by simp only [go_sem,binC]) fun H2 hl2 hx2 hs2 => ?_
 have ht2 := ht1.tr hx2
 have hb2 := hx2.get hb1 (by simpa using hne)
 simp only [go_sem,binC]
 refine op_draw (n := n) hpk hc hs2 (by omega) (by omega) hlo (by simp only [go_sem,binC]) (by simp only [go_sem,binC]) fun H3 hl3 hx3 hs3 => ?_
 have ht3 := ht2.tr hx3
 have hb3 := hx3.get hb2 (by simpa using hne)
 simp only [go_sem,binC,hb3]
 refine ⟨by omega,?_⟩
 refine wpc_ret ?_
 exact key H3 _ 4 (pickV code (p + 1) n) (pickV code (p + 1 + 1) n) hs3 ht3 hb3 (by omega) (by omega) (by have := ra (p + 1); omega) (by have := ra (p + 1 + 1); omega) _ (by simp only [go_sem,binC])
end Go.Proofs.YtbjeldblaclpnaaGreatI
end
section
set_option linter.unusedVariables false
set_option linter.unusedSimpArgs false
namespace Go.Proofs.YtbjeldblaclpnaaGreatI
open Go Go.RowKit
def dsIf : ICode := (.seq (.reg none [⟨some 36,none,.mov (.t 2)⟩,⟨some 37,none,.bin .gtr (.t 36) (.c (.int .i64 1))⟩])
     (.cond (.t 37) (.seq (.reg none [⟨some 38,none,.fad 0 (.t 11)⟩,⟨none,none,.store 1 (.t 38) (.c (.int .i64 2))⟩])
      (.seq (.reg none [⟨some 39,none,.mov (.t 0)⟩,⟨some 40,none,.mov (.t 2)⟩,⟨some 41,none,.bin .sub (.t 40) (.c (.int .i64 1))⟩,⟨some 42,none,.mov (.t 3)⟩,
        ⟨some 43,none,.call .n (.f 101) [.t 39,(.c (.int .i64 2)),.t 41,.t 42]⟩,⟨some 44,none,.fad 6 (.t 11)⟩,⟨none,none,.store 1 (.t 44) (.t 43)⟩])
      (.reg none [⟨some 45,none,.mov (.t 0)⟩,⟨some 46,none,.mov (.t 2)⟩,⟨some 47,none,.bin .sub (.t 46) (.c (.int .i64 1))⟩,⟨some 48,none,.mov (.t 3)⟩,
       ⟨some 49,none,.call .n (.f 101) [.t 45,(.c (.int .i64 2)),.t 47,.t 48]⟩,⟨some 50,none,.fad 7 (.t 11)⟩,⟨none,none,.store 1 (.t 50) (.t 49)⟩]))) (.skip)))
def dsSwitch : ICode := (.seq (.reg none [⟨some 25,none,.mov (.t 0)⟩,⟨some 26,none,.call .n (.f 14) [.t 25,(.c (.int .i64 5))]⟩])
    (.block 2 (.seq (.reg none [⟨some 28,none,.bin .eql (.t 26) (.c (.int .i64 0))⟩,⟨some 27,none,.mov (.t 28)⟩])
     (.cond (.t 27) (.seq (.reg none [⟨some 29,none,.fad 0 (.t 11)⟩,⟨none,none,.store 1 (.t 29) (.c (.int .i64 3))⟩])
      (.reg none [⟨some 30,none,.mov (.t 0)⟩,⟨some 31,none,.call .n (.f 14) [.t 30,(.c (.int .i64 3))]⟩,⟨some 32,none,.fad 5 (.t 11)⟩,
       ⟨none,none,.store 1 (.t 32) (.t 31)⟩])) (.seq (.seq (.reg none [⟨some 34,none,.bin .eql (.t 26) (.c (.int .i64 1))⟩,⟨some 33,none,.mov (.t 34)⟩])
       (.cond (.t 33) (.skip) (.reg none [⟨some 35,none,.bin .eql (.t 26) (.c (.int .i64 2))⟩,⟨some 33,none,.mov (.t 35)⟩])))
      (.cond (.t 33) dsIf (.skip)))))))
def dsVal : ICode := (.seq (.reg none [⟨some 51,none,.fad 0 (.t 11)⟩,⟨some 52,none,.load false 1 (.t 51)⟩,⟨some 53,none,.bin .eql (.t 52) (.c (.int .i64 1))⟩])
    (.cond (.t 53) (.reg none [⟨some 54,none,.mov (.t 0)⟩,⟨some 55,none,.mov (.t 3)⟩,⟨some 56,none,.call .n (.f 105) [.t 54,.t 55]⟩,
      ⟨some 57,none,.fad 2 (.t 11)⟩,⟨none,none,.store 3 (.t 57) (.t 56)⟩]) (.skip)))
def dsApp : ICode := (.reg none [⟨some 58,none,.mov (.t 9)⟩,⟨some 59,none,.load true 8 (.t 11)⟩,
    ⟨some 60,none,.lit 8 54 1 [(.int .i64 0),(.int .i64 0),(.int .i64 0),(.int .i64 0),(.int .i64 0),(.int .i64 0),(.slice none 0 0),(.slice none 0 0)] [(0,8,(.t 59))]⟩,
    ⟨some 61,none,.app 8 54 96 false (.t 58) (.t 60)⟩,⟨some 9,none,.mov (.t 61)⟩])
def c_drSteps : IFn := ⟨4,63,[.t 8],
 .seq (.reg none [⟨some 8,none,.mov (.c (.slice none 0 0))⟩])
 (.seq (.reg none [⟨some 12,none,.lit 8 54 0 [] []⟩,⟨some 9,none,.mov (.t 12)⟩])
 (.seq (.seq (.reg none [⟨some 13,none,.mov (.t 0)⟩,⟨some 14,none,.mov (.t 1)⟩,⟨some 15,none,.bin .add (.t 14) (.c (.int .i64 1))⟩,
   ⟨some 16,none,.call .n (.f 14) [.t 13,.t 15]⟩,⟨some 10,none,.mov (.t 16)⟩])
  (.block 0 (.loop (.seq (.seq (.reg none [⟨some 17,none,.mov (.t 10)⟩,⟨some 18,none,.bin .gtr (.t 17) (.c (.int .i64 0))⟩])
    (.cond (.t 18) (.skip) (.exit 0)))
   (.seq (.block 1 (.seq (.reg none [⟨some 21,none,.mov (.t 0)⟩,⟨some 22,none,.mov (.t 3)⟩,⟨some 23,none,.call .n (.f 14) [.t 21,.t 22]⟩,
      ⟨some 24,none,.build [(.int .i64 0),(.int .i64 0),(.int .i64 0),(.int .i64 0),(.int .i64 0),(.int .i64 0),(.slice none 0 0),(.slice none 0 0)] [(0,1,(.c (.int .i64 1))),(1,1,(.t 23))]⟩,
      ⟨some 11,none,.new [(.int .i64 0),(.int .i64 0),(.int .i64 0),(.int .i64 0),(.int .i64 0),(.int .i64 0),(.slice none 0 0),(.slice none 0 0)]⟩,
      ⟨none,none,.store 8 (.t 11) (.t 24)⟩])
    (.seq dsSwitch
    (.seq dsVal
    dsApp))))
   (.reg none [⟨some 19,none,.mov (.t 10)⟩,⟨some 20,none,.bin .sub (.t 19) (.c (.int .i64 1))⟩,⟨some 10,none,.mov (.t 20)⟩]))))))
 (.seq (.reg none [⟨some 62,none,.mov (.t 9)⟩,⟨some 8,none,.mov (.t 62)⟩])
 (.ret))))⟩
def cD : Nat -> Int
 | 0 => 0
 | d + 1 => 25 + 8 * cD d
theorem cD_pos : ∀ d,0 <= cD d
 | 0 => by simp [cD]
 | d + 1 => by have := cD_pos d; simp only [cD]; omega
def StepsQ (d : Nat) (most : Int) (H H' : Heap) (v : Value) : Prop := ∃ b so,∃ l : List (TStep d),v = sli b 0 l.length /\ OwnL (Co.step d) 8 54 H.length [] H' b so l /\ (Co.sl (Co.step d)).sm l /\ (l.length : Int) <= most
def StepsDr (F : Nat -> Option IFn) (H0 : Heap) (rb : Nat) (bv : Value) (f d : Nat) : Prop := ∀ (vars most : Int),vars <= 9223372036854775807 -> 0 <= most -> most <= 4 -> DrawS F H0 rb bv f [.int .i64 most,.int .i64 d,.int .i64 vars] (cD d) (StepsQ d most)
structure Bd (H0 : Heap) (rb : Nat) (bv : Value) (H : Heap) (d b : Nat) (so : Bool) (l : List (TStep (d + 1))) (bs : Nat) (cells : List Value) (p : Int) (Hc : Heap) : Prop where
 st : St H0 rb bv p Hc
 ag : AgX [rb] H Hc
 own : OwnL (Co.step (d + 1)) 8 54 H.length [bs] Hc b so l
 box : Hc[bs]? = some ⟨cells,0,0,false,true⟩
 lo : H.length <= bs
 ne : b < bs
 rbl : rb < H.length
section
variable {H0 : Heap} {rb : Nat} {bv : Value} {code : List Int} {H : Heap} {d b : Nat} {so : Bool} {l : List (TStep (d + 1))} {bs : Nat} {cells cells' : List Value} {p p' : Int} {Hc Hc' : Heap}
theorem Bd.draw (h : Bd H0 rb bv H d b so l bs cells p Hc) (hx : AgX [rb] Hc Hc') (hs : St H0 rb bv p' Hc') : Bd H0 rb bv H d b so l bs cells p' Hc' := by
 have h1 := h.rbl
 have h2 := h.lo
 have h3 := h.own.1
 refine ⟨hs,h.ag.tr hx,h.own.sub hx (by simp; omega) (fun b' _ h5 h6 h7 => ⟨by simp; omega,h7⟩),hx.get h.box (by simp; omega),h2,h.ne,h1⟩
theorem Bd.drawV (h : Bd H0 rb bv H d b so l bs cells p Hc) (hx : AgX [rb] Hc Hc') : Sub (vwl H.length [b,bs] Hc) (vwl H.length [b,bs] Hc') := by
 have h1 := h.rbl
 exact vwl_sub hx (Nat.le_refl _) fun b' _ h5 h6 => ⟨by simp; omega,h6⟩
theorem Bd.store (hc : RdC H0 rb bv code) (h : Bd H0 rb bv H d b so l bs cells p Hc) : Bd H0 rb bv H d b so l bs cells' p (Hc.set bs ⟨cells',0,0,false,true⟩) := by
 have h1 := h.rbl
 have h2 := h.lo
 have h3 := h.ne
 refine ⟨h.st.setN hc (by omega) _,h.ag.setN h2 _,h.own.sub (AgX.set _ _ _) (by simp; omega) (fun b' _ h5 h6 h7 => ⟨h7,h7⟩),List.getElem?_set_self (List.getElem?_eq_some_iff.1 h.box).1,h2,h3,h1⟩
theorem Bd.storeV (h : Bd H0 rb bv H d b so l bs cells p Hc) (k : Blk) : Sub (vwl H.length [b,bs] Hc) (vwl H.length [b,bs] (Hc.set bs k)) :=
 vwl_sub (AgX.set _ _ _) (Nat.le_refl _) fun b' _ h5 h6 => ⟨by simp only [List.mem_cons,not_or,List.not_mem_nil,not_false_eq_true,and_true] at h6 ⊢; exact h6.2,h6⟩
end
def Rg (a : Int) : Prop := -9223372036854775808 <= a /\ a <= 9223372036854775807
def StC (d : Nat) (V : Vw) (cells : List Value) : Prop := ∃ (k x a b c h : Int) (tv ev : Value) (tl el : List (TStep d)),cells = [.int .i64 k,.int .i64 x,.int .i64 a,.int .i64 b,.int .i64 c,.int .i64 h,tv,ev] /\
 (Rg k /\ Rg x /\ Rg a /\ Rg b /\ Rg c /\ Rg h) /\ SlR (Co.step d) V tv tl /\ SlR (Co.step d) V ev el /\ (Co.sl (Co.step d)).sm tl /\ (Co.sl (Co.step d)).sm el
theorem StC.mono {d : Nat} {V V' : Vw} {cells : List Value} (h : StC d V cells) (hs : Sub V V') : StC d V' cells := by
 obtain ⟨k,x,a,b,c,g,tv,ev,tl,el,h1,h2,h3,h4,h5⟩ := h
 exact ⟨k,x,a,b,c,g,tv,ev,tl,el,h1,h2,h3.mono hs,h4.mono hs,h5⟩
theorem slr_nil {α : Type} (A : Co α) (V : Vw) : SlR A V nilS ([] : List α) := ⟨by simp,none,rfl,.inl rfl⟩
theorem sm_nil {α : Type} (A : Co α) : (Co.sl A).sm ([] : List α) := ⟨by simp,fun _ h => by cases h⟩
def Tm (rb : Nat) (most vars : Int) (d b n bs : Nat) (k : Int) (e : Env) : Prop := e 0 = ptr rb 0 /\ e 1 = .int .i64 most /\ e 2 = .int .i64 ((d + 1 : Nat) : Int) /\ e 3 = .int .i64 vars /\ e 9 = sli b 0 n /\ e 10 = .int .i64 k /\ e 11 = ptr bs 0
theorem drSwitch_ok {F : Nat -> Option IFn} (hpk : F 14 = some c_pick) {H0 : Heap} {rb : Nat} {bv : Value} {code : List Int} (hc : RdC H0 rb bv code) {d : Nat} (hst : 1 <= d -> StepsDr F H0 rb bv 101 d) {H Hc : Heap} {b bs lo : Nat} {so : Bool} {l : List (TStep (d + 1))} {most vars k x p : Int} {e : Env} {K : X -> Env -> Heap -> Prop}
  (hB : Bd H0 rb bv H d b so l bs [.int .i64 1,.int .i64 x,.int .i64 0,.int .i64 0,.int .i64 0,.int .i64 0,nilS,nilS] p Hc) (hT : Tm rb most vars d b l.length bs k e) (hx : Rg x) (hp : 0 <= p) (hp2 : p + 2 + 2 * cD d <= 1000000) (hlo : lo <= rb) (hvars : vars <= 9223372036854775807) (hd : d <= 10)
  (hK : ∀ e' Hc' p' cells,Tm rb most vars d b l.length bs k e' -> Bd H0 rb bv H d b so l bs cells p' Hc' -> StC d (vwl H.length [b,bs] Hc') cells -> (p <= p' /\ p' <= p + 2 + 2 * cD d) -> K .n e' Hc') : wpc F lo dsSwitch e Hc K := by
 obtain ⟨e0,e1,e2,e3,e9,e10,e11⟩ := hT
 have hcd := cD_pos d
 have hlob : lo <= bs := by have := hB.lo; have := hB.rbl; omega
 unfold dsSwitch
 refine seq_reg ?_
 simp only [go_sem,binC,e0]
 refine op_draw (n := 5) hpk hc hB.st (by omega) (by omega) hlo (by simp only [go_sem,binC,e0]) (by simp only [go_sem,binC]) fun H1 hl1 hx1 hs1 => ?_
 have hB1 := hB.draw hx1 hs1
 simp only [go_sem,binC]
 refine wpc_block ?_
 refine seq_reg ?_
 by_cases h0 : pickV code p 5 = 0
 ·simp only [go_sem,binC,beq_t h0]
  refine wpc_cond (t := true) (by simp only [go_sem,binC]) ?_
  simp only [go_sem,binC]
  refine seq_reg ?_
  simp only [go_sem,binC,e11,hB1.box]
  refine ⟨hlob,?_⟩
  have hB2 := hB1.store hc (cells' := [.int .i64 3,.int .i64 x,.int .i64 0,.int .i64 0,.int .i64 0,.int .i64 0,nilS,nilS])
  refine wpc_reg ?_
  simp only [go_sem,binC,e0]
  refine op_draw (n := 3) hpk hc hB2.st (by omega) (by omega) hlo (by simp only [go_sem,binC,e0]) (by simp only [go_sem,binC]) fun H2 hl2 hx2 hs2 => ?_
  have hB3 := hB2.draw hx2 hs2
  simp only [go_sem,binC,e11,hB3.box]
  refine ⟨hlob,?_⟩
  have hB4 := hB3.store hc (cells' := [.int .i64 3,.int .i64 x,.int .i64 0,.int .i64 0,.int .i64 0,.int .i64 (pickV code (p + 1) 3),nilS,nilS])
  simp only [go_sem,binC,out_n]
  have hbd := pickV_bd code (p + 1) (n := 3) (by omega)
  exact hK _ _ (p + 1 + 1) _ ⟨by simp only [go_sem,binC,e0],by simp only [go_sem,binC,e1],by simp only [go_sem,binC,e2],by simp only [go_sem,binC,e3],by simp only [go_sem,binC,e9],by simp only [go_sem,binC,e10],by simp only [go_sem,binC,e11]⟩ hB4 ⟨_,_,_,_,_,_,_,_,[],[],rfl,⟨by unfold Rg; omega,hx,by unfold Rg; omega,by unfold Rg; omega,by unfold Rg; omega,by unfold Rg; omega⟩,slr_nil _ _,slr_nil _ _,sm_nil _,sm_nil _⟩ (by omega)
 simp only [go_sem,binC,beq_f h0]
 refine wpc_cond (t := false) (by simp only [go_sem,binC]) ?_
 simp only [go_sem,binC]
 refine seq_assoc (seq_reg ?_)
 have hskip : ∀ e' : Env,e' 0 = e 0 -> e' 1 = e 1 -> e' 2 = e 2 -> e' 3 = e 3 -> e' 9 = e 9 -> e' 10 = e 10 -> e' 11 = e 11 -> K .n e' H1 := fun e' q0 q1 q2 q3 q9 q10 q11 =>
  hK e' H1 (p + 1) _ ⟨q0.trans e0,q1.trans e1,q2.trans e2,q3.trans e3,q9.trans e9,q10.trans e10,q11.trans e11⟩ hB1 ⟨_,_,_,_,_,_,_,_,[],[],rfl,⟨by unfold Rg; omega,hx,by unfold Rg; omega,by unfold Rg; omega,by unfold Rg; omega,by unfold Rg; omega⟩,slr_nil _ _,slr_nil _ _,sm_nil _,sm_nil _⟩ (by omega)
 have hif : ∀ e' : Env,e' 0 = e 0 -> e' 1 = e 1 -> e' 2 = e 2 -> e' 3 = e 3 -> e' 9 = e 9 -> e' 10 = e 10 -> e' 11 = e 11 -> wpc F lo dsIf e' H1 fun x e1 H2 => K (x.out 2) e1 H2 := by
  intro e' q0 q1 q2 q3 q9 q10 q11
  rw [e0] at q0; rw [e1] at q1; rw [e2] at q2; rw [e3] at q3; rw [e9] at q9; rw [e10] at q10; rw [e11] at q11
  unfold dsIf
  refine seq_reg ?_
  simp only [go_sem,binC,q2]
  by_cases h1 : d = 0
  ·subst h1
   refine wpc_cond (t := false) (by simp only [go_sem,binC]; rfl) ?_
   simp only [go_sem,binC]
   refine wpc_skip ?_
   simp only [go_sem,binC,out_n]
   exact hskip _ (by simp only [go_sem,binC,q0,e0]) (by simp only [go_sem,binC,q1,e1]) (by simp only [go_sem,binC,q2,e2]) (by simp only [go_sem,binC,q3,e3]) (by simp only [go_sem,binC,q9,e9]) (by simp only [go_sem,binC,q10,e10]) (by simp only [go_sem,binC,q11,e11])
  refine wpc_cond (t := true) (by simp only [go_sem,binC]; rw [decide_eq_true (by omega)]) ?_
  simp only [go_sem,binC]
  have hS := hst (by omega)
  have hw : IntKind.i64.wrap (((d + 1 : Nat) : Int) - 1) = (d : Int) := by rw [wrap_id (by omega) (by omega)]; omega
  refine seq_reg ?_
  simp only [go_sem,binC,q11,hB1.box]
  refine ⟨hlob,?_⟩
  have hB2 := hB1.store hc (cells' := [.int .i64 2,.int .i64 x,.int .i64 0,.int .i64 0,.int .i64 0,.int .i64 0,nilS,nilS])
  refine seq_reg ?_
  simp only [go_sem,binC,q0,q2,q3,hw]
  obtain ⟨v3,H3,p3,k3,x3,s3,b3,bq3,so3,l3,rfl,o3,m3,c3⟩ := hS vars 2 hvars (by omega) (by omega) _ _ lo hB2.st (by omega) (by omega) hlo
  refine op_callN (by simp only [go_sem,binC,q0,q2,q3,hw]; exact k3) ?_
  have hB3 := hB2.draw x3 s3
  simp only [go_sem,binC,q11,hB3.box]
  refine ⟨hlob,?_⟩
  have hlow : bs < (H1.set bs ⟨[.int .i64 2,.int .i64 x,.int .i64 0,.int .i64 0,.int .i64 0,.int .i64 0,nilS,nilS],0,0,false,true⟩).length := (List.getElem?_eq_some_iff.1 hB2.box).1
  have hbn := hB.ne
  have hbl := hB.lo
  have r3 : SlR (Co.step d) (vwl H.length [b,bs] H3) (sli bq3 0 l3.length) l3 := (o3.slR (step_w d) (by simp)).mono (vwl_sub (AgX.refl [] _) (by omega) fun b' _ h5 _ => ⟨by simp,by simp; omega⟩)
  have hB4 := hB3.store hc (cells' := [.int .i64 2,.int .i64 x,.int .i64 0,.int .i64 0,.int .i64 0,.int .i64 0,sli bq3 0 l3.length,nilS])
  have r4 := r3.mono (hB3.storeV ⟨[.int .i64 2,.int .i64 x,.int .i64 0,.int .i64 0,.int .i64 0,.int .i64 0,sli bq3 0 l3.length,nilS],0,0,false,true⟩)
  refine wpc_reg ?_
  simp only [go_sem,binC,q0,q2,q3,hw]
  obtain ⟨v5,H5,p5,k5,x5,s5,b5,bq5,so5,l5,rfl,o5,m5,c5⟩ := hS vars 2 hvars (by omega) (by omega) _ _ lo hB4.st (by omega) (by omega) hlo
  refine op_callN (by simp only [go_sem,binC,q0,q2,q3,hw]; exact k5) ?_
  have hB5 := hB4.draw x5 s5
  simp only [go_sem,binC,q11,hB5.box]
  refine ⟨hlob,?_⟩
  have hlow5 := (List.getElem?_eq_some_iff.1 hB4.box).1
  have r5 : SlR (Co.step d) (vwl H.length [b,bs] H5) (sli bq5 0 l5.length) l5 := (o5.slR (step_w d) (by simp)).mono (vwl_sub (AgX.refl [] _) (by omega) fun b' _ h5 _ => ⟨by simp,by simp; omega⟩)
  have r6 := r4.mono (hB4.drawV x5)
  have hB6 := hB5.store hc (cells' := [.int .i64 2,.int .i64 x,.int .i64 0,.int .i64 0,.int .i64 0,.int .i64 0,sli bq3 0 l3.length,sli bq5 0 l5.length])
  simp only [go_sem,binC,out_n]
  refine hK _ _ p5 _ ⟨by simp only [go_sem,binC,q0],by simp only [go_sem,binC,q1],by simp only [go_sem,binC,q2],by simp only [go_sem,binC,q3],by simp only [go_sem,binC,q9],by simp only [go_sem,binC,q10],by simp only [go_sem,binC,q11]⟩ hB6 ⟨_,_,_,_,_,_,_,_,l3,l5,rfl,⟨by unfold Rg; omega,hx,by unfold Rg; omega,by unfold Rg; omega,by unfold Rg; omega,by unfold Rg; omega⟩,r6.mono (hB5.storeV _),r5.mono (hB5.storeV _),m3,m5⟩ (by omega)
 by_cases h1 : pickV code p 5 = 1
 ·simp only [go_sem,binC,beq_t h1]
  refine seq_cond (t := true) (by simp only [go_sem,binC]) ?_
  simp only [go_sem,binC]
  refine seq_skip ?_
  refine wpc_cond (t := true) (by simp only [go_sem,binC]) ?_
  simp only [go_sem,binC]
  exact hif _ (by simp only [go_sem,binC]) (by simp only [go_sem,binC]) (by simp only [go_sem,binC]) (by simp only [go_sem,binC]) (by simp only [go_sem,binC]) (by simp only [go_sem,binC]) (by simp only [go_sem,binC])
 simp only [go_sem,binC,beq_f h1]
 refine seq_cond (t := false) (by simp only [go_sem,binC]) ?_
 simp only [go_sem,binC]
 refine seq_reg ?_
 by_cases h2 : pickV code p 5 = 2
 ·simp only [go_sem,binC,beq_t h2]
  refine wpc_cond (t := true) (by simp only [go_sem,binC]) ?_
  simp only [go_sem,binC]
  exact hif _ (by simp only [go_sem,binC]) (by simp only [go_sem,binC]) (by simp only [go_sem,binC]) (by simp only [go_sem,binC]) (by simp only [go_sem,binC]) (by simp only [go_sem,binC]) (by simp only [go_sem,binC])
 simp only [go_sem,binC,beq_f h2]
 refine wpc_cond (t := false) (by simp only [go_sem,binC]) ?_
 simp only [go_sem,binC]
 refine wpc_skip ?_
 simp only [go_sem,binC,out_n]
 exact hskip _ (by simp only [go_sem,binC]) (by simp only [go_sem,binC]) (by simp only [go_sem,binC]) (by simp only [go_sem,binC]) (by simp only [go_sem,binC]) (by simp only [go_sem,binC]) (by simp only [go_sem,binC])
end Go.Proofs.YtbjeldblaclpnaaGreatI
end
section
set_option linter.unusedVariables false
set_option linter.unusedSimpArgs false
namespace Go.Proofs.YtbjeldblaclpnaaGreatI
open Go Go.RowKit
theorem drValIf_ok {F : Nat -> Option IFn} (hvl : F 105 = some c_drVal) (hpk : F 14 = some c_pick) {H0 : Heap} {rb : Nat} {bv : Value} {code : List Int} (hc : RdC H0 rb bv code) {d : Nat} {H Hc : Heap} {b bs lo : Nat} {so : Bool} {l : List (TStep (d + 1))} {most vars k p : Int} {cells : List Value} {e : Env} {K : X -> Env -> Heap -> Prop}
  (hB : Bd H0 rb bv H d b so l bs cells p Hc) (hT : Tm rb most vars d b l.length bs k e) (hS : StC d (vwl H.length [b,bs] Hc) cells) (hp : 0 <= p) (hp2 : p + 3 <= 1000000) (hlo : lo <= rb) (hvars : vars <= 9223372036854775807)
  (hK : ∀ e' Hc' p' cells,Tm rb most vars d b l.length bs k e' -> Bd H0 rb bv H d b so l bs cells p' Hc' -> StC d (vwl H.length [b,bs] Hc') cells -> (p <= p' /\ p' <= p + 3) -> K .n e' Hc') : wpc F lo dsVal e Hc K := by
 obtain ⟨e0,e1,e2,e3,e9,e10,e11⟩ := hT
 obtain ⟨sk,sx,sa,sb,sc,sh,tv,ev,tl,el,rfl,⟨rk,rx,ra,rb',rc,rh⟩,htl,hel,mtl,mel⟩ := hS
 have hlob : lo <= bs := by have := hB.lo; have := hB.rbl; omega
 have htv := (by obtain ⟨_,a,h,_⟩ := htl; exact ⟨a,h⟩ : ∃ a,tv = .slice a tl.length tl.length)
 have hev := (by obtain ⟨_,a,h,_⟩ := hel; exact ⟨a,h⟩ : ∃ a,ev = .slice a el.length el.length)
 unfold dsVal
 refine seq_reg ?_
 simp only [go_sem,binC,e11,gc_of hB.box,inBlk_some]
 by_cases h1 : sk = 1
 ·simp only [go_sem,binC,beq_t h1]
  refine wpc_cond (t := true) (by simp only [go_sem,binC]) ?_
  simp only [go_sem,binC]
  refine wpc_reg ?_
  simp only [go_sem,binC,e0,e3]
  obtain ⟨v,H1,p1,k1,x1,s1,c1,a,b',c,rfl,r1,r2,r3⟩ := drVal_ok hvl hpk hc hvars Hc p lo hB.st hp hp2 hlo
  refine op_callN (by simp only [go_sem,binC,e0,e3]; exact k1) ?_
  have hB1 := hB.draw x1 s1
  simp only [go_sem,binC,e11,hB1.box]
  refine ⟨hlob,?_⟩
  refine hK _ _ p1 _ ⟨by simp only [go_sem,binC,e0],by simp only [go_sem,binC,e1],by simp only [go_sem,binC,e2],by simp only [go_sem,binC,e3],by simp only [go_sem,binC,e9],by simp only [go_sem,binC,e10],by simp only [go_sem,binC,e11]⟩ (hB1.store hc) ⟨_,_,_,_,_,_,_,_,tl,el,rfl,⟨rk,rx,r1,r2,r3,rh⟩,(htl.mono (hB.drawV x1)).mono (hB1.storeV _),(hel.mono (hB.drawV x1)).mono (hB1.storeV _),mtl,mel⟩ c1
 ·simp only [go_sem,binC,beq_f h1]
  refine wpc_cond (t := false) (by simp only [go_sem,binC]) ?_
  simp only [go_sem,binC]
  refine wpc_skip ?_
  exact hK _ _ p _ ⟨by simp only [go_sem,binC,e0],by simp only [go_sem,binC,e1],by simp only [go_sem,binC,e2],by simp only [go_sem,binC,e3],by simp only [go_sem,binC,e9],by simp only [go_sem,binC,e10],by simp only [go_sem,binC,e11]⟩ hB ⟨_,_,_,_,_,_,_,_,tl,el,rfl,⟨rk,rx,ra,rb',rc,rh⟩,htl,hel,mtl,mel⟩ (by omega)
theorem step_rd {d : Nat} {V : Vw} {k x a b c h : Int} {tv ev : Value} {tl el : List (TStep d)} (rk : Rg k) (rx : Rg x) (ra : Rg a) (rb : Rg b) (rc : Rg c) (rh : Rg h) (htl : SlR (Co.step d) V tv tl) (hel : SlR (Co.step d) V ev el) :
  (Co.step (d + 1)).rd V [.int .i64 k,.int .i64 x,.int .i64 a,.int .i64 b,.int .i64 c,.int .i64 h,tv,ev] (k,x,(a,b,c),h,tl,el) :=
 ⟨[.int .i64 k],_,rfl,⟨rfl,rk⟩,[.int .i64 x],_,rfl,⟨rfl,rx⟩,[.int .i64 a,.int .i64 b,.int .i64 c],_,rfl,⟨[.int .i64 a],_,rfl,⟨rfl,ra⟩,[.int .i64 b],_,rfl,⟨rfl,rb⟩,⟨rfl,rc⟩⟩,[.int .i64 h],_,rfl,⟨rfl,rh⟩,[tv],[ev],rfl,⟨tv,rfl,htl⟩,⟨ev,rfl,hel⟩⟩
theorem step_smM {d : Nat} {k x a b c h : Int} {tl el : List (TStep d)} (mtl : (Co.sl (Co.step d)).sm tl) (mel : (Co.sl (Co.step d)).sm el) : (Co.step (d + 1)).sm (k,x,(a,b,c),h,tl,el) :=
 ⟨trivial,trivial,⟨trivial,trivial,trivial⟩,trivial,mtl,mel⟩
theorem drApp_ok {F : Nat -> Option IFn} {H0 : Heap} {rb : Nat} {bv : Value} {d : Nat} {H Hc : Heap} {b bs lo : Nat} {so : Bool} {l : List (TStep (d + 1))} {most vars k p : Int} {cells : List Value} {e : Env} {K : X -> Env -> Heap -> Prop}
  (hB : Bd H0 rb bv H d b so l bs cells p Hc) (hc0 : H0.length <= rb) (hT : Tm rb most vars d b l.length bs k e) (hS : StC d (vwl H.length [b,bs] Hc) cells) (hlo : lo <= rb) (hl : l.length < 100)
  (hK : ∀ e' Hc' b' so' a,(e' 0 = ptr rb 0 /\ e' 1 = .int .i64 most /\ e' 2 = .int .i64 ((d + 1 : Nat) : Int) /\ e' 3 = .int .i64 vars /\ e' 9 = sli b' 0 (l.length + 1) /\ e' 10 = .int .i64 k) -> St H0 rb bv p Hc' -> AgX [rb] H Hc' -> OwnL (Co.step (d + 1)) 8 54 H.length [] Hc' b' so' (l ++ [a]) -> (Co.step (d + 1)).sm a -> K .n e' Hc') : wpc F lo dsApp e Hc K := by
 obtain ⟨e0,e1,e2,e3,e9,e10,e11⟩ := hT
 obtain ⟨sk,sx,sa,sb,sc,sh,tv,ev,tl,el,rfl,⟨rk,rx,ra,rb',rc,rh⟩,htl,hel,mtl,mel⟩ := hS
 have hrd := step_rd rk rx ra rb' rc rh htl hel
 obtain ⟨_,at',rfl,_⟩ := htl
 obtain ⟨_,ae',rfl,_⟩ := hel
 have hbl := (List.getElem?_eq_some_iff.1 hB.box).1
 have h1 := hB.lo
 have h2 := hB.rbl
 unfold dsApp
 refine wpc_reg ?_
 simp only [go_sem,binC,e11,e9,gc_of hB.box,inBlk_some]
 refine op_app_own (xs := [bs]) hB.own (by simp only [go_sem,binC,e9]) (by simp only [go_sem,binC]) (by omega) (step_w _) hrd (by omega) (by omega) (by simpa using hbl) fun H' hx hown => ?_
 simp only [go_sem,binC]
 refine hK _ H' _ _ _ ⟨by simp only [go_sem,binC,e0],by simp only [go_sem,binC,e1],by simp only [go_sem,binC,e2],by simp only [go_sem,binC,e3],by simp only [go_sem,binC],by simp only [go_sem,binC,e10]⟩ ?_ (hB.ag.trans hx (fun _ h _ => h) (fun b' h3 h4 => by simp only [List.mem_singleton] at h3; have := hB.own.1; omega)) (hown.sub (AgX.refl [] H') (by simp) fun b' _ _ _ _ => ⟨by simp,by simp⟩) (step_smM mtl mel)
 have hown1 := hB.own.1
 exact ⟨fun b' h3 h4 => by rw [hx.2 b' (by omega) (by simp; omega)]; exact hB.st.ag b' h3 h4,hx.get hB.st.r (by simp; omega)⟩
theorem drSteps_step {F : Nat -> Option IFn} {f : Nat} (hf : F f = some c_drSteps) (hvl : F 105 = some c_drVal) (hpk : F 14 = some c_pick) {H0 : Heap} {rb : Nat} {bv : Value} {code : List Int} (hc : RdC H0 rb bv code) {d : Nat} (hst : 1 <= d -> StepsDr F H0 rb bv 101 d) (hd : d <= 10) : StepsDr F H0 rb bv f (d + 1) := by
 intro vars most hv hm0 hm4
 have hcd := cD_pos d
 refine DrawS.mk hf rfl fun H p lo hs hp hp2 hlo => ?_
 have hcd1 : cD (d + 1) = 25 + 8 * cD d := rfl
 have hl := hs.lt
 have hc0 := hc.low
 refine seq_reg ?_
 simp only [go_sem,binC]
 refine seq_reg ?_
 simp only [go_sem,binC]
 refine wpc_gen fun Hb hHb => ?_
 have hs0 : St H0 rb bv p Hb := hHb ▸ hs.appN hc _
 have ht0 : AgX [rb] H Hb := hHb ▸ AgX.app [rb] _ _
 have ho0 : OwnL (Co.step (d + 1)) 8 54 H.length [] Hb H.length true [] := hHb ▸ OwnG.nil (Nat.le_refl _)
 clear hHb
 refine seq_assoc (seq_reg ?_)
 simp only [go_sem,binC]
 rw [wrap_id (x := most + 1) (by omega) (by omega)]
 refine op_draw (n := most + 1) hpk hc hs0 (by omega) (by omega) hlo (by simp only [go_sem,binC]) (by simp only [go_sem,binC]) fun H1 hl1 hx1 hs1 => ?_
 simp only [go_sem,binC]
 have hbd := pickV_bd code p (n := most + 1) (by omega)
 have ho1 : OwnL (Co.step (d + 1)) 8 54 H.length [] H1 H.length true [] := ho0.sub hx1 (by simp; omega) fun b' _ h5 h6 _ => ⟨by simp; omega,by simp⟩
 refine seq_block (wpc_loop ?_)
 obtain ⟨n0,hn0⟩ : ∃ n0 : Nat,pickV code p (most + 1) = n0 := ⟨(pickV code p (most + 1)).toNat,by omega⟩
 rw [hn0] at hbd ⊢
 suffices h : ∀ (k : Nat) (e : Env) (Hc : Heap) (b : Nat) (so : Bool) (l : List (TStep (d + 1))) (q : Int),(l.length : Int) + k <= most -> p <= q -> q + (k : Int) * (6 + 2 * cD d) <= p + cD (d + 1) -> St H0 rb bv q Hc -> AgX [rb] H Hc -> OwnL (Co.step (d + 1)) 8 54 H.length [] Hc b so l -> (Co.sl (Co.step (d + 1))).sm l ->
   e 0 = ptr rb 0 -> e 1 = .int .i64 most -> e 2 = .int .i64 ((d + 1 : Nat) : Int) -> e 3 = .int .i64 vars -> e 9 = sli b 0 l.length -> e 10 = .int .i64 k -> W F lo _ e Hc _ from
  h n0 _ H1 H.length true [] (p + 1) (by simp; omega) (by omega) (by
   have : n0 = 0 \/ n0 = 1 \/ n0 = 2 \/ n0 = 3 \/ n0 = 4 := by omega
   rcases this with rfl | rfl | rfl | rfl | rfl <;> omega) hs1 (ht0.tr hx1) ho1 (sm_nil _) (by simp only [go_sem,binC]) (by simp only [go_sem,binC]) (by (simp only [go_sem,binC]) <;> rfl) (by simp only [go_sem,binC]) (by (simp only [go_sem,binC]) <;> rfl) (by simp only [go_sem,binC])
 intro k
 induction k with
 | zero =>
   intro e Hc b so l q hlk hpq hq hs2 ht2 ho2 hsm e0 e1 e2 e3 e9 e10
   refine lp_step ?_
   refine seq_assoc (seq_reg ?_)
   simp only [go_sem,binC,e10]
   refine seq_cond (t := false) (by (simp only [go_sem,binC]) <;> rfl) ?_
   simp only [go_sem,binC]
   refine seq_exit ?_
   simp only [go_sem,binC,thenX_e,out_e,thenX_n]
   refine seq_reg ?_
   simp only [go_sem,binC,e9]
   refine wpc_ret ⟨Or.inr rfl,_,(by (simp only [go_sem,binC]) <;> rfl),q,ht2,hs2,by omega,b,so,l,rfl,ho2,hsm,by omega⟩
 | succ k ih =>
   intro e Hc b so l q hlk hpq hq hs2 ht2 ho2 hsm e0 e1 e2 e3 e9 e10
   have hmul : ((k + 1 : Nat) : Int) * (6 + 2 * cD d) = (k : Int) * (6 + 2 * cD d) + (6 + 2 * cD d) := by rw [Int.natCast_add,Int.add_mul]; simp
   have hk0 : 0 <= (k : Int) * (6 + 2 * cD d) := Int.mul_nonneg (by omega) (by omega)
   refine lp_step ?_
   refine seq_assoc (seq_reg ?_)
   simp only [go_sem,binC,e10]
   refine seq_cond (t := true) (by simp only [go_sem,binC]; rw [decide_eq_true (by omega)]) ?_
   simp only [go_sem,binC]
   refine seq_skip (seq_block ?_)
   refine seq_reg ?_
   simp only [go_sem,binC,e0,e3]
   refine op_draw (n := vars) hpk hc hs2 (by omega) (by omega) hlo (by simp only [go_sem,binC,e0]) (by simp only [go_sem,binC,e3]) fun H2 hl2 hx2 hs3 => ?_
   simp only [go_sem,binC]
   have hrx := pickV_i64 code q hv
   refine ⟨by have := hs3.lt; omega,?_⟩
   refine wpc_gen fun H3 hH3 => ?_
   have ho3 : OwnL (Co.step (d + 1)) 8 54 H.length [] H2 b so l := ho2.sub hx2 (by simp; have := ho2.1; omega) fun b' _ h5 h6 _ => ⟨by simp; omega,by simp⟩
   have hb2 : b < H2.length := by obtain ⟨_,_,cs,h,_⟩ := ho3; exact (List.getElem?_eq_some_iff.1 h).1
   have ht3 := ht2.tr hx2
   have hB : Bd H0 rb bv H d b so l H2.length [.int .i64 1,.int .i64 (pickV code q vars),.int .i64 0,.int .i64 0,.int .i64 0,.int .i64 0,nilS,nilS] (q + 1) H3 := by
    subst hH3
    exact ⟨hs3.appN hc _,ht3.appN _,ho3.sub (AgX.app [] _ _) (by simp) (fun b' h4 h5 h6 h7 => ⟨by simp,by simp; omega⟩),get_new0 _ _,ht3.1,hb2,hl⟩
   clear hH3
   refine wpc_seq ?_
   refine drSwitch_ok (k := ((k + 1 : Nat) : Int)) (most := most) (vars := vars) hpk hc hst hB ⟨by simp only [go_sem,binC,e0],by simp only [go_sem,binC,e1],by simp only [go_sem,binC,e2],by simp only [go_sem,binC,e3],by simp only [go_sem,binC,e9],by simp only [go_sem,binC,e10],by simp only [go_sem,binC]⟩ (by unfold Rg; omega) (by omega) (by omega) hlo hv hd fun e4 H4 p4 cells4 hT4 hB4 hS4 hp4 => ?_
   simp only [go_sem,binC,thenX_n]
   refine wpc_seq ?_
   refine drValIf_ok hvl hpk hc hB4 hT4 hS4 (by omega) (by omega) hlo hv fun e5 H5 p5 cells5 hT5 hB5 hS5 hp5 => ?_
   simp only [go_sem,binC,thenX_n]
   refine drApp_ok hB5 hc0 hT5 hS5 hlo (by omega) fun e6 H6 b6 so6 a6 ⟨f0,f1,f2,f3,f9,f10⟩ hs6 ht6 ho6 hsm6 => ?_
   simp only [go_sem,binC,out_n,thenX_n]
   refine wpc_reg ?_
   simp only [go_sem,binC,f10]
   have hw1 : IntKind.i64.wrap (((k + 1 : Nat) : Int) - 1) = (k : Int) := by rw [wrap_id (by omega) (by omega)]; omega
   rw [hw1]
   simp only [go_sem,binC,thenX_n]
   refine ih _ H6 b6 so6 (l ++ [a6]) p5 (by simp; omega) (by omega) (by omega) hs6 ht6 ho6 ⟨by simp; omega,fun x hx => ?_⟩ (by simp only [go_sem,binC,f0]) (by simp only [go_sem,binC,f1]) (by simp only [go_sem,binC,f2]) (by simp only [go_sem,binC,f3]) (by simp only [go_sem,binC,f9]; simp) (by simp only [go_sem,binC])
   rw [List.mem_append] at hx
   rcases hx with hx | hx
   ·exact hsm.2 x hx
   ·simp only [List.mem_singleton] at hx; subst hx; exact hsm6
theorem drSteps_all {F : Nat -> Option IFn} (hf : F 101 = some c_drSteps) (hvl : F 105 = some c_drVal) (hpk : F 14 = some c_pick) {H0 : Heap} {rb : Nat} {bv : Value} {code : List Int} (hc : RdC H0 rb bv code) : ∀ d,1 <= d -> d <= 10 -> StepsDr F H0 rb bv 101 d
 | 0,h,_ => by omega
 | d + 1,_,h => drSteps_step hf hvl hpk hc (fun h1 => drSteps_all hf hvl hpk hc d h1 (by omega)) (by omega)
end Go.Proofs.YtbjeldblaclpnaaGreatI
end
end
