/- Texts of this proof, merged: M3. -/
import Derived.Test.YtbjeldblaclpnaaGreatPz2
section
section
set_option linter.unusedVariables false
set_option linter.unusedSimpArgs false
namespace Go.Proofs.YtbjeldblaclpnaaGreatI
open Go Go.RowKit
theorem cOp_call {P : Program} {c : CM} {o : Oper} {md : Mode} {f : Opd} {args : List Opd} (hc : cOp P c o = some (.call md f args)) :
  ∃ fo aso ts,o.op = .call ⟨.value fo,aso,ts⟩ /\ cOpd fo = some f /\ cOpds aso.toList = some args := by
 unfold cOp at hc
 split at hc
 ·rename_i fo aso ts ho
  simp only [Option.bind_eq_some_iff,Option.map_eq_some_iff] at hc
  obtain ⟨f',h1,xs',h2,h3⟩ := hc
  simp only [IOp.call.injEq] at h3
  obtain ⟨_,rfl,rfl⟩ := h3
  exact ⟨fo,aso,ts,ho,h1,h2⟩
 ·have := (Option.filter_eq_some_iff.1 hc).2
  simp [notCall] at this
theorem cFn_spec {P : Program} {cm : Nat -> CM} {g : Nat} {fn : IFn} (h : cFn P cm g = some fn) :
  ∃ func c, P.funcs[g]? = some func ∧ func.body = some c ∧ func.name ≠ "runtime.NumGoroutine" ∧ fn.np ≤ fn.nt ∧ func.ntmps = fn.nt ∧ cCode P (cm g) fn.nt c = some fn.body ∧ cResL P func.results.toList = some fn.res := by
 simp only [cFn,Option.bind_eq_some_iff] at h
 obtain ⟨func,h1,c,h2,h⟩ := h
 split at h
 case isFalse => cases h
 case isTrue hq =>
  simp only [Option.bind_eq_some_iff,Option.map_eq_some_iff] at h
  obtain ⟨ic,h3,rs,h4,rfl⟩ := h
  exact ⟨func,c,h1,h2,hq.1,hq.2,rfl,h3,h4⟩
section
variable {P : Program} {cm : Nat -> CM} {lo : Nat} {base : Nat -> Prop} {m : MM} {H H1 : Heap} {w : World} {e e1 : Env} {a : Act} {v : Value}
theorem call_core {g : Nat} {fn : IFn} (hcf : cFn P cm g = some fn) {vals : List Value} (hlen : vals.length = fn.np) {x : X} (ih : CodeS P lo fn.body (ini vals) H x e1 H1) (hx : x = .n \/ x = .r) (hres : resV fn.res e1 H1 = some v)
  (s : Sim lo base m H w.heap) {vals' : Array Value} (hv : All2 (VR m) vals vals'.toList) (R : Ending -> World -> Prop)
  (hR : ∀ v' w' m',MM.agree H.length m m' -> Sim lo base m' H1 w'.heap -> VR m' v v' -> Kept base w w' -> R (.returned v') w') : Calls P g vals' w R := by
 obtain ⟨func,c,h1,h2,_,h4,h5,h6,h7⟩ := cFn_spec hcf
 refine calls_of_wp h1 h2 ?_
 rw [h5]
 have henv := ini_env hv fn.nt (by omega)
 refine ih (cm g) fn.nt c h6 _ _ w m base s (by simpa using henv) ?_
 intro a' w' m' q1 q2 q3 q4
 obtain ⟨v',r1,r2⟩ := resV_does h7 hres q2 q3
 have hb : a'.defers = [] /\ ∃ v,(results func a'.tmps).run P w' = .ok v w' /\ R (.returned v) w' := ⟨q3.defers,v',r1,hR v' w' m' q1 q2 r2 q4⟩
 rcases hx with rfl | rfl <;> exact hb
theorem call_op {o : Oper} {c : CM} {md : Mode} {f : Opd} {args : List Opd} (hc : cOp P c o = some (.call md f args)) {g : Nat} {first cap : Array Value} (hf : f.ev e = .func (.func g) first cap) {fn : IFn} (hcf : cFn P cm g = some fn)
  (u : OkU m e a o.op.operands) (next : Act -> World -> Prop) (Q : Exit -> Act -> World -> Prop)
  (hk : ∀ vals' : Array Value,All2 (VR m) (first.toList ++ args.map (·.ev e) ++ cap.toList) vals'.toList -> Calls P g vals' w fun
   | .returned v,w'' => next (a.put o.dst v) w''
   | .panicked chain,w'' => Q (.panic chain) a w''
   | .outgrown,_ => LetsOut Q) : o.wp P a w next Q := by
 obtain ⟨fo,aso,ts,ho,h1,h2⟩ := cOp_call hc
 obtain ⟨func,cd,g1,g2,g3,_⟩ := cFn_spec hcf
 have r1 := u.ev (x := fo) (by simp [ho,Op.operands,Call.operands]) h1
 rw [hf] at r1
 obtain ⟨first',cap',hax,r2,r3⟩ := r1.func
 have r4 := cOpds_does (e := e) (m := m) (a := a) aso.toList args h2 (fun t ht => u t (by simp [ho,Op.operands,Call.operands]; exact .inr (by simpa using ht)))
 have hv0 : ∀ {xs ys : List Value},All2 (VR0 m) xs ys -> All2 (VR m) xs ys := fun h => h.mono fun _ _ _ r => VR.of0 r
 have := hk (first' ++ aso.map a.eval ++ cap') (by
  simp only [Array.toList_append,Array.toList_map]
  exact ((hv0 r2).append r4).append (hv0 r3))
 unfold Oper.wp
 have hrun : (execOp a.eval o).run P w = .ok (.enter g (first' ++ aso.map a.eval ++ cap')) w := by
  simp [execOp,ho,resolve,hax,Deferred.ofValue,invoke,callFunc,g1,g2,g3]
 rw [hrun]
 exact this
end
theorem cOps_cons {P : Program} {c : CM} {nt : Nat} {ops : Array Oper} {os : List Oper} {o' : IOper} {r' : List IOper} (h : cOps P c nt ops os = some (o' :: r')) :
  ∃ o r,os = o :: r /\ cOper P c nt ops o = some o' /\ cOps P c nt ops r = some r' := by
 cases os with
 | nil => simp [cOps] at h
 | cons o r =>
   simp only [cOps,Option.bind_eq_some_iff,Option.map_eq_some_iff,List.cons.injEq] at h
   obtain ⟨o1,h1,r1,h2,rfl,rfl⟩ := h
   exact ⟨o,r,rfl,h1,h2⟩
theorem cOper_spec {P : Program} {c : CM} {nt : Nat} {ops : Array Oper} {o : Oper} {o' : IOper} (h : cOper P c nt ops o = some o') :
  cOp P c o = some o'.op /\ o.dst = o'.dst /\ dstOk nt o'.dst = true /\
   ((o.guard = none /\ o'.guard = none) \/ ∃ j g w,o.guard = some (j,w) /\ (ops[j]?).bind (·.dst) = some g /\ o'.guard = some (g,w)) := by
 simp only [cOper,Option.bind_eq_some_iff] at h
 obtain ⟨io,h1,h⟩ := h
 by_cases hd : dstOk nt o.dst = true
 case neg => rw [if_neg hd] at h; cases h
 case pos =>
  rw [if_pos hd] at h
  split at h
  ·rename_i hg
   cases h
   exact ⟨h1,rfl,hd,.inl ⟨hg,rfl⟩⟩
  ·rename_i j w hg
   simp only [Option.map_eq_some_iff] at h
   obtain ⟨g,h2,rfl⟩ := h
   exact ⟨h1,rfl,hd,.inr ⟨j,g,w,hg,h2,rfl⟩⟩
theorem VR.bool_right {m : MM} {v : Value} {b : Bool} (r : VR m v (.bool b)) : v = .bool b := by
 rcases r with (r | ⟨_,_,_,h,_⟩) | ⟨_,_,_,h,_⟩
 ·rcases r with r | ⟨_,_,_,_,_,_,h,_⟩
  ·cases v with
   | pointer a => cases a with
     | none => cases r
     | some a => obtain ⟨_,_,_,h⟩ := r; cases h
   | slice a n c => cases a with
     | none => obtain ⟨_,h⟩ := r; cases h
     | some a =>
       rcases r with ⟨_,_,_,_,h,_⟩ | ⟨_,_,_,_,h⟩
       ·cases h
       ·cases h
   | bool b' => cases r; rfl
   | int => cases r
   | string => cases r
   | nilFunc => cases r
   | _ => exact r.elim
  ·cases h
 ·cases h
 ·cases h
theorem runs_wanted {ops : Array Oper} {o : Oper} {o' : IOper} {m : MM} {e : Env} {a : Act}
  (hg : (o.guard = none /\ o'.guard = none) \/ ∃ j g w,o.guard = some (j,w) /\ (ops[j]?).bind (·.dst) = some g /\ o'.guard = some (g,w))
  (hv : ∀ g w,o'.guard = some (g,w) -> VR m (e g) (a.tmps.getD g undef)) : Region.wanted o (yielded ops a.tmps) = o'.runs e := by
 rcases hg with ⟨h1,h2⟩ | ⟨j,g,w,h1,h2,h3⟩
 ·simp [Region.wanted,IOper.runs,h1,h2]
 ·have r := hv g w h3
  simp only [Region.wanted,IOper.runs,h1,h3,yielded,h2,Option.bind_some]
  rw [Array.getD_eq_getD_getElem?] at r
  cases hz : a.tmps[g]? with
  | none =>
    rw [hz] at r
    simp only [Option.getD_none] at r
    cases he : e g with
    | bool b => rw [he] at r; have := r.bool; cases this
    | _ => rfl
  | some z =>
    rw [hz] at r
    simp only [Option.getD_some] at r
    cases he : e g with
    | bool b => rw [he] at r; rw [r.bool]; simp
    | _ => cases z <;> first | rfl | (have := r.bool_right; rw [he] at this; cases this)
theorem befs_length (ops : Array Oper) : ∀ k,(befs ops k).length = k
 | 0 => rfl
 | k + 1 => by simp [befs,befs_length ops k]
theorem befs_get (ops : Array Oper) : ∀ (k j : Nat),j < k -> (befs ops k).getD j 0 = (ops.getD j default).after.toList.foldl (fun s e => if Region.binds .any e then s ||| 2 ^ e.on ||| (befs ops j).getD e.on 0 else s) 0
 | 0,j,h => by omega
 | k + 1,j,h => by
   rw [befs,List.getD_eq_getElem?_getD,List.getElem?_append,befs_length]
   by_cases hj : j < k
   ·rw [if_pos hj,<- List.getD_eq_getElem?_getD]; exact befs_get ops k j hj
   ·have : j = k := by omega
    subst this
    simp
theorem fold_bits (l : List Edge) (f : Nat -> Nat) (i : Nat) : ∀ s : Nat,(l.foldl (fun s e => if Region.binds .any e then s ||| 2 ^ e.on ||| f e.on else s) s).testBit i = true ->
  s.testBit i = true \/ ∃ e ∈ l,Region.binds .any e = true /\ (e.on = i \/ (f e.on).testBit i = true) := by
 induction l with
 | nil => intro s h; exact .inl h
 | cons e l ih =>
   intro s h
   rcases ih _ h with h | ⟨e',h1,h2⟩
   ·dsimp only at h
    split at h
    ·rename_i hb
     rw [Nat.testBit_or,Nat.testBit_or,Nat.testBit_two_pow] at h
     simp only [Bool.or_eq_true,decide_eq_true_eq] at h
     rcases h with (h | h) | h
     ·exact .inl h
     ·exact .inr ⟨e,by simp,hb,.inl h⟩
     ·exact .inr ⟨e,by simp,hb,.inr h⟩
    ·exact .inl h
   ·exact .inr ⟨e',by simp [h1],h2⟩
theorem befs_closed (ops : Array Oper) (L : Nat -> Prop) (hL : ∀ j,j < ops.size -> L j -> ∀ e ∈ (ops.getD j default).after.toList,Region.binds .any e = true -> L e.on) (n : Nat) (hn : n <= ops.size) :
  ∀ j,j < n -> (∀ e ∈ (ops.getD j default).after.toList,Region.binds .any e = true -> L e.on) -> ∀ i,((befs ops n).getD j 0).testBit i = true -> L i := by
 intro j
 induction j using Nat.strongRecOn generalizing n with
 | _ j ih =>
   intro hj hd i hb
   rw [befs_get ops n j hj] at hb
   rcases fold_bits _ (fun n => (befs ops j).getD n 0) i 0 hb with h | ⟨e,h1,h2,h3 | h3⟩
   ·simp at h
   ·subst h3; exact hd e h1 h2
   ·rcases Nat.lt_or_ge e.on j with hlt | hge
    ·exact ih e.on hlt j (by omega) hlt (hL e.on (by omega) (hd e h1 h2)) i h3
    ·rw [List.getD_eq_getElem?_getD,List.getElem?_eq_none (by rw [befs_length]; exact hge)] at h3
     simp at h3
def MM.cut (n : Nat) (m : MM) : MM := fun b => if b < n then m b else none
theorem MM.cut_some {n : Nat} {m : MM} {b : Nat} {x : MB} (h : (m.cut n) b = some x) : b < n /\ m b = some x := by
 unfold MM.cut at h
 split at h
 ·exact ⟨‹_›,h⟩
 ·cases h
theorem MM.cut_of {n : Nat} {m : MM} {b : Nat} {x : MB} (h : b < n) (hm : m b = some x) : (m.cut n) b = some x := by rw [MM.cut,if_pos h]; exact hm
theorem MM.cut_mono {n n' : Nat} (m : MM) (h : n <= n') : MM.sub (m.cut n) (m.cut n') := fun b x hb => by
 obtain ⟨h1,h2⟩ := MM.cut_some hb
 exact MM.cut_of (by omega) h2
theorem MM.cut_sub (n : Nat) (m : MM) : MM.sub (m.cut n) m := fun b x hb => (MM.cut_some hb).2
theorem MM.cut_cut {n : Nat} {m m' : MM} (h : m.sub m') : MM.sub (m.cut n) (m'.cut n) := fun b x hb => by
 obtain ⟨h1,h2⟩ := MM.cut_some hb
 exact MM.cut_of h1 (h b x h2)
theorem pre_steps {P : Program} {lo : Nat} {e1 : Env} {H1 : Heap} : ∀ (p : Nat) (l : List IOper) (e : Env) (H : Heap),PreS P lo p l e H e1 H1 ->
  ∃ (E : Nat -> Env) (HH : Nat -> Heap) (V : Nat -> Value),E 0 = e /\ HH 0 = H /\ p <= l.length /\
   (∀ i,i < p -> ∃ o,l[i]? = some o /\ E (i + 1) = putE (E i) o.dst (V i) /\ Ext (HH i).length (HH i) (HH (i + 1)) /\
    ((o.runs (E i) = false /\ V i = undef /\ HH (i + 1) = HH i) \/ (o.runs (E i) = true /\ ∀ (c : CM) (oo : Oper),cOp P c oo = some o.op -> oo.dst = o.dst -> ∀ (a : Act) (w : World) (m : MM) (base : Nat -> Prop),
      Sim (HH i).length base m (HH i) w.heap -> OkU m (E i) a oo.op.operands -> ∀ (next : Act -> World -> Prop) (Q : Exit -> Act -> World -> Prop),
      (∀ v' w' m',MM.agree (HH i).length m m' -> Sim (HH i).length base m' (HH (i + 1)) w'.heap -> VR m' (V i) v' -> Kept base w w' -> next (a.put o.dst v') w') -> oo.wp P a w next Q))) /\
   OpsS P lo (l.drop p) (E p) (HH p) e1 H1
 | 0,l,e,H,h => ⟨fun _ => e,fun _ => H,fun _ => undef,rfl,rfl,Nat.zero_le _,fun i hi => by omega,h⟩
 | p + 1,[],e,H,h => h.elim
 | p + 1,o :: r,e,H,h => by
   obtain ⟨em,Hm,hstep,hext,hrest⟩ := h
   obtain ⟨E,HH,V,g1,g2,g3,g4,g5⟩ := pre_steps p r em Hm hrest
   have hv : ∃ v,em = putE e o.dst v /\ ((o.runs e = false /\ v = undef /\ Hm = H) \/ (o.runs e = true /\ ∀ (c : CM) (oo : Oper),cOp P c oo = some o.op -> oo.dst = o.dst -> ∀ (a : Act) (w : World) (m : MM) (base : Nat -> Prop),
      Sim H.length base m H w.heap -> OkU m e a oo.op.operands -> ∀ (next : Act -> World -> Prop) (Q : Exit -> Act -> World -> Prop),
      (∀ v' w' m',MM.agree H.length m m' -> Sim H.length base m' Hm w'.heap -> VR m' v v' -> Kept base w w' -> next (a.put o.dst v') w') -> oo.wp P a w next Q)) := by
    rcases hstep with ⟨h1,rfl,rfl⟩ | ⟨h1,v,rfl,h2⟩
    ·exact ⟨undef,rfl,.inl ⟨h1,rfl,rfl⟩⟩
    ·exact ⟨v,rfl,.inr ⟨h1,h2⟩⟩
   obtain ⟨v,hv1,hv2⟩ := hv
   refine ⟨fun i => if i = 0 then e else E (i - 1),fun i => if i = 0 then H else HH (i - 1),fun i => if i = 0 then v else V (i - 1),rfl,rfl,by simp; omega,?_,?_⟩
   ·intro i hi
    cases i with
    | zero =>
      refine ⟨o,rfl,?_,?_,?_⟩
      ·simp [g1,hv1]
      ·simp [g2,hext]
      ·simpa [g2] using hv2
    | succ i =>
      obtain ⟨o',q1,q2,q3,q4⟩ := g4 i (by omega)
      refine ⟨o',by simpa using q1,?_,?_,?_⟩
      ·simpa using q2
      ·simpa using q3
      ·simpa using q4
   ·simpa using g5
def cnt (listed : Array Bool) (n : Nat) : Nat := (List.range n).countP fun j => listed.getD j false
theorem cnt_set_aux (listed : Array Bool) (i : Nat) (hi : i < listed.size) (h0 : listed.getD i false = false) : ∀ (l : List Nat),l.Nodup ->
  l.countP (fun j => (listed.setIfInBounds i true).getD j false) = l.countP (fun j => listed.getD j false) + (if i ∈ l then 1 else 0)
 | [],_ => by simp
 | j :: l,hn => by
   have hj := List.nodup_cons.1 hn
   rw [List.countP_cons,List.countP_cons,cnt_set_aux listed i hi h0 l hj.2]
   by_cases hij : i = j
   ·subst hij
    have h1 : (listed.setIfInBounds i true).getD i false = true := by simp [hi]
    rw [h1,h0,if_neg hj.1]
    simp
   ·have h1 : (listed.setIfInBounds i true).getD j false = listed.getD j false := getD_set_ne false hij
    rw [h1]
    have : (i ∈ j :: l) ↔ i ∈ l := by simp [hij]
    simp only [this]
    omega
theorem cnt_set (listed : Array Bool) (n i : Nat) (hs : listed.size = n) (hi : i < n) (h0 : listed.getD i false = false) : cnt (listed.setIfInBounds i true) n = cnt listed n + 1 := by
 unfold cnt
 rw [cnt_set_aux listed i (by omega) h0 _ List.nodup_range,if_pos (List.mem_range.2 hi)]
theorem cnt_full {listed : Array Bool} {n : Nat} (h : cnt listed n = n) : ∀ j,j < n -> listed.getD j false = true := by
 intro j hj
 have := (List.countP_eq_length (l := List.range n) (p := fun j => listed.getD j false)).1 (by simpa [cnt] using h)
 exact this j (List.mem_range.2 hj)
theorem tail_any {P : Program} {ops : Array Oper} {p : Nat} (hok : okD ops p = true) (Q : Exit -> Act -> World -> Prop) : ∀ (fuel k : Nat) (listed : Array Bool) (a : Act) (w : World),fuel + k = ops.size -> p <= k ->
  listed.size = ops.size -> (∀ j,j < ops.size -> (listed.getD j false = true ↔ j < k)) -> wpList P ops Q (ops.toList.drop k) a w -> wpAny P .any ops Q fuel listed a w := by
 have hok' := List.all_eq_true.1 hok
 have hready : ∀ (k : Nat) (listed : Array Bool),p <= k -> listed.size = ops.size -> (∀ j,j < ops.size -> (listed.getD j false = true ↔ j < k)) -> ∀ i,i ∈ Region.ready .any ops listed ↔ i = k /\ k < ops.size := by
  intro k listed hpk hsz hl i
  rw [mem_ready]
  constructor
  ·rintro ⟨h0,o,ho,hdeps⟩
   have hi : i < ops.size := (Array.getElem?_eq_some_iff.1 ho).1
   have hik : k <= i := by
    rcases Nat.lt_or_ge i k with hlt | hge
    ·have := (hl i hi).2 hlt
     have e1 : listed.getD i true = listed.getD i false := by simp [Array.getD,hsz,hi]
     rw [e1,this] at h0
     cases h0
    ·exact hge
   refine ⟨?_,by omega⟩
   rcases Nat.eq_or_lt_of_le hik with he | hlt
   ·exact he.symm
   ·exfalso
    have h1 := hok' i (List.mem_range.2 hi)
    simp only [Bool.and_eq_true] at h1
    have h2 := List.all_eq_true.1 h1.2 k (List.mem_range.2 hlt)
    have hip : ¬ i < p := by omega
    simp only [hip,decide_false,Bool.false_and,Bool.or_false] at h2
    have hod : ops.getD i default = o := by rw [Array.getD_eq_getD_getElem?,ho]; rfl
    have hk : k < k := by
     refine befs_closed ops (fun j => j < k) ?_ ops.size (Nat.le_refl _) i hi ?_ k h2
     ·intro j hj hjk e he hb
      have h3 := hok' j (List.mem_range.2 hj)
      simp only [Bool.and_eq_true] at h3
      have h4 := List.all_eq_true.1 h3.1 e he
      simp only [hb,Bool.not_true,Bool.false_or,decide_eq_true_eq] at h4
      omega
     ·intro e he hb
      rw [hod] at he
      have h3 := hdeps e (by simpa using he) hb
      have he2 : e.on < ops.size := by
       have h4 := List.all_eq_true.1 h1.1 e (by rw [hod]; exact he)
       simp only [hb,Bool.not_true,Bool.false_or,decide_eq_true_eq] at h4
       omega
      exact (hl e.on he2).1 h3
    omega
  ·rintro ⟨rfl,hk⟩
   have hnl : listed.getD i false = false := by
    cases h : listed.getD i false
    ·rfl
    ·have := (hl i hk).1 h; omega
   refine ⟨by have e1 : listed.getD i true = listed.getD i false := by simp [Array.getD,hsz,hk]
              rw [e1]; exact hnl,ops[i],Array.getElem?_eq_getElem hk,?_⟩
   intro e he hb
   have h1 := hok' i (List.mem_range.2 hk)
   simp only [Bool.and_eq_true] at h1
   have hod : ops.getD i default = ops[i] := by simp [Array.getD,hk]
   have h4 := List.all_eq_true.1 h1.1 e (by rw [hod]; simpa using he)
   simp only [hb,Bool.not_true,Bool.false_or,decide_eq_true_eq] at h4
   exact (hl e.on (by omega)).2 h4
 intro fuel
 induction fuel with
 | zero =>
   intro k listed a w hf hpk hsz hl h
   have hr := hready k listed hpk hsz hl
   refine ⟨List.eq_nil_iff_forall_not_mem.2 fun i hi => by have := (hr i).1 hi; omega,?_⟩
   rw [List.drop_eq_nil_of_le (by simp; omega)] at h
   exact h
 | succ fuel ih =>
   intro k listed a w hf hpk hsz hl h
   have hr := hready k listed hpk hsz hl
   have hk : k < ops.size := by omega
   refine ⟨fun h0 => ?_,fun i hi => ?_⟩
   ·have := (hr k).2 ⟨rfl,hk⟩
    rw [h0] at this
    cases this
   ·obtain ⟨rfl,_⟩ := (hr i).1 hi
    rw [List.drop_eq_getElem_cons (by simpa using hk)] at h
    have hih : ∀ a w,wpList P ops Q (List.drop (i + 1) ops.toList) a w -> wpAny P .any ops Q fuel (listed.setIfInBounds i true) a w := fun a w hh =>
     ih (i + 1) _ a w (by omega) (by omega) (by simpa using hsz) (fun j hj => by
      by_cases hij : i = j
      ·subst hij
       have : (listed.setIfInBounds i true).getD i false = true := by simp [hsz,hk]
       simp [this]
      ·rw [getD_set_ne false hij,hl j hj]; omega) hh
    unfold wpOp
    rw [Array.getElem?_eq_getElem hk]
    simp only [Array.getElem_toList] at h
    unfold wpList at h
    simp only
    split at h
    ·rename_i hw
     rw [if_pos hw]
     exact h.imp (Oper.wp_mono hih) id
    ·rename_i hw
     rw [if_neg hw]
     exact hih _ _ h
theorem cOps_get {P : Program} {c : CM} {nt : Nat} {ops : Array Oper} : ∀ (os : List Oper) (l : List IOper),cOps P c nt ops os = some l -> os.length = l.length /\ ∀ (i : Nat) (o : Oper),os[i]? = some o -> ∃ o',l[i]? = some o' /\ cOper P c nt ops o = some o'
 | [],l,h => by simp only [cOps,Option.some.injEq] at h; subst h; exact ⟨rfl,by simp⟩
 | o :: os,l,h => by
   simp only [cOps,Option.bind_eq_some_iff,Option.map_eq_some_iff] at h
   obtain ⟨o',h1,l',h2,rfl⟩ := h
   obtain ⟨h3,h4⟩ := cOps_get os l' h2
   refine ⟨by simp [h3],fun i x hx => ?_⟩
   cases i with
   | zero => simp only [List.getElem?_cons_zero,Option.some.injEq] at hx; subst hx; exact ⟨o',rfl,h1⟩
   | succ i => exact h4 i x (by simpa using hx)
theorem cOps_drop {P : Program} {c : CM} {nt : Nat} {ops : Array Oper} : ∀ (k : Nat) (os : List Oper) (l : List IOper),cOps P c nt ops os = some l -> cOps P c nt ops (os.drop k) = some (l.drop k)
 | 0,os,l,h => by simpa using h
 | k + 1,[],l,h => by simp only [cOps,Option.some.injEq] at h; subst h; rfl
 | k + 1,o :: os,l,h => by
   simp only [cOps,Option.bind_eq_some_iff,Option.map_eq_some_iff] at h
   obtain ⟨o',h1,l',h2,rfl⟩ := h
   simpa using cOps_drop k os l' h2
theorem countP_lt : ∀ (n p : Nat),p <= n -> (List.range n).countP (fun j => decide (j < p)) = p
 | 0,p,h => by have : p = 0 := by omega
               subst this; rfl
 | n + 1,p,h => by
   rw [List.range_succ,List.countP_append]
   rcases Nat.lt_or_ge n p with hlt | hge
   ·have : p = n + 1 := by omega
    subst this
    have h1 : (List.range n).countP (fun j => decide (j < n + 1)) = (List.range n).length := by
     rw [List.countP_eq_length]
     intro a ha
     have := List.mem_range.1 ha
     simp; omega
    rw [h1]; simp
   ·rw [countP_lt n p hge]
    have : ¬ n < p := by omega
    simp [this]
theorem draw_sound {P : Program} (hm : P.follows .mixedOrders = true) {lo p : Nat} {l : List IOper} {e : Env} {H : Heap} {e1 : Env} {H1 : Heap} (h : PreS P lo p l e H e1 H1) {c : CM} {nt : Nat} {ops : Array Oper}
  (hc : cOps P c nt ops ops.toList = some l) (hok : okD ops p = true) {id : Nat} (Q : Exit -> Act -> World -> Prop) (a : Act) (w : World) (m : MM) (base : Nat -> Prop) (s : Sim lo base m H w.heap) (he : EnvR m e a nt)
  (hq : ∀ a' w' m',MM.agree H.length m m' -> Sim lo base m' H1 w'.heap -> EnvR m' e1 a' nt -> Kept base w w' -> Q .normal a' w') : (Code.region id ops true).wp P Q a w := by
 obtain ⟨E,HH,V,hE0,hH0,hpl,hstep,htail⟩ := pre_steps p l e H h
 obtain ⟨hlen,hget⟩ := cOps_get _ _ hc
 have hnl : ops.size = l.length := by simpa using hlen
 have hok' := List.all_eq_true.1 hok
 have hop : ∀ i,i < p -> ∃ (hi : i < ops.size) (o' : IOper),l[i]? = some o' /\ cOper P c nt ops ops[i] = some o' := by
  intro i hi
  have hi' : i < ops.size := by omega
  obtain ⟨o',h1,h2⟩ := hget i ops[i] (by simp [hi'])
  exact ⟨hi',o',h1,h2⟩
 have hmono : ∀ i j,i <= j -> j <= p -> Ext (HH i).length (HH i) (HH j) := by
  intro i j hij hj
  induction j with
  | zero => have : i = 0 := by omega
            subst this; exact Ext.refl _ _
  | succ j ih =>
    rcases Nat.eq_or_lt_of_le hij with he | hlt
    ·subst he; exact Ext.refl _ _
    ·obtain ⟨_,_,_,q3,_⟩ := hstep j (by omega)
     have h1 := ih (by omega) (by omega)
     exact h1.trans (q3.mono h1.1)
 have hedge : ∀ j,j < ops.size -> ∀ e ∈ (ops.getD j default).after.toList,Region.binds .any e = true -> e.on < j := by
  intro j hj e he hb
  have h1 := hok' j (List.mem_range.2 hj)
  simp only [Bool.and_eq_true] at h1
  have h4 := List.all_eq_true.1 h1.1 e he
  simpa only [hb,Bool.not_true,Bool.false_or,decide_eq_true_eq] using h4
 have hpair : ∀ j,j < ops.size -> ∀ i,i < j -> ((befs ops ops.size).getD j 0).testBit i = true \/ (j < p /\ (ops.getD i default).apart ops (ops.getD j default) = true) := by
  intro j hj i hi
  have h1 := hok' j (List.mem_range.2 hj)
  simp only [Bool.and_eq_true] at h1
  have h2 := List.all_eq_true.1 h1.2 i (List.mem_range.2 hi)
  simpa only [Bool.or_eq_true,Bool.and_eq_true,decide_eq_true_eq] using h2
 refine wp_region_any hm ?_
 let Inv : Array Bool -> Act -> World -> MM -> Prop := fun listed a' w' μ =>
  listed.size = ops.size /\ (∀ j,p <= j -> listed.getD j false = false) /\
  (∀ j,j < ops.size -> listed.getD j false = true -> ∀ e ∈ (ops.getD j default).after.toList,Region.binds .any e = true -> listed.getD e.on false = true) /\
  MM.agree H.length m μ /\ (∀ i,i < p -> listed.getD i false = false -> ∀ b,(HH i).length <= b -> b < (HH (i + 1)).length -> μ b = none) /\
  a'.defers = [] /\ a'.tmps.size = nt /\
  (∀ t,(∃ i,i < p /\ listed.getD i false = true /\ (ops.getD i default).dst = some t /\ (∀ j,j < p -> listed.getD j false = true -> (ops.getD j default).dst = some t -> j <= i) /\ VR (μ.cut (HH (i + 1)).length) (V i) (a'.tmps.getD t undef)) \/
   ((∀ i,i < p -> listed.getD i false = true -> (ops.getD i default).dst ≠ some t) /\ VR (m.cut H.length) (e t) (a'.tmps.getD t undef))) /\
  (∀ i,i <= p -> Sim (HH i).length (ltN w'.heap.size) (μ.cut (HH i).length) (HH i) w'.heap) /\ Sim H.length (ltN w.heap.size) μ (HH p) w'.heap /\ Kept (ltN w.heap.size) w w'
 have hinv0 : Inv (Array.replicate ops.size false) a { w with drawn := w.drawn + 1 } m := by
  have hf : ∀ j,(Array.replicate ops.size false).getD j false = false := by
   intro j; rw [Array.getD_eq_getD_getElem?,Array.getElem?_replicate]; split <;> rfl
  have hcutm : ∀ n,H.length <= n -> m.cut n = m := by
   intro n hn
   funext b
   unfold MM.cut
   split
   ·rfl
   ·cases hb : m b with
    | none => rfl
    | some x => have := s.dom b x hb; omega
  have hdomn : ∀ b,H.length <= b -> m b = none := fun b hb => by
   cases hmb : m b with
   | none => rfl
   | some x => have := s.dom b x hmb; omega
  have hsh := s.shut
  have hHi : ∀ i,i <= p -> H.length <= (HH i).length := fun i hi => by have := (hmono 0 i (Nat.zero_le _) hi).1; rwa [hH0] at this
  have hsim : ∀ i,i <= p -> Sim (HH i).length (ltN w.heap.size) m (HH i) w.heap := by
   intro i hi
   have hx := hmono 0 i (Nat.zero_le _) hi
   rw [hH0] at hx
   refine ⟨fun b x hb => by have := s.dom b x hb; have := hHi i hi; omega,?_,?_,?_,?_,fun _ hk => hk,Nat.le_refl _,fun b x k hb hk => s.zc b x k hb (by rw [hx.2 b (s.dom b x hb) (s.dom b x hb)] at hk; exact hk)⟩
   ·intro b x k hb hk
    have hbl := s.dom b x hb
    rw [hx.2 b hbl hbl] at hk
    exact s.cell b x k hb hk
   ·intro b x k hl hb; have := s.dom b x hb; have := hHi i hi; omega
   ·intro b b' x x' k k' _ hl _ hb; have := s.dom b x hb; have := hHi i hi; omega
   ·intro b x hl hb; exact hsh.old b x (s.dom b x hb) hb
  refine ⟨by simp,fun j _ => hf j,fun j _ hj => absurd hj (by rw [hf j]; simp),MM.agree.refl _ _,?_,he.defers,he.size,?_,?_,?_,⟨rfl,rfl,rfl,Nat.le_refl _,fun _ _ => rfl⟩⟩
  ·intro i hi _ b h1 h2
   exact hdomn b (by have := hHi i (by omega); omega)
  ·intro t
   refine .inr ⟨fun i _ hi => absurd hi (by rw [hf i]; simp),?_⟩
   rw [hcutm _ (Nat.le_refl _)]
   exact he.val t
  ·intro i hi
   rw [hcutm _ (hHi i hi)]
   exact hsim i hi
  ·have := hsim p (Nat.le_refl _)
   refine ⟨this.dom,this.cell,?_,?_,?_,fun _ hk => hk,hHi p (Nat.le_refl _),this.zc⟩
   ·intro b x k hl hb; have := s.dom b x hb; omega
   ·intro b b' x x' k k' _ hl _ hb; have := s.dom b x hb; omega
   ·intro b x hl hb; exact hsh.old b x hl hb
 have hdst : ∀ i,i < p -> ∀ o,l[i]? = some o -> (ops.getD i default).dst = o.dst := by
  intro i hi o ho
  obtain ⟨hi',o',h1,h2⟩ := hop i hi
  rw [ho] at h1
  cases h1
  have := (cOper_spec h2).2.1
  rw [<- this]
  simp [Array.getD,hi']
 have hEA : ∀ q,q <= p -> ∀ i t,i < q -> (ops.getD i default).dst = some t -> (∀ j,i < j -> j < q -> (ops.getD j default).dst ≠ some t) -> E q t = V i := by
  intro q
  induction q with
  | zero => intro _ i t hi; omega
  | succ q ih =>
    intro hq i t hi hd hlast
    obtain ⟨o,h1,h2,_⟩ := hstep q (by omega)
    have hdq := hdst q (by omega) o h1
    rw [h2]
    rcases Nat.eq_or_lt_of_le (Nat.le_of_lt_succ hi) with he | hlt
    ·subst he; rw [<- hdq,hd]; simp [putE]
    ·have hne := hlast q hlt (by omega)
     rw [hdq] at hne
     have : putE (E q) o.dst (V q) t = E q t := by
      cases hod : o.dst with
      | none => rfl
      | some d => rw [hod] at hne; have : t ≠ d := fun h => hne (by rw [h]); simp [putE,this]
     rw [this]
     exact ih (by omega) i t hlt hd fun j h1 h2 => hlast j h1 (by omega)
 have hEB : ∀ q,q <= p -> ∀ t,(∀ i,i < q -> (ops.getD i default).dst ≠ some t) -> E q t = e t := by
  intro q
  induction q with
  | zero => intro _ t _; rw [hE0]
  | succ q ih =>
    intro hq t hn
    obtain ⟨o,h1,h2,_⟩ := hstep q (by omega)
    have hne := hn q (by omega)
    rw [hdst q (by omega) o h1] at hne
    rw [h2]
    have : putE (E q) o.dst (V q) t = E q t := by
     cases hod : o.dst with
     | none => rfl
     | some d => rw [hod] at hne; have : t ≠ d := fun h => hne (by rw [h]); simp [putE,this]
    rw [this]
    exact ih (by omega) t fun i hi => hn i (by omega)
 have hHle : ∀ i j,i <= j -> j <= p -> (HH i).length <= (HH j).length := fun i j h1 h2 => (hmono i j h1 h2).1
 have hH0le : ∀ i,i <= p -> H.length <= (HH i).length := fun i hi => by have := hHle 0 i (Nat.zero_le _) hi; rwa [hH0] at this
 have step : ∀ (listed : Array Bool) (a' : Act) (w' : World) (μ : MM),Inv listed a' w' μ -> ∀ i0,i0 < p -> listed.getD i0 false = false ->
   (∀ e ∈ (ops.getD i0 default).after.toList,Region.binds .any e = true -> listed.getD e.on false = true) -> ∀ (v' : Value) (w'' : World) (m' : MM),
   MM.agree (HH i0).length (μ.cut (HH i0).length) m' -> Sim (HH i0).length (ltN w'.heap.size) m' (HH (i0 + 1)) w''.heap -> VR m' (V i0) v' -> Kept (ltN w'.heap.size) w' w'' ->
   dstOk nt (ops.getD i0 default).dst = true -> ∃ μ',Inv (listed.setIfInBounds i0 true) (a'.put (ops.getD i0 default).dst v') w'' μ' := by
  intro listed a' w' μ hi i0 hi0 hun hdeps v' w'' m' g1 g2 g3 g4 g5
  obtain ⟨j1,j2,j3,j4,j5,j6,j7,j8,j9,j10,j11⟩ := hi
  have hi0n : i0 < ops.size := by omega
  have hclosed : ∀ j,j < ops.size -> (∀ e ∈ (ops.getD j default).after.toList,Region.binds .any e = true -> listed.getD e.on false = true) -> ∀ i,((befs ops ops.size).getD j 0).testBit i = true -> listed.getD i false = true :=
   befs_closed ops (fun j => listed.getD j false = true) (fun j hj hl => j3 j hj hl) ops.size (Nat.le_refl _)
  have hnew := hmono i0 (i0 + 1) (by omega) (by omega)
  let μ' : MM := fun b => if (HH i0).length <= b /\ b < (HH (i0 + 1)).length then m' b else μ b
  have hsub : μ.sub μ' := by
   intro b x hb
   show (if (HH i0).length <= b /\ b < (HH (i0 + 1)).length then m' b else μ b) = some x
   split
   ·rename_i hr; rw [j5 i0 hi0 hun b hr.1 hr.2] at hb; cases hb
   ·exact hb
  have hm'sub : ∀ n,(HH (i0 + 1)).length <= n -> m'.sub (μ'.cut n) := by
   intro n hn b x hb
   have hbl := g2.dom b x hb
   refine MM.cut_of (by omega) ?_
   show (if (HH i0).length <= b /\ b < (HH (i0 + 1)).length then m' b else μ b) = some x
   split
   ·exact hb
   ·rename_i hr
    have hlt : b < (HH i0).length := by omega
    rw [g1 b hlt] at hb
    exact (MM.cut_some hb).2
  have hcutlow : ∀ n,n <= (HH i0).length -> μ'.cut n = μ.cut n := by
   intro n hn
   funext b
   unfold MM.cut
   split
   ·show (if (HH i0).length <= b /\ b < (HH (i0 + 1)).length then m' b else μ b) = μ b
    rw [if_neg (by omega)]
   ·rfl
  have hblk : ∀ i,i <= p -> ∀ b x,b < (HH i).length -> μ b = some x -> x.blk < w'.heap.size := fun i hi b x hb hx => (j9 i hi).old b x hb (MM.cut_of hb hx)
  have hlater : ∀ c o,w'.heap[c]? = some o -> w''.heap[c]? = some o := fun c o hc => by rw [g4.block c (Array.getElem?_eq_some_iff.1 hc).1]; exact hc
  refine ⟨μ',by simpa using j1,?_,?_,?_,?_,?_,?_,?_,?_,?_,?_⟩
  ·intro j hj
   rw [getD_set_ne false (by omega)]; exact j2 j hj
  ·intro j hj hl e he hb
   by_cases hji : i0 = j
   ·subst hji; exact getD_set_true (hdeps e he hb)
   ·rw [getD_set_ne false hji] at hl
    exact getD_set_true (j3 j hj hl e he hb)
  ·intro b hb
   show (if (HH i0).length <= b /\ b < (HH (i0 + 1)).length then m' b else μ b) = m b
   have := hH0le i0 (by omega)
   rw [if_neg (by omega)]
   exact j4 b hb
  ·intro i hi hl b h1 h2
   by_cases hii : i0 = i
   ·subst hii
    rw [show (listed.setIfInBounds i0 true).getD i0 false = true by simp [j1,hi0n]] at hl
    cases hl
   ·rw [getD_set_ne false hii] at hl
    show (if (HH i0).length <= b /\ b < (HH (i0 + 1)).length then m' b else μ b) = none
    rw [if_neg ?_]
    ·exact j5 i hi hl b h1 h2
    ·intro hr
     rcases Nat.lt_or_ge i i0 with hlt | hge
     ·have := hHle (i + 1) i0 (by omega) (by omega); omega
     ·have := hHle (i0 + 1) i (by omega) (by omega); omega
  ·cases (ops.getD i0 default).dst <;> exact j6
  ·cases (ops.getD i0 default).dst <;> simp [Act.put,j7]
  ·intro t
   rw [put_tmps a' _ v' t (by rw [j7]; exact g5)]
   by_cases hdt : (ops.getD i0 default).dst = some t
   ·rw [if_pos hdt]
    refine .inl ⟨i0,hi0,by simp [j1,hi0n],hdt,?_,VR.mono (hm'sub _ (Nat.le_refl _)) g3⟩
    intro j hj hl hd
    by_cases hij : i0 = j
    ·omega
    ·rw [getD_set_ne false hij] at hl
     rcases Nat.lt_or_ge i0 j with hlt | hge
     ·exfalso
      rcases hpair j (by omega) i0 hlt with hb | ⟨_,hap⟩
      ·have := hclosed j (by omega) (fun e he hb => j3 j (by omega) hl e he hb) i0 hb
       rw [hun] at this; cases this
      ·exact (Oper.apart_spec hap).2.1 t hdt hd
     ·exact hge
   ·rw [if_neg hdt]
    rcases j8 t with ⟨i,q1,q2,q3,q4,q5⟩ | ⟨q1,q2⟩
    ·refine .inl ⟨i,q1,getD_set_true q2,q3,?_,VR.mono (MM.cut_cut hsub) q5⟩
     intro j hj hl hd
     by_cases hij : i0 = j
     ·subst hij; exact absurd hd hdt
     ·rw [getD_set_ne false hij] at hl
      exact q4 j hj hl hd
    ·refine .inr ⟨?_,q2⟩
     intro i hi hl
     by_cases hij : i0 = i
     ·subst hij; exact hdt
     ·rw [getD_set_ne false hij] at hl
      exact q1 i hi hl
  ·intro i hi
   rcases Nat.lt_or_ge i0 i with hlt | hge
   ·have hle := hHle (i0 + 1) i (by omega) hi
    have hext := hmono (i0 + 1) i (by omega) hi
    have hzc : ∀ b x k,(μ'.cut (HH i).length) b = some x -> (HH i)[b]? = some k -> k.app = true -> k.cells = [] -> x.off = 0 /\ x.es = k.es /\ x.cp = 0 := by
     intro b x k hb hk
     obtain ⟨hb1,hb2⟩ := MM.cut_some hb
     have hb3 : (if (HH i0).length <= b /\ b < (HH (i0 + 1)).length then m' b else μ b) = some x := hb2
     split at hb3
     ·rename_i hr
      rw [hext.2 b hr.2 hr.2] at hk
      exact g2.zc b x k hb3 hk
     ·exact (j9 i hi).zc b x k (MM.cut_of hb1 hb3) hk
    refine ⟨fun b x hb => (MM.cut_some hb).1,?_,?_,?_,?_,fun _ hk => hk,Nat.le_refl _,hzc⟩
    ·intro b x k hb hk
     obtain ⟨hb1,hb2⟩ := MM.cut_some hb
     have hb3 : (if (HH i0).length <= b /\ b < (HH (i0 + 1)).length then m' b else μ b) = some x := hb2
     split at hb3
     ·rename_i hr
      rw [hext.2 b hr.2 hr.2] at hk
      obtain ⟨cs,t,fr,r1,r2⟩ := g2.cell b x k hb3 hk
      exact ⟨cs,t,fr,r1,fun j v hj => let ⟨v',z1,z2⟩ := r2 j v hj; ⟨v',z1,VR1.mono (hm'sub _ hle) z2⟩⟩
     ·obtain ⟨cs,t,fr,r1,r2⟩ := (j9 i hi).cell b x k (MM.cut_of hb1 hb3) hk
      exact ⟨cs,t,fr,hlater _ _ r1,fun j v hj => let ⟨v',z1,z2⟩ := r2 j v hj; ⟨v',z1,VR1.mono (MM.cut_cut hsub) z2⟩⟩
    ·intro b x k hl hb; have := (MM.cut_some hb).1; omega
    ·intro b b' x x' k k' _ hl _ hb; have := (MM.cut_some hb).1; omega
    ·intro b x hl hb
     obtain ⟨hb1,hb2⟩ := MM.cut_some hb
     have hb3 : (if (HH i0).length <= b /\ b < (HH (i0 + 1)).length then m' b else μ b) = some x := hb2
     split at hb3
     ·rename_i hr
      obtain ⟨k,hk⟩ : ∃ k,(HH (i0 + 1))[b]? = some k := ⟨_,List.getElem?_eq_getElem hr.2⟩
      exact g2.lt hb3 hk
     ·exact Nat.lt_of_lt_of_le (hblk i hi b x hb1 hb3) g4.size
   ·rw [hcutlow _ (hHle i i0 hge (by omega))]
    exact ((j9 i hi).later g4.size g4.block).shut
  ·have hle := hHle (i0 + 1) p (by omega) (Nat.le_refl _)
   have hext := hmono (i0 + 1) p (by omega) (Nat.le_refl _)
   have hb0 : w.heap.size <= w'.heap.size := j11.size
   have hcases : ∀ b x,μ' b = some x -> ((HH i0).length <= b /\ b < (HH (i0 + 1)).length /\ m' b = some x) \/ (¬ ((HH i0).length <= b /\ b < (HH (i0 + 1)).length) /\ μ b = some x) := by
    intro b x hb
    have hb3 : (if (HH i0).length <= b /\ b < (HH (i0 + 1)).length then m' b else μ b) = some x := hb
    split at hb3
    ·rename_i hr; exact .inl ⟨hr.1,hr.2,hb3⟩
    ·rename_i hr; exact .inr ⟨hr,hb3⟩
   have hzc : ∀ b x k,μ' b = some x -> (HH p)[b]? = some k -> k.app = true -> k.cells = [] -> x.off = 0 /\ x.es = k.es /\ x.cp = 0 := by
    intro b x k hb hk
    rcases hcases b x hb with ⟨h1,h2,h3⟩ | ⟨_,h2⟩
    ·rw [hext.2 b h2 h2] at hk
     exact g2.zc b x k h3 hk
    ·exact j10.zc b x k h2 hk
   refine ⟨?_,?_,?_,?_,?_,?_,hH0le p (Nat.le_refl _),hzc⟩
   ·intro b x hb
    rcases hcases b x hb with ⟨_,h2,_⟩ | ⟨_,h2⟩
    ·omega
    ·exact j10.dom b x h2
   ·intro b x k hb hk
    rcases hcases b x hb with ⟨h1,h2,h3⟩ | ⟨_,h2⟩
    ·rw [hext.2 b h2 h2] at hk
     obtain ⟨cs,t,fr,r1,r2⟩ := g2.cell b x k h3 hk
     exact ⟨cs,t,fr,r1,fun j v hj => let ⟨v',z1,z2⟩ := r2 j v hj; ⟨v',z1,VR1.mono (fun b x hb => MM.cut_sub _ _ b x (hm'sub _ (Nat.le_refl _) b x hb)) z2⟩⟩
    ·obtain ⟨cs,t,fr,r1,r2⟩ := j10.cell b x k h2 hk
     exact ⟨cs,t,fr,hlater _ _ r1,fun j v hj => let ⟨v',z1,z2⟩ := r2 j v hj; ⟨v',z1,VR1.mono hsub z2⟩⟩
   ·intro b x k hl hb hk
    rcases hcases b x hb with ⟨h1,h2,h3⟩ | ⟨_,h2⟩
    ·rw [hext.2 b h2 h2] at hk
     obtain ⟨r1,r2⟩ := g2.own b x k h1 h3 hk
     exact ⟨fun hbx => r1 (Nat.lt_of_lt_of_le hbx hb0),r2⟩
    ·obtain ⟨r1,r2,r3,cs,r4,r5⟩ := j10.own b x k hl h2 hk
     exact ⟨r1,r2,r3,cs,hlater _ _ r4,r5⟩
   ·intro b b' x x' k k' hne hl hl' hb hb' hk hk' he
    rcases hcases b x hb with ⟨h1,h2,h3⟩ | ⟨_,h2⟩
    ·rw [hext.2 b h2 h2] at hk
     rcases hcases b' x' hb' with ⟨h1',h2',h3'⟩ | ⟨_,h2'⟩
     ·rw [hext.2 b' h2' h2'] at hk'
      exact g2.sep b b' x x' k k' hne h1 h1' h3 h3' hk hk' he
     ·have z1 := Nat.le_of_not_lt (g2.own b x k h1 h3 hk).1
      have z2 := j10.lt h2' hk'
      omega
    ·rcases hcases b' x' hb' with ⟨h1',h2',h3'⟩ | ⟨_,h2'⟩
     ·rw [hext.2 b' h2' h2'] at hk'
      have z1 := Nat.le_of_not_lt (g2.own b' x' k' h1' h3' hk').1
      have z2 := j10.lt h2 hk
      omega
     ·exact j10.sep b b' x x' k k' hne hl hl' h2 h2' hk hk' he
   ·intro b x hl hb
    rcases hcases b x hb with ⟨h1,h2,h3⟩ | ⟨_,h2⟩
    ·have := hH0le i0 (by omega); omega
    ·exact j10.old b x hl h2
   ·exact fun k hk => Nat.lt_of_lt_of_le hk (Nat.le_trans hb0 g4.size)
  ·exact j11.trans (g4.mono fun k hk => Nat.lt_of_lt_of_le hk j11.size)
 have main : ∀ (fuel : Nat) (listed : Array Bool) (a' : Act) (w' : World) (μ : MM),fuel + cnt listed ops.size = ops.size -> Inv listed a' w' μ -> wpAny P .any ops Q fuel listed a' w' := by
  have fin : ∀ (fuel : Nat) (listed : Array Bool) (a' : Act) (w' : World) (μ : MM),fuel + cnt listed ops.size = ops.size -> Inv listed a' w' μ -> (∀ i,i < p -> listed.getD i false = true) -> wpAny P .any ops Q fuel listed a' w' := by
   intro fuel listed a' w' μ hf hi hall
   obtain ⟨j1,j2,j3,j4,j5,j6,j7,j8,j9,j10,j11⟩ := hi
   have hl : ∀ j,j < ops.size -> (listed.getD j false = true ↔ j < p) := by
    intro j hj
    constructor
    ·intro h
     rcases Nat.lt_or_ge j p with hlt | hge
     ·exact hlt
     ·rw [j2 j hge] at h; cases h
    ·exact hall j
   have hcnt : cnt listed ops.size = p := by
    unfold cnt
    rw [<- countP_lt ops.size p (by omega)]
    refine List.countP_congr fun j hj => ?_
    rw [hl j (List.mem_range.1 hj)]
    simp
   refine tail_any hok Q fuel p listed a' w' (by omega) (Nat.le_refl _) j1 hl ?_
   have hbelow : ∀ c,c < w.heap.size -> w'.heap[c]? = w.heap[c]? := j11.block
   have hext := hmono 0 p (Nat.zero_le _) (Nat.le_refl _)
   rw [hH0] at hext
   have hs := s.back j10 j4 hext hbelow
   have henv : EnvR μ (E p) a' nt := by
    refine ⟨j6,j7,fun t => ?_⟩
    rcases j8 t with ⟨i,q1,q2,q3,q4,q5⟩ | ⟨q1,q2⟩
    ·rw [hEA p (Nat.le_refl _) i t q1 q3 (fun j h1 h2 h3 => by have := q4 j h2 (hall j h2) h3; omega)]
     exact q5.mono (MM.cut_sub _ _)
    ·rw [hEB p (Nat.le_refl _) t (fun i hi => q1 i hi (hall i hi))]
     refine q2.mono fun b x hb => ?_
     obtain ⟨h1,h2⟩ := MM.cut_some hb
     rw [j4 b h1]; exact h2
   refine htail c nt ops (ops.toList.drop p) (cOps_drop p _ _ hc) Q a' w' μ base hs henv fun a2 w2 m2 r1 r2 r3 r4 => ?_
   exact hq a2 w2 m2 (j4.trans r1 (hH0le p (Nat.le_refl _))) r2 r3 ((j11.mono s.bnd).trans r4)
  intro fuel
  induction fuel with
  | zero =>
    intro listed a' w' μ hf hi
    have hfull := cnt_full (listed := listed) (n := ops.size) (by omega)
    exact fin 0 listed a' w' μ hf hi fun i hi => hfull i (by omega)
  | succ fuel ih =>
    intro listed a' w' μ hf hi
    by_cases hall : ∀ i,i < p -> listed.getD i false = true
    ·exact fin _ listed a' w' μ hf hi hall
    ·have hi' := hi
     obtain ⟨j1,j2,j3,j4,j5,j6,j7,j8,j9,j10,j11⟩ := hi
     obtain ⟨iu,hiu,hiun⟩ : ∃ i,i < p /\ listed.getD i false = false := by
      have h1 := Classical.not_forall.1 hall
      obtain ⟨i,h2⟩ := h1
      have h3 := Classical.not_imp.1 h2
      exact ⟨i,h3.1,by simpa using h3.2⟩
     have hgt : ∀ j,j < ops.size -> listed.getD j true = listed.getD j false := fun j hj => by simp [Array.getD,j1,hj]
     have hclosed : ∀ j,j < ops.size -> (∀ e ∈ (ops.getD j default).after.toList,Region.binds .any e = true -> listed.getD e.on false = true) -> ∀ i,((befs ops ops.size).getD j 0).testBit i = true -> listed.getD i false = true :=
      befs_closed ops (fun j => listed.getD j false = true) (fun j hj hl => j3 j hj hl) ops.size (Nat.le_refl _)
     refine ⟨fun h0 => ?_,fun i0 hi0r => ?_⟩
     ·exfalso
      have hmin : ∀ j,j < ops.size -> listed.getD j false = false -> False := by
       intro j
       induction j using Nat.strongRecOn with
       | _ j ihj =>
         intro hj hun
         have : j ∈ Region.ready .any ops listed := by
          rw [mem_ready]
          refine ⟨by rw [hgt j hj]; exact hun,ops[j],Array.getElem?_eq_getElem hj,fun e he hb => ?_⟩
          have hod : ops.getD j default = ops[j] := by simp [Array.getD,hj]
          have hlt := hedge j hj e (by rw [hod]; simpa using he) hb
          cases hle : listed.getD e.on false with
          | true => rfl
          | false => exact (ihj e.on hlt (by omega) hle).elim
         rw [h0] at this
         cases this
      exact hmin iu (by omega) hiun
     ·rw [mem_ready] at hi0r
      obtain ⟨r1,o,r2,r3⟩ := hi0r
      have hi0n : i0 < ops.size := (Array.getElem?_eq_some_iff.1 r2).1
      have hoe : o = ops[i0] := by rw [Array.getElem?_eq_getElem hi0n] at r2; exact (Option.some.inj r2).symm
      have hod : ops.getD i0 default = o := by rw [hoe]; simp [Array.getD,hi0n]
      have hun : listed.getD i0 false = false := by rw [<- hgt i0 hi0n]; exact r1
      have hdeps : ∀ e ∈ (ops.getD i0 default).after.toList,Region.binds .any e = true -> listed.getD e.on false = true := fun e he hb => r3 e (by rw [hod] at he; simpa using he) hb
      have hi0 : i0 < p := by
       rcases Nat.lt_or_ge i0 p with hlt | hge
       ·exact hlt
       ·exfalso
        rcases hpair i0 hi0n iu (by omega) with hb | ⟨hb,_⟩
        ·have := hclosed i0 hi0n hdeps iu hb
         rw [hiun] at this; cases this
        ·omega
      obtain ⟨hi0n',o',q1,q2⟩ := hop i0 hi0
      rw [<- hoe] at q2
      obtain ⟨g1,g2,g3,g4⟩ := cOper_spec q2
      obtain ⟨oi,s1,s2,s3,s4⟩ := hstep i0 hi0
      rw [q1] at s1
      cases s1
      have hval : ∀ t,t ∈ o.looksAt ops -> VR (μ.cut (HH i0).length) (E i0 t) (a'.tmps.getD t undef) := by
       intro t ht
       have hbefore : ∀ j,j < i0 -> (ops.getD j default).dst = some t -> listed.getD j false = true := by
        intro j hj hd
        rcases hpair i0 hi0n j hj with hb | ⟨_,hap⟩
        ·exact hclosed i0 hi0n hdeps j hb
        ·exact absurd (by rw [hod]; exact ht) ((Oper.apart_spec hap).1 t hd)
       have hafter : ∀ j,j < p -> i0 < j -> (ops.getD j default).dst = some t -> listed.getD j false = false := by
        intro j hj hlt hd
        cases hlj : listed.getD j false with
        | false => rfl
        | true =>
          exfalso
          rcases hpair j (by omega) i0 hlt with hb | ⟨_,hap⟩
          ·have := hclosed j (by omega) (fun e he hb => j3 j (by omega) hlj e he hb) i0 hb
           rw [hun] at this; cases this
          ·exact (Oper.apart_spec hap).2.2 t hd (by rw [hod]; exact ht)
       rcases j8 t with ⟨i,z1,z2,z3,z4,z5⟩ | ⟨z1,z2⟩
       ·have hii : i < i0 := by
         rcases Nat.lt_or_ge i i0 with hlt | hge
         ·exact hlt
         ·exfalso
          rcases Nat.eq_or_lt_of_le hge with he | hlt
          ·subst he; rw [hun] at z2; cases z2
          ·rw [hafter i z1 hlt z3] at z2; cases z2
        rw [hEA i0 (by omega) i t hii z3 (fun j h1 h2 h3 => by have := z4 j (by omega) (hbefore j h2 h3) h3; omega)]
        exact z5.mono (MM.cut_mono μ (hHle (i + 1) i0 (by omega) (by omega)))
       ·rw [hEB i0 (by omega) t (fun j hj hd => z1 j (by omega) (hbefore j hj hd) hd)]
        refine z2.mono fun b x hb => ?_
        obtain ⟨h1,h2⟩ := MM.cut_some hb
        refine MM.cut_of (by have := hH0le i0 (by omega); omega) ?_
        rw [j4 b h1]; exact h2
      have hwant := runs_wanted (e := E i0) (a := a') g4 (fun g wv hg => hval g (by
       rcases g4 with ⟨h1,h2⟩ | ⟨j,g',w',h1,h2,h3⟩
       ·rw [h2] at hg; cases hg
       ·rw [h3] at hg; cases hg
        unfold Oper.looksAt
        refine List.mem_append_right _ ?_
        rw [h1]
        simp [h2]))
      have hdok : dstOk nt (ops.getD i0 default).dst = true := by rw [hod,g2]; exact g3
      have hcnt := cnt_set listed ops.size i0 j1 hi0n hun
      unfold wpOp
      rw [r2]
      simp only
      rw [hwant]
      rcases s4 with ⟨y1,y2,y3⟩ | ⟨y1,y2⟩
      ·rw [y1]
       simp only [Bool.false_eq_true,if_false]
       have hle := hHle i0 i0 (Nat.le_refl _) (by omega)
       obtain ⟨μ',hinv⟩ := step listed a' w' μ hi' i0 hi0 hun hdeps undef w' (μ.cut (HH i0).length) (MM.agree.refl _ _) (by rw [y3]; exact j9 i0 (by omega)) (by rw [y2]; exact VR.undef) (Kept.refl _ _) hdok
       rw [hod] at hinv
       exact ih _ _ _ μ' (by omega) hinv
      ·rw [y1]
       simp only [if_true]
       left
       refine y2 c o g1 g2 a' w' (μ.cut (HH i0).length) (ltN w'.heap.size) (j9 i0 (by omega)) ?_ _ Q fun v' w'' m' z1 z2 z3 z4 => ?_
       ·intro t ht
        have : VR (μ.cut (HH i0).length) (E i0 t) (a'.tmps.getD t undef) := hval t (by
         unfold Oper.looksAt
         refine List.mem_append_left _ (List.mem_filterMap.2 ⟨.tmp t,by simpa using ht,rfl⟩))
        simpa [Act.eval] using this
       ·obtain ⟨μ',hinv⟩ := step listed a' w' μ hi' i0 hi0 hun hdeps v' w'' m' z1 z2 z3 z4 hdok
        rw [hod] at hinv
        rw [<- g2]
        exact ih _ _ _ μ' (by omega) hinv
 exact main ops.size _ a _ m (by
  have : cnt (Array.replicate ops.size false) ops.size = 0 := by
   unfold cnt
   rw [List.countP_eq_zero]
   intro j _
   rw [Array.getD_eq_getD_getElem?,Array.getElem?_replicate]
   split <;> simp
  omega) hinv0
theorem prw_steps {P : Program} {lo : Nat} {e1 : Env} {H1 : Heap} : ∀ (p : Nat) (l : List IOper) (e : Env) (H : Heap),PrwS P lo p l e H e1 H1 ->
  ∃ (E : Nat -> Env) (HH : Nat -> Heap) (V : Nat -> Value),E 0 = e /\ HH 0 = H /\ p < l.length /\
   (∀ i,i < p -> ∃ o,l[i]? = some o /\ E (i + 1) = putE (E i) o.dst (V i) /\ Ext (HH i).length (HH i) (HH (i + 1)) /\
    ((o.runs (E i) = false /\ V i = undef /\ HH (i + 1) = HH i) \/ (o.runs (E i) = true /\ ∀ (c : CM) (oo : Oper),cOp P c oo = some o.op -> oo.dst = o.dst -> ∀ (a : Act) (w : World) (m : MM) (base : Nat -> Prop),
      Sim (HH i).length base m (HH i) w.heap -> OkU m (E i) a oo.op.operands -> ∀ (next : Act -> World -> Prop) (Q : Exit -> Act -> World -> Prop),
      (∀ v' w' m',MM.agree (HH i).length m m' -> Sim (HH i).length base m' (HH (i + 1)) w'.heap -> VR m' (V i) v' -> Kept base w w' -> next (a.put o.dst v') w') -> oo.wp P a w next Q)) /\
    (∀ d x,o = ⟨some d,none,x⟩ -> pureI x = true -> ∀ (lo : Nat) (H : Heap),iop lo x (E i) H = some (V i,H))) /\
   (∃ o,l[p]? = some o /\ E (p + 1) = putE (E p) o.dst (V p) /\ o.runs (E p) = true /\ (HH p).length <= (HH (p + 1)).length /\ ∀ (c : CM) (oo : Oper),cOp P c oo = some o.op -> oo.dst = o.dst -> ∀ (a : Act) (w : World) (m : MM) (base : Nat -> Prop),
     Sim lo base m (HH p) w.heap -> OkU m (E p) a oo.op.operands -> ∀ (next : Act -> World -> Prop) (Q : Exit -> Act -> World -> Prop),
     (∀ v' w' m',MM.agree (HH p).length m m' -> Sim lo base m' (HH (p + 1)) w'.heap -> VR m' (V p) v' -> Kept base w w' -> next (a.put o.dst v') w') -> oo.wp P a w next Q) /\
   OpsS P lo (l.drop (p + 1)) (E (p + 1)) (HH (p + 1)) e1 H1
 | 0,o :: r,e,H,⟨em,Hm,h1,h0,⟨v,hv,h2⟩,h3⟩ => by
   subst hv
   refine ⟨fun i => if i = 0 then e else putE e o.dst v,fun i => if i = 0 then H else Hm,fun _ => v,rfl,rfl,by simp,fun i hi => by omega,⟨o,rfl,rfl,h1,h0,?_⟩,h3⟩
   exact h2
 | p,[],e,H,h => by cases p <;> exact h.elim
 | p + 1,o :: r,e,H,h => by
   obtain ⟨em,Hm,hstep,hmov,hext,hrest⟩ := h
   obtain ⟨E,HH,V,g1,g2,g3,g4,g6,g5⟩ := prw_steps p r em Hm hrest
   have hv : ∃ v,em = putE e o.dst v /\ ((o.runs e = false /\ v = undef /\ Hm = H) \/ (o.runs e = true /\ ∀ (c : CM) (oo : Oper),cOp P c oo = some o.op -> oo.dst = o.dst -> ∀ (a : Act) (w : World) (m : MM) (base : Nat -> Prop),
      Sim H.length base m H w.heap -> OkU m e a oo.op.operands -> ∀ (next : Act -> World -> Prop) (Q : Exit -> Act -> World -> Prop),
      (∀ v' w' m',MM.agree H.length m m' -> Sim H.length base m' Hm w'.heap -> VR m' v v' -> Kept base w w' -> next (a.put o.dst v') w') -> oo.wp P a w next Q)) := by
    rcases hstep with ⟨h1,rfl,rfl⟩ | ⟨h1,v,rfl,h2⟩
    ·exact ⟨undef,rfl,.inl ⟨h1,rfl,rfl⟩⟩
    ·exact ⟨v,rfl,.inr ⟨h1,h2⟩⟩
   obtain ⟨v,hv1,hv2⟩ := hv
   refine ⟨fun i => if i = 0 then e else E (i - 1),fun i => if i = 0 then H else HH (i - 1),fun i => if i = 0 then v else V (i - 1),rfl,rfl,by simp; omega,?_,?_,?_⟩
   ·intro i hi
    cases i with
    | zero =>
      refine ⟨o,rfl,?_,?_,?_,?_⟩
      ·simp [g1,hv1]
      ·simp [g2,hext]
      ·simpa [g2] using hv2
      ·intro d x ho hpx lo' H'
       obtain ⟨v',h9,h9b⟩ := hmov (by rw [ho]) (by rw [ho]; exact hpx)
       rw [hv1,ho] at h9
       have h10 := congrFun h9 d
       have h11 : v = v' := by simpa [putE] using h10
       subst h11
       have h12 := h9b lo' H'
       rw [ho] at h12
       simpa using h12
    | succ i =>
      obtain ⟨o',q1,q2,q3,q4,q5⟩ := g4 i (by omega)
      refine ⟨o',by simpa using q1,?_,?_,?_,?_⟩
      ·simpa using q2
      ·simpa using q3
      ·simpa using q4
      ·simpa using q5
   ·simpa using g6
   ·simpa using g5
theorem drawW_sound {P : Program} (hm : P.follows .mixedOrders = true) {lo z : Nat} {l : List IOper} {e : Env} {H : Heap} {e1 : Env} {H1 : Heap} (h : PrwS P lo z l e H e1 H1) {c : CM} {nt : Nat} {ops : Array Oper}
  (hc : cOps P c nt ops ops.toList = some l) (hok : okD ops (z + 1) = true) (hW : okW ops l z = true) {id : Nat} (Q : Exit -> Act -> World -> Prop) (a : Act) (w : World) (m : MM) (base : Nat -> Prop) (s : Sim lo base m H w.heap) (he : EnvR m e a nt)
  (hq : ∀ a' w' m',MM.agree H.length m m' -> Sim lo base m' H1 w'.heap -> EnvR m' e1 a' nt -> Kept base w w' -> Q .normal a' w') : (Code.region id ops true).wp P Q a w := by
 obtain ⟨E,HH,V,hE0,hH0,hpl,hstep,⟨ow,hw1,hw2,hw3,hw5,hw4⟩,htail⟩ := prw_steps z l e H h
 obtain ⟨hlen,hget⟩ := cOps_get _ _ hc
 have hnl : ops.size = l.length := by simpa using hlen
 have hok' := List.all_eq_true.1 hok
 have hstepE : ∀ i,i < z + 1 -> ∃ o,l[i]? = some o /\ E (i + 1) = putE (E i) o.dst (V i) := by
  intro i hi
  rcases Nat.eq_or_lt_of_le (Nat.le_of_lt_succ hi) with he | hlt
  ·subst he; exact ⟨ow,hw1,hw2⟩
  ·obtain ⟨o,h1,h2,_⟩ := hstep i hlt; exact ⟨o,h1,h2⟩
 have hop : ∀ i,i < z + 1 -> ∃ (hi : i < ops.size) (o' : IOper),l[i]? = some o' /\ cOper P c nt ops ops[i] = some o' := by
  intro i hi
  have hi' : i < ops.size := by omega
  obtain ⟨o',h1,h2⟩ := hget i ops[i] (by simp [hi'])
  exact ⟨hi',o',h1,h2⟩
 have hmono : ∀ i j,i <= j -> j <= z -> Ext (HH i).length (HH i) (HH j) := by
  intro i j hij hj
  induction j with
  | zero => have : i = 0 := by omega
            subst this; exact Ext.refl _ _
  | succ j ih =>
    rcases Nat.eq_or_lt_of_le hij with he | hlt
    ·subst he; exact Ext.refl _ _
    ·obtain ⟨_,_,_,q3,_⟩ := hstep j (by omega)
     have h1 := ih (by omega) (by omega)
     exact h1.trans (q3.mono h1.1)
 have hedge : ∀ j,j < ops.size -> ∀ e ∈ (ops.getD j default).after.toList,Region.binds .any e = true -> e.on < j := by
  intro j hj e he hb
  have h1 := hok' j (List.mem_range.2 hj)
  simp only [Bool.and_eq_true] at h1
  have h4 := List.all_eq_true.1 h1.1 e he
  simpa only [hb,Bool.not_true,Bool.false_or,decide_eq_true_eq] using h4
 have hpair : ∀ j,j < ops.size -> ∀ i,i < j -> ((befs ops ops.size).getD j 0).testBit i = true \/ (j < z + 1 /\ (ops.getD i default).apart ops (ops.getD j default) = true) := by
  intro j hj i hi
  have h1 := hok' j (List.mem_range.2 hj)
  simp only [Bool.and_eq_true] at h1
  have h2 := List.all_eq_true.1 h1.2 i (List.mem_range.2 hi)
  simpa only [Bool.or_eq_true,Bool.and_eq_true,decide_eq_true_eq] using h2
 refine wp_region_any hm ?_
 let Inv : Array Bool -> Act -> World -> MM -> Prop := fun listed a' w' μ =>
  listed.size = ops.size /\ (∀ j,z <= j -> listed.getD j false = false) /\
  (∀ j,j < ops.size -> listed.getD j false = true -> ∀ e ∈ (ops.getD j default).after.toList,Region.binds .any e = true -> listed.getD e.on false = true) /\
  MM.agree H.length m μ /\ (∀ i,i < z -> listed.getD i false = false -> ∀ b,(HH i).length <= b -> b < (HH (i + 1)).length -> μ b = none) /\
  a'.defers = [] /\ a'.tmps.size = nt /\
  (∀ t,(∃ i,i < z /\ listed.getD i false = true /\ (ops.getD i default).dst = some t /\ (∀ j,j < z -> listed.getD j false = true -> (ops.getD j default).dst = some t -> j <= i) /\ VR (μ.cut (HH (i + 1)).length) (V i) (a'.tmps.getD t undef)) \/
   ((∀ i,i < z -> listed.getD i false = true -> (ops.getD i default).dst ≠ some t) /\ VR (m.cut H.length) (e t) (a'.tmps.getD t undef))) /\
  (∀ i,i <= z -> Sim (HH i).length (ltN w'.heap.size) (μ.cut (HH i).length) (HH i) w'.heap) /\ Sim H.length (ltN w.heap.size) μ (HH z) w'.heap /\ Kept (ltN w.heap.size) w w'
 have hinv0 : Inv (Array.replicate ops.size false) a { w with drawn := w.drawn + 1 } m := by
  have hf : ∀ j,(Array.replicate ops.size false).getD j false = false := by
   intro j; rw [Array.getD_eq_getD_getElem?,Array.getElem?_replicate]; split <;> rfl
  have hcutm : ∀ n,H.length <= n -> m.cut n = m := by
   intro n hn
   funext b
   unfold MM.cut
   split
   ·rfl
   ·cases hb : m b with
    | none => rfl
    | some x => have := s.dom b x hb; omega
  have hdomn : ∀ b,H.length <= b -> m b = none := fun b hb => by
   cases hmb : m b with
   | none => rfl
   | some x => have := s.dom b x hmb; omega
  have hsh := s.shut
  have hHi : ∀ i,i <= z -> H.length <= (HH i).length := fun i hi => by have := (hmono 0 i (Nat.zero_le _) hi).1; rwa [hH0] at this
  have hsim : ∀ i,i <= z -> Sim (HH i).length (ltN w.heap.size) m (HH i) w.heap := by
   intro i hi
   have hx := hmono 0 i (Nat.zero_le _) hi
   rw [hH0] at hx
   refine ⟨fun b x hb => by have := s.dom b x hb; have := hHi i hi; omega,?_,?_,?_,?_,fun _ hk => hk,Nat.le_refl _,fun b x k hb hk => s.zc b x k hb (by rw [hx.2 b (s.dom b x hb) (s.dom b x hb)] at hk; exact hk)⟩
   ·intro b x k hb hk
    have hbl := s.dom b x hb
    rw [hx.2 b hbl hbl] at hk
    exact s.cell b x k hb hk
   ·intro b x k hl hb; have := s.dom b x hb; have := hHi i hi; omega
   ·intro b b' x x' k k' _ hl _ hb; have := s.dom b x hb; have := hHi i hi; omega
   ·intro b x hl hb; exact hsh.old b x (s.dom b x hb) hb
  refine ⟨by simp,fun j _ => hf j,fun j _ hj => absurd hj (by rw [hf j]; simp),MM.agree.refl _ _,?_,he.defers,he.size,?_,?_,?_,⟨rfl,rfl,rfl,Nat.le_refl _,fun _ _ => rfl⟩⟩
  ·intro i hi _ b h1 h2
   exact hdomn b (by have := hHi i (by omega); omega)
  ·intro t
   refine .inr ⟨fun i _ hi => absurd hi (by rw [hf i]; simp),?_⟩
   rw [hcutm _ (Nat.le_refl _)]
   exact he.val t
  ·intro i hi
   rw [hcutm _ (hHi i hi)]
   exact hsim i hi
  ·have := hsim z (Nat.le_refl _)
   refine ⟨this.dom,this.cell,?_,?_,?_,fun _ hk => hk,hHi z (Nat.le_refl _),this.zc⟩
   ·intro b x k hl hb; have := s.dom b x hb; omega
   ·intro b b' x x' k k' _ hl _ hb; have := s.dom b x hb; omega
   ·intro b x hl hb; exact hsh.old b x hl hb
 have hdst : ∀ i,i < z + 1 -> ∀ o,l[i]? = some o -> (ops.getD i default).dst = o.dst := by
  intro i hi o ho
  obtain ⟨hi',o',h1,h2⟩ := hop i hi
  rw [ho] at h1
  cases h1
  have := (cOper_spec h2).2.1
  rw [<- this]
  simp [Array.getD,hi']
 have hEA : ∀ q,q <= z + 1 -> ∀ i t,i < q -> (ops.getD i default).dst = some t -> (∀ j,i < j -> j < q -> (ops.getD j default).dst ≠ some t) -> E q t = V i := by
  intro q
  induction q with
  | zero => intro _ i t hi; omega
  | succ q ih =>
    intro hq i t hi hd hlast
    obtain ⟨o,h1,h2⟩ := hstepE q (by omega)
    have hdq := hdst q (by omega) o h1
    rw [h2]
    rcases Nat.eq_or_lt_of_le (Nat.le_of_lt_succ hi) with he | hlt
    ·subst he; rw [<- hdq,hd]; simp [putE]
    ·have hne := hlast q hlt (by omega)
     rw [hdq] at hne
     have : putE (E q) o.dst (V q) t = E q t := by
      cases hod : o.dst with
      | none => rfl
      | some d => rw [hod] at hne; have : t ≠ d := fun h => hne (by rw [h]); simp [putE,this]
     rw [this]
     exact ih (by omega) i t hlt hd fun j h1 h2 => hlast j h1 (by omega)
 have hEB : ∀ q,q <= z + 1 -> ∀ t,(∀ i,i < q -> (ops.getD i default).dst ≠ some t) -> E q t = e t := by
  intro q
  induction q with
  | zero => intro _ t _; rw [hE0]
  | succ q ih =>
    intro hq t hn
    obtain ⟨o,h1,h2⟩ := hstepE q (by omega)
    have hne := hn q (by omega)
    rw [hdst q (by omega) o h1] at hne
    rw [h2]
    have : putE (E q) o.dst (V q) t = E q t := by
     cases hod : o.dst with
     | none => rfl
     | some d => rw [hod] at hne; have : t ≠ d := fun h => hne (by rw [h]); simp [putE,this]
    rw [this]
    exact ih (by omega) t fun i hi => hn i (by omega)
 have hHle : ∀ i j,i <= j -> j <= z -> (HH i).length <= (HH j).length := fun i j h1 h2 => (hmono i j h1 h2).1
 have hH0le : ∀ i,i <= z -> H.length <= (HH i).length := fun i hi => by have := hHle 0 i (Nat.zero_le _) hi; rwa [hH0] at this
 have step : ∀ (listed : Array Bool) (a' : Act) (w' : World) (μ : MM),Inv listed a' w' μ -> ∀ i0,i0 < z -> listed.getD i0 false = false ->
   (∀ e ∈ (ops.getD i0 default).after.toList,Region.binds .any e = true -> listed.getD e.on false = true) -> ∀ (v' : Value) (w'' : World) (m' : MM),
   MM.agree (HH i0).length (μ.cut (HH i0).length) m' -> Sim (HH i0).length (ltN w'.heap.size) m' (HH (i0 + 1)) w''.heap -> VR m' (V i0) v' -> Kept (ltN w'.heap.size) w' w'' ->
   dstOk nt (ops.getD i0 default).dst = true -> ∃ μ',Inv (listed.setIfInBounds i0 true) (a'.put (ops.getD i0 default).dst v') w'' μ' := by
  intro listed a' w' μ hi i0 hi0 hun hdeps v' w'' m' g1 g2 g3 g4 g5
  obtain ⟨j1,j2,j3,j4,j5,j6,j7,j8,j9,j10,j11⟩ := hi
  have hi0n : i0 < ops.size := by omega
  have hclosed : ∀ j,j < ops.size -> (∀ e ∈ (ops.getD j default).after.toList,Region.binds .any e = true -> listed.getD e.on false = true) -> ∀ i,((befs ops ops.size).getD j 0).testBit i = true -> listed.getD i false = true :=
   befs_closed ops (fun j => listed.getD j false = true) (fun j hj hl => j3 j hj hl) ops.size (Nat.le_refl _)
  have hnew := hmono i0 (i0 + 1) (by omega) (by omega)
  let μ' : MM := fun b => if (HH i0).length <= b /\ b < (HH (i0 + 1)).length then m' b else μ b
  have hsub : μ.sub μ' := by
   intro b x hb
   show (if (HH i0).length <= b /\ b < (HH (i0 + 1)).length then m' b else μ b) = some x
   split
   ·rename_i hr; rw [j5 i0 hi0 hun b hr.1 hr.2] at hb; cases hb
   ·exact hb
  have hm'sub : ∀ n,(HH (i0 + 1)).length <= n -> m'.sub (μ'.cut n) := by
   intro n hn b x hb
   have hbl := g2.dom b x hb
   refine MM.cut_of (by omega) ?_
   show (if (HH i0).length <= b /\ b < (HH (i0 + 1)).length then m' b else μ b) = some x
   split
   ·exact hb
   ·rename_i hr
    have hlt : b < (HH i0).length := by omega
    rw [g1 b hlt] at hb
    exact (MM.cut_some hb).2
  have hcutlow : ∀ n,n <= (HH i0).length -> μ'.cut n = μ.cut n := by
   intro n hn
   funext b
   unfold MM.cut
   split
   ·show (if (HH i0).length <= b /\ b < (HH (i0 + 1)).length then m' b else μ b) = μ b
    rw [if_neg (by omega)]
   ·rfl
  have hblk : ∀ i,i <= z -> ∀ b x,b < (HH i).length -> μ b = some x -> x.blk < w'.heap.size := fun i hi b x hb hx => (j9 i hi).old b x hb (MM.cut_of hb hx)
  have hlater : ∀ c o,w'.heap[c]? = some o -> w''.heap[c]? = some o := fun c o hc => by rw [g4.block c (Array.getElem?_eq_some_iff.1 hc).1]; exact hc
  refine ⟨μ',by simpa using j1,?_,?_,?_,?_,?_,?_,?_,?_,?_,?_⟩
  ·intro j hj
   rw [getD_set_ne false (by omega)]; exact j2 j hj
  ·intro j hj hl e he hb
   by_cases hji : i0 = j
   ·subst hji; exact getD_set_true (hdeps e he hb)
   ·rw [getD_set_ne false hji] at hl
    exact getD_set_true (j3 j hj hl e he hb)
  ·intro b hb
   show (if (HH i0).length <= b /\ b < (HH (i0 + 1)).length then m' b else μ b) = m b
   have := hH0le i0 (by omega)
   rw [if_neg (by omega)]
   exact j4 b hb
  ·intro i hi hl b h1 h2
   by_cases hii : i0 = i
   ·subst hii
    rw [show (listed.setIfInBounds i0 true).getD i0 false = true by simp [j1,hi0n]] at hl
    cases hl
   ·rw [getD_set_ne false hii] at hl
    show (if (HH i0).length <= b /\ b < (HH (i0 + 1)).length then m' b else μ b) = none
    rw [if_neg ?_]
    ·exact j5 i hi hl b h1 h2
    ·intro hr
     rcases Nat.lt_or_ge i i0 with hlt | hge
     ·have := hHle (i + 1) i0 (by omega) (by omega); omega
     ·have := hHle (i0 + 1) i (by omega) (by omega); omega
  ·cases (ops.getD i0 default).dst <;> exact j6
  ·cases (ops.getD i0 default).dst <;> simp [Act.put,j7]
  ·intro t
   rw [put_tmps a' _ v' t (by rw [j7]; exact g5)]
   by_cases hdt : (ops.getD i0 default).dst = some t
   ·rw [if_pos hdt]
    refine .inl ⟨i0,hi0,by simp [j1,hi0n],hdt,?_,VR.mono (hm'sub _ (Nat.le_refl _)) g3⟩
    intro j hj hl hd
    by_cases hij : i0 = j
    ·omega
    ·rw [getD_set_ne false hij] at hl
     rcases Nat.lt_or_ge i0 j with hlt | hge
     ·exfalso
      rcases hpair j (by omega) i0 hlt with hb | ⟨_,hap⟩
      ·have := hclosed j (by omega) (fun e he hb => j3 j (by omega) hl e he hb) i0 hb
       rw [hun] at this; cases this
      ·exact (Oper.apart_spec hap).2.1 t hdt hd
     ·exact hge
   ·rw [if_neg hdt]
    rcases j8 t with ⟨i,q1,q2,q3,q4,q5⟩ | ⟨q1,q2⟩
    ·refine .inl ⟨i,q1,getD_set_true q2,q3,?_,VR.mono (MM.cut_cut hsub) q5⟩
     intro j hj hl hd
     by_cases hij : i0 = j
     ·subst hij; exact absurd hd hdt
     ·rw [getD_set_ne false hij] at hl
      exact q4 j hj hl hd
    ·refine .inr ⟨?_,q2⟩
     intro i hi hl
     by_cases hij : i0 = i
     ·subst hij; exact hdt
     ·rw [getD_set_ne false hij] at hl
      exact q1 i hi hl
  ·intro i hi
   rcases Nat.lt_or_ge i0 i with hlt | hge
   ·have hle := hHle (i0 + 1) i (by omega) hi
    have hext := hmono (i0 + 1) i (by omega) hi
    have hzc : ∀ b x k,(μ'.cut (HH i).length) b = some x -> (HH i)[b]? = some k -> k.app = true -> k.cells = [] -> x.off = 0 /\ x.es = k.es /\ x.cp = 0 := by
     intro b x k hb hk
     obtain ⟨hb1,hb2⟩ := MM.cut_some hb
     have hb3 : (if (HH i0).length <= b /\ b < (HH (i0 + 1)).length then m' b else μ b) = some x := hb2
     split at hb3
     ·rename_i hr
      rw [hext.2 b hr.2 hr.2] at hk
      exact g2.zc b x k hb3 hk
     ·exact (j9 i hi).zc b x k (MM.cut_of hb1 hb3) hk
    refine ⟨fun b x hb => (MM.cut_some hb).1,?_,?_,?_,?_,fun _ hk => hk,Nat.le_refl _,hzc⟩
    ·intro b x k hb hk
     obtain ⟨hb1,hb2⟩ := MM.cut_some hb
     have hb3 : (if (HH i0).length <= b /\ b < (HH (i0 + 1)).length then m' b else μ b) = some x := hb2
     split at hb3
     ·rename_i hr
      rw [hext.2 b hr.2 hr.2] at hk
      obtain ⟨cs,t,fr,r1,r2⟩ := g2.cell b x k hb3 hk
      exact ⟨cs,t,fr,r1,fun j v hj => let ⟨v',z1,z2⟩ := r2 j v hj; ⟨v',z1,VR1.mono (hm'sub _ hle) z2⟩⟩
     ·obtain ⟨cs,t,fr,r1,r2⟩ := (j9 i hi).cell b x k (MM.cut_of hb1 hb3) hk
      exact ⟨cs,t,fr,hlater _ _ r1,fun j v hj => let ⟨v',z1,z2⟩ := r2 j v hj; ⟨v',z1,VR1.mono (MM.cut_cut hsub) z2⟩⟩
    ·intro b x k hl hb; have := (MM.cut_some hb).1; omega
    ·intro b b' x x' k k' _ hl _ hb; have := (MM.cut_some hb).1; omega
    ·intro b x hl hb
     obtain ⟨hb1,hb2⟩ := MM.cut_some hb
     have hb3 : (if (HH i0).length <= b /\ b < (HH (i0 + 1)).length then m' b else μ b) = some x := hb2
     split at hb3
     ·rename_i hr
      obtain ⟨k,hk⟩ : ∃ k,(HH (i0 + 1))[b]? = some k := ⟨_,List.getElem?_eq_getElem hr.2⟩
      exact g2.lt hb3 hk
     ·exact Nat.lt_of_lt_of_le (hblk i hi b x hb1 hb3) g4.size
   ·rw [hcutlow _ (hHle i i0 hge (by omega))]
    exact ((j9 i hi).later g4.size g4.block).shut
  ·have hle := hHle (i0 + 1) z (by omega) (Nat.le_refl _)
   have hext := hmono (i0 + 1) z (by omega) (Nat.le_refl _)
   have hb0 : w.heap.size <= w'.heap.size := j11.size
   have hcases : ∀ b x,μ' b = some x -> ((HH i0).length <= b /\ b < (HH (i0 + 1)).length /\ m' b = some x) \/ (¬ ((HH i0).length <= b /\ b < (HH (i0 + 1)).length) /\ μ b = some x) := by
    intro b x hb
    have hb3 : (if (HH i0).length <= b /\ b < (HH (i0 + 1)).length then m' b else μ b) = some x := hb
    split at hb3
    ·rename_i hr; exact .inl ⟨hr.1,hr.2,hb3⟩
    ·rename_i hr; exact .inr ⟨hr,hb3⟩
   have hzc : ∀ b x k,μ' b = some x -> (HH z)[b]? = some k -> k.app = true -> k.cells = [] -> x.off = 0 /\ x.es = k.es /\ x.cp = 0 := by
    intro b x k hb hk
    rcases hcases b x hb with ⟨h1,h2,h3⟩ | ⟨_,h2⟩
    ·rw [hext.2 b h2 h2] at hk
     exact g2.zc b x k h3 hk
    ·exact j10.zc b x k h2 hk
   refine ⟨?_,?_,?_,?_,?_,?_,hH0le z (Nat.le_refl _),hzc⟩
   ·intro b x hb
    rcases hcases b x hb with ⟨_,h2,_⟩ | ⟨_,h2⟩
    ·omega
    ·exact j10.dom b x h2
   ·intro b x k hb hk
    rcases hcases b x hb with ⟨h1,h2,h3⟩ | ⟨_,h2⟩
    ·rw [hext.2 b h2 h2] at hk
     obtain ⟨cs,t,fr,r1,r2⟩ := g2.cell b x k h3 hk
     exact ⟨cs,t,fr,r1,fun j v hj => let ⟨v',z1,z2⟩ := r2 j v hj; ⟨v',z1,VR1.mono (fun b x hb => MM.cut_sub _ _ b x (hm'sub _ (Nat.le_refl _) b x hb)) z2⟩⟩
    ·obtain ⟨cs,t,fr,r1,r2⟩ := j10.cell b x k h2 hk
     exact ⟨cs,t,fr,hlater _ _ r1,fun j v hj => let ⟨v',z1,z2⟩ := r2 j v hj; ⟨v',z1,VR1.mono hsub z2⟩⟩
   ·intro b x k hl hb hk
    rcases hcases b x hb with ⟨h1,h2,h3⟩ | ⟨_,h2⟩
    ·rw [hext.2 b h2 h2] at hk
     obtain ⟨r1,r2⟩ := g2.own b x k h1 h3 hk
     exact ⟨fun hbx => r1 (Nat.lt_of_lt_of_le hbx hb0),r2⟩
    ·obtain ⟨r1,r2,r3,cs,r4,r5⟩ := j10.own b x k hl h2 hk
     exact ⟨r1,r2,r3,cs,hlater _ _ r4,r5⟩
   ·intro b b' x x' k k' hne hl hl' hb hb' hk hk' he
    rcases hcases b x hb with ⟨h1,h2,h3⟩ | ⟨_,h2⟩
    ·rw [hext.2 b h2 h2] at hk
     rcases hcases b' x' hb' with ⟨h1',h2',h3'⟩ | ⟨_,h2'⟩
     ·rw [hext.2 b' h2' h2'] at hk'
      exact g2.sep b b' x x' k k' hne h1 h1' h3 h3' hk hk' he
     ·have z1 := Nat.le_of_not_lt (g2.own b x k h1 h3 hk).1
      have z2 := j10.lt h2' hk'
      omega
    ·rcases hcases b' x' hb' with ⟨h1',h2',h3'⟩ | ⟨_,h2'⟩
     ·rw [hext.2 b' h2' h2'] at hk'
      have z1 := Nat.le_of_not_lt (g2.own b' x' k' h1' h3' hk').1
      have z2 := j10.lt h2 hk
      omega
     ·exact j10.sep b b' x x' k k' hne hl hl' h2 h2' hk hk' he
   ·intro b x hl hb
    rcases hcases b x hb with ⟨h1,h2,h3⟩ | ⟨_,h2⟩
    ·have := hH0le i0 (by omega); omega
    ·exact j10.old b x hl h2
   ·exact fun k hk => Nat.lt_of_lt_of_le hk (Nat.le_trans hb0 g4.size)
  ·exact j11.trans (g4.mono fun k hk => Nat.lt_of_lt_of_le hk j11.size)
 have hgt : ∀ (listed : Array Bool),listed.size = ops.size -> ∀ j,j < ops.size -> listed.getD j true = listed.getD j false := fun listed j1 j hj => by simp [Array.getD,j1,hj]
 have hzl : z < ops.size := by omega
 simp only [okW,Bool.and_eq_true] at hW
 obtain ⟨⟨_,hW2⟩,_⟩ := hW
 have hfree : ∀ j,j < z -> ((befs ops ops.size).getD z 0).testBit j = true \/ ∃ d x,l[j]? = some ⟨some d,none,x⟩ /\ pureI x = true := by
  intro j hj
  have h1 := List.all_eq_true.1 hW2 j (List.mem_range.2 hj)
  rw [Bool.or_eq_true] at h1
  refine h1.imp (fun h => h) fun h2 => ?_
  split at h2
  ·rename_i o ho
   unfold movO at h2
   split at h2
   ·exact ⟨_,_,ho,h2⟩
   ·cases h2
  ·cases h2
 have hhead : ∀ (listed : Array Bool),listed.size = ops.size -> (∀ j,j < ops.size -> listed.getD j false = true -> ∀ e ∈ (ops.getD j default).after.toList,Region.binds .any e = true -> listed.getD e.on false = true) ->
   ∀ iu,iu < z + 1 -> listed.getD iu false = false -> ∀ i0,i0 < ops.size -> (∀ e ∈ (ops.getD i0 default).after.toList,Region.binds .any e = true -> listed.getD e.on false = true) -> i0 < z + 1 := by
  intro listed j1 j3 iu hiu hiun i0 hi0n hdeps
  rcases Nat.lt_or_ge i0 (z + 1) with hlt | hge
  ·exact hlt
  ·exfalso
   rcases hpair i0 hi0n iu (by omega) with hb | ⟨hb,_⟩
   ·have := befs_closed ops (fun j => listed.getD j false = true) (fun j hj hl => j3 j hj hl) ops.size (Nat.le_refl _) i0 hi0n hdeps iu hb
    rw [hiun] at this; cases this
   ·omega
 have hnonempty : ∀ (listed : Array Bool),listed.size = ops.size -> ∀ iu,iu < ops.size -> listed.getD iu false = false -> Region.ready .any ops listed = [] -> False := by
  intro listed j1 iu hiu hiun h0
  have hmin : ∀ j,j < ops.size -> listed.getD j false = false -> False := by
   intro j
   induction j using Nat.strongRecOn with
   | _ j ihj =>
     intro hj hun
     have : j ∈ Region.ready .any ops listed := by
      rw [mem_ready]
      refine ⟨by rw [hgt listed j1 j hj]; exact hun,ops[j],Array.getElem?_eq_getElem hj,fun e he hb => ?_⟩
      have hod : ops.getD j default = ops[j] := by simp [Array.getD,hj]
      have hlt := hedge j hj e (by rw [hod]; simpa using he) hb
      cases hle : listed.getD e.on false with
      | true => rfl
      | false => exact (ihj e.on hlt (by omega) hle).elim
     rw [h0] at this
     cases this
  exact hmin iu hiu hiun
 have hbelow0 : ∀ i0,i0 < z + 1 -> ∀ (listed : Array Bool),(∀ j,j < ops.size -> listed.getD j false = true -> ∀ e ∈ (ops.getD j default).after.toList,Region.binds .any e = true -> listed.getD e.on false = true) -> listed.getD i0 false = false ->
   (∀ e ∈ (ops.getD i0 default).after.toList,Region.binds .any e = true -> listed.getD e.on false = true) -> ∀ t,t ∈ (ops.getD i0 default).looksAt ops ->
   (∀ j,j < i0 -> (ops.getD j default).dst = some t -> listed.getD j false = true) /\ (∀ j,j < z + 1 -> i0 < j -> (ops.getD j default).dst = some t -> listed.getD j false = false) := by
  intro i0 hi0 listed j3 hun hdeps t ht
  have hclosed := befs_closed ops (fun j => listed.getD j false = true) (fun j hj hl => j3 j hj hl) ops.size (Nat.le_refl _)
  refine ⟨fun j hj hd => ?_,fun j hj hlt hd => ?_⟩
  ·rcases hpair i0 (by omega) j hj with hb | ⟨_,hap⟩
   ·exact hclosed i0 (by omega) hdeps j hb
   ·exact absurd ht ((Oper.apart_spec hap).1 t hd)
  ·cases hlj : listed.getD j false with
   | false => rfl
   | true =>
     exfalso
     rcases hpair j (by omega) i0 hlt with hb | ⟨_,hap⟩
     ·have := hclosed j (by omega) (fun e he hb => j3 j (by omega) hlj e he hb) i0 hb
      rw [hun] at this; cases this
     ·exact (Oper.apart_spec hap).2.2 t hd ht
 have main2 : ∀ (fuel : Nat) (listed : Array Bool) (a' : Act) (w' : World) (μ : MM),fuel + cnt listed ops.size = ops.size -> listed.size = ops.size -> (∀ j,z + 1 <= j -> listed.getD j false = false) ->
   (∀ j,j < ops.size -> listed.getD j false = true -> ∀ e ∈ (ops.getD j default).after.toList,Region.binds .any e = true -> listed.getD e.on false = true) ->
   listed.getD z false = true -> a'.defers = [] -> a'.tmps.size = nt ->
   (∀ t,(∃ i,i < z + 1 /\ listed.getD i false = true /\ (ops.getD i default).dst = some t /\ (∀ j,j < z + 1 -> listed.getD j false = true -> (ops.getD j default).dst = some t -> j <= i) /\ VR μ (V i) (a'.tmps.getD t undef)) \/
    ((∀ i,i < z + 1 -> listed.getD i false = true -> (ops.getD i default).dst ≠ some t) /\ VR μ (e t) (a'.tmps.getD t undef))) ->
   MM.agree H.length m μ -> Sim lo base μ (HH (z + 1)) w'.heap -> Kept base w w' -> H.length <= (HH (z + 1)).length -> wpAny P .any ops Q fuel listed a' w' := by
  intro fuel
  induction fuel with
  | zero =>
    intro listed a' w' μ hf j1 j2 j3 jz j6 j7 j8 jm js jb jl
    have hfull := cnt_full (listed := listed) (n := ops.size) (by omega)
    have hsz : ops.size = z + 1 := by
     rcases Nat.lt_or_ge (z + 1) ops.size with hlt | hge
     ·have := hfull (z + 1) hlt; rw [j2 (z + 1) (Nat.le_refl _)] at this; cases this
     ·omega
    refine tail_any hok Q 0 (z + 1) listed a' w' (by omega) (Nat.le_refl _) j1 (fun j hj => ⟨fun _ => by omega,fun _ => hfull j hj⟩) ?_
    have henv : EnvR μ (E (z + 1)) a' nt := by
     refine ⟨j6,j7,fun t => ?_⟩
     rcases j8 t with ⟨i,q1,q2,q3,q4,q5⟩ | ⟨q1,q2⟩
     ·rw [hEA (z + 1) (Nat.le_refl _) i t q1 q3 (fun j h1 h2 h3 => by have := q4 j h2 (hfull j (by omega)) h3; omega)]
      exact q5
     ·rw [hEB (z + 1) (Nat.le_refl _) t (fun i hi => q1 i hi (hfull i (by omega)))]
      exact q2
    refine htail c nt ops (ops.toList.drop (z + 1)) (cOps_drop (z + 1) _ _ hc) Q a' w' μ base js henv fun a2 w2 m2 r1 r2 r3 r4 => ?_
    exact hq a2 w2 m2 (jm.trans r1 jl) r2 r3 (jb.trans r4)
  | succ fuel ih =>
    intro listed a' w' μ hf j1 j2 j3 jz j6 j7 j8 jm js jb jl
    by_cases hall : ∀ i,i < z + 1 -> listed.getD i false = true
    ·have hl : ∀ j,j < ops.size -> (listed.getD j false = true ↔ j < z + 1) := by
      intro j hj
      constructor
      ·intro h
       rcases Nat.lt_or_ge j (z + 1) with hlt | hge
       ·exact hlt
       ·rw [j2 j hge] at h; cases h
      ·exact hall j
     have hcnt : cnt listed ops.size = z + 1 := by
      unfold cnt
      rw [<- countP_lt ops.size (z + 1) (by omega)]
      refine List.countP_congr fun j hj => ?_
      rw [hl j (List.mem_range.1 hj)]
      simp
     refine tail_any hok Q (fuel + 1) (z + 1) listed a' w' (by omega) (Nat.le_refl _) j1 hl ?_
     have henv : EnvR μ (E (z + 1)) a' nt := by
      refine ⟨j6,j7,fun t => ?_⟩
      rcases j8 t with ⟨i,q1,q2,q3,q4,q5⟩ | ⟨q1,q2⟩
      ·rw [hEA (z + 1) (Nat.le_refl _) i t q1 q3 (fun j h1 h2 h3 => by have := q4 j h2 (hall j h2) h3; omega)]
       exact q5
      ·rw [hEB (z + 1) (Nat.le_refl _) t (fun i hi => q1 i hi (hall i hi))]
       exact q2
     refine htail c nt ops (ops.toList.drop (z + 1)) (cOps_drop (z + 1) _ _ hc) Q a' w' μ base js henv fun a2 w2 m2 r1 r2 r3 r4 => ?_
     exact hq a2 w2 m2 (jm.trans r1 jl) r2 r3 (jb.trans r4)
    ·obtain ⟨iu,hiu,hiun⟩ : ∃ i,i < z + 1 /\ listed.getD i false = false := by
      have h1 := Classical.not_forall.1 hall
      obtain ⟨i,h2⟩ := h1
      have h3 := Classical.not_imp.1 h2
      exact ⟨i,h3.1,by simpa using h3.2⟩
     refine ⟨fun h0 => (hnonempty listed j1 iu (by omega) hiun h0).elim,fun i0 hi0r => ?_⟩
     rw [mem_ready] at hi0r
     obtain ⟨r1,o,r2,r3⟩ := hi0r
     have hi0n : i0 < ops.size := (Array.getElem?_eq_some_iff.1 r2).1
     have hoe : o = ops[i0] := by rw [Array.getElem?_eq_getElem hi0n] at r2; exact (Option.some.inj r2).symm
     have hod : ops.getD i0 default = o := by rw [hoe]; simp [Array.getD,hi0n]
     have hun : listed.getD i0 false = false := by rw [<- hgt listed j1 i0 hi0n]; exact r1
     have hdeps : ∀ e ∈ (ops.getD i0 default).after.toList,Region.binds .any e = true -> listed.getD e.on false = true := fun e he hb => r3 e (by rw [hod] at he; simpa using he) hb
     have hi0 : i0 < z + 1 := hhead listed j1 j3 iu hiu hiun i0 hi0n hdeps
     have hi0z : i0 < z := by
      rcases Nat.eq_or_lt_of_le (Nat.le_of_lt_succ hi0) with he | hlt
      ·subst he; rw [jz] at hun; cases hun
      ·exact hlt
     obtain ⟨d,x,hmv,hpx⟩ : ∃ d x,l[i0]? = some ⟨some d,none,x⟩ /\ pureI x = true := by
      rcases hfree i0 hi0z with hb | hb
      ·have := befs_closed ops (fun j => listed.getD j false = true) (fun j hj hl => j3 j hj hl) ops.size (Nat.le_refl _) z hzl (fun e he hb => j3 z hzl jz e he hb) i0 hb
       rw [hun] at this; cases this
      ·exact hb
     obtain ⟨hi0n',o',q1,q2⟩ := hop i0 hi0
     rw [<- hoe] at q2
     rw [hmv] at q1
     cases q1
     obtain ⟨g1,g2,g3,g4⟩ := cOper_spec q2
     obtain ⟨oi,s1,s2,s3,s4,s5⟩ := hstep i0 hi0z
     rw [hmv] at s1
     cases s1
     have hV := s5 d x rfl hpx
     have hval : ∀ t,t ∈ o.looksAt ops -> VR μ (E i0 t) (a'.tmps.getD t undef) := by
      intro t ht
      obtain ⟨hbefore,hafter⟩ := hbelow0 i0 hi0 listed j3 hun hdeps t (by rw [hod]; exact ht)
      rcases j8 t with ⟨i,z1,z2,z3,z4,z5⟩ | ⟨z1,z2⟩
      ·have hii : i < i0 := by
        rcases Nat.lt_or_ge i i0 with hlt | hge
        ·exact hlt
        ·exfalso
         rcases Nat.eq_or_lt_of_le hge with he | hlt
         ·subst he; rw [hun] at z2; cases z2
         ·rw [hafter i z1 hlt z3] at z2; cases z2
       rw [hEA i0 (by omega) i t hii z3 (fun j h1 h2 h3 => by have := z4 j (by omega) (hbefore j h2 h3) h3; omega)]
       exact z5
      ·rw [hEB i0 (by omega) t (fun j hj hd => z1 j (by omega) (hbefore j hj hd) hd)]
       exact z2
     have hwant := runs_wanted (m := μ) (e := E i0) (a := a') g4 (fun g wv hg => by cases hg)
     have hdok : dstOk nt (ops.getD i0 default).dst = true := by rw [hod,g2]; exact g3
     have hcnt := cnt_set listed ops.size i0 j1 hi0n hun
     unfold wpOp
     rw [r2]
     simp only
     rw [hwant]
     have hr : IOper.runs ⟨some d,none,x⟩ (E i0) = true := rfl
     rw [hr]
     simp only [if_true]
     left
     refine op_of_does g2 (prim_sound (v := V i0) (H1 := HH (z + 1)) g1 (hV _ _) js ?_) _ Q fun v' w'' m' z1 z2 z3 z4 => ?_
     ·intro t ht
      have : VR μ (E i0 t) (a'.tmps.getD t undef) := hval t (by
       unfold Oper.looksAt
       refine List.mem_append_left _ (List.mem_filterMap.2 ⟨.tmp t,by simpa using ht,rfl⟩))
      simpa [Act.eval] using this
     ·have hdd : (ops.getD i0 default).dst = some d := by rw [hod]; exact g2
      have hz2 : MM.sub μ m' := z1.sub js.dom
      refine ih _ _ _ m' (by omega) (by simpa using j1) ?_ ?_ ?_ ?_ ?_ ?_ (jm.trans z1 jl) z2 (jb.trans z4) jl
      ·intro j hj
       rw [getD_set_ne false (by omega)]; exact j2 j hj
      ·intro j hj hl e he hb
       by_cases hji : i0 = j
       ·subst hji; exact getD_set_true (hdeps e he hb)
       ·rw [getD_set_ne false hji] at hl
        exact getD_set_true (j3 j hj hl e he hb)
      ·exact getD_set_true jz
      ·exact j6
      ·simp [Act.put,j7]
      ·intro t
       rw [put_tmps a' _ v' t (by rw [j7]; exact g3)]
       by_cases hdt : some d = some t
       ·rw [if_pos hdt]
        refine .inl ⟨i0,hi0,by simp [j1,hi0n],by rw [hdd]; exact hdt,?_,z3⟩
        intro j hj hl hd
        by_cases hij : i0 = j
        ·omega
        ·rw [getD_set_ne false hij] at hl
         rcases Nat.lt_or_ge i0 j with hlt | hge
         ·exfalso
          rcases hpair j (by omega) i0 hlt with hb | ⟨_,hap⟩
          ·have := befs_closed ops (fun j => listed.getD j false = true) (fun j hj hl => j3 j hj hl) ops.size (Nat.le_refl _) j (by omega) (fun e he hb => j3 j (by omega) hl e he hb) i0 hb
           rw [hun] at this; cases this
          ·exact (Oper.apart_spec hap).2.1 t (by rw [hdd]; exact hdt) hd
         ·exact hge
       ·rw [if_neg hdt]
        rcases j8 t with ⟨i,q1,q2,q3,q4,q5⟩ | ⟨q1,q2⟩
        ·refine .inl ⟨i,q1,getD_set_true q2,q3,?_,VR.mono hz2 q5⟩
         intro j hj hl hd
         by_cases hij : i0 = j
         ·subst hij; rw [hdd] at hd; exact absurd hd hdt
         ·rw [getD_set_ne false hij] at hl
          exact q4 j hj hl hd
        ·refine .inr ⟨?_,VR.mono hz2 q2⟩
         intro i hi hl
         by_cases hij : i0 = i
         ·subst hij; rw [hdd]; exact hdt
         ·rw [getD_set_ne false hij] at hl
          exact q1 i hi hl
 have main : ∀ (fuel : Nat) (listed : Array Bool) (a' : Act) (w' : World) (μ : MM),fuel + cnt listed ops.size = ops.size -> Inv listed a' w' μ -> wpAny P .any ops Q fuel listed a' w' := by
  intro fuel
  induction fuel with
  | zero =>
    intro listed a' w' μ hf hi
    have hfull := cnt_full (listed := listed) (n := ops.size) (by omega)
    have := hi.2.1 z (Nat.le_refl _)
    rw [hfull z hzl] at this
    cases this
  | succ fuel ih =>
    intro listed a' w' μ hf hi
    have hi' := hi
    obtain ⟨j1,j2,j3,j4,j5,j6,j7,j8,j9,j10,j11⟩ := hi
    have hzun := j2 z (Nat.le_refl _)
    refine ⟨fun h0 => (hnonempty listed j1 z hzl hzun h0).elim,fun i0 hi0r => ?_⟩
    rw [mem_ready] at hi0r
    obtain ⟨r1,o,r2,r3⟩ := hi0r
    have hi0n : i0 < ops.size := (Array.getElem?_eq_some_iff.1 r2).1
    have hoe : o = ops[i0] := by rw [Array.getElem?_eq_getElem hi0n] at r2; exact (Option.some.inj r2).symm
    have hod : ops.getD i0 default = o := by rw [hoe]; simp [Array.getD,hi0n]
    have hun : listed.getD i0 false = false := by rw [<- hgt listed j1 i0 hi0n]; exact r1
    have hdeps : ∀ e ∈ (ops.getD i0 default).after.toList,Region.binds .any e = true -> listed.getD e.on false = true := fun e he hb => r3 e (by rw [hod] at he; simpa using he) hb
    have hi0z : i0 < z + 1 := hhead listed j1 j3 z (Nat.lt_succ_self _) hzun i0 hi0n hdeps
    obtain ⟨hi0n',o',q1,q2⟩ := hop i0 hi0z
    rw [<- hoe] at q2
    obtain ⟨g1,g2,g3,g4⟩ := cOper_spec q2
    have hval : ∀ t,t ∈ o.looksAt ops -> VR (μ.cut (HH i0).length) (E i0 t) (a'.tmps.getD t undef) := by
     intro t ht
     obtain ⟨hbefore,hafter⟩ := hbelow0 i0 hi0z listed j3 hun hdeps t (by rw [hod]; exact ht)
     rcases j8 t with ⟨i,z1,z2,z3,z4,z5⟩ | ⟨z1,z2⟩
     ·have hii : i < i0 := by
       rcases Nat.lt_or_ge i i0 with hlt | hge
       ·exact hlt
       ·exfalso
        rcases Nat.eq_or_lt_of_le hge with he | hlt
        ·subst he; rw [hun] at z2; cases z2
        ·rw [hafter i (by omega) hlt z3] at z2; cases z2
      rw [hEA i0 (by omega) i t hii z3 (fun j h1 h2 h3 => by have := z4 j (by omega) (hbefore j h2 h3) h3; omega)]
      exact z5.mono (MM.cut_mono μ (hHle (i + 1) i0 (by omega) (by omega)))
     ·rw [hEB i0 (by omega) t (fun j hj hd => z1 j (by omega) (hbefore j hj hd) hd)]
      refine z2.mono fun b x hb => ?_
      obtain ⟨h1,h2⟩ := MM.cut_some hb
      refine MM.cut_of (by have := hH0le i0 (by omega); omega) ?_
      rw [j4 b h1]; exact h2
    have hwant := runs_wanted (e := E i0) (a := a') g4 (fun g wv hg => hval g (by
     rcases g4 with ⟨h1,h2⟩ | ⟨j,g',w',h1,h2,h3⟩
     ·rw [h2] at hg; cases hg
     ·rw [h3] at hg; cases hg
      unfold Oper.looksAt
      refine List.mem_append_right _ ?_
      rw [h1]
      simp [h2]))
    have hdok : dstOk nt (ops.getD i0 default).dst = true := by rw [hod,g2]; exact g3
    have hcnt := cnt_set listed ops.size i0 j1 hi0n hun
    rcases Nat.eq_or_lt_of_le (Nat.le_of_lt_succ hi0z) with he | hi0
    ·
     subst he
     rw [q1] at hw1
     cases hw1
     unfold wpOp
     rw [r2]
     simp only
     rw [hwant,hw3]
     simp only [if_true]
     left
     have hbelow : ∀ c,c < w.heap.size -> w'.heap[c]? = w.heap[c]? := j11.block
     have hext := hmono 0 i0 (Nat.zero_le _) (Nat.le_refl _)
     rw [hH0] at hext
     have hs := s.back j10 j4 hext hbelow
     refine hw4 c o g1 g2 a' w' μ base hs ?_ _ Q fun v' w'' m' z1 z2 z3 z4 => ?_
     ·intro t ht
      have : VR (μ.cut (HH i0).length) (E i0 t) (a'.tmps.getD t undef) := hval t (by
       unfold Oper.looksAt
       refine List.mem_append_left _ (List.mem_filterMap.2 ⟨.tmp t,by simpa using ht,rfl⟩))
      simpa [Act.eval] using this.mono (MM.cut_sub _ _)
     ·have hsub : MM.sub μ m' := z1.sub hs.dom
      have hcm : ∀ n,MM.sub (μ.cut n) m' := fun n b x hb => hsub b x (MM.cut_sub _ _ b x hb)
      have hle1 : H.length <= (HH (i0 + 1)).length := Nat.le_trans hext.1 hw5
      refine main2 _ _ _ _ m' (by omega) (by simpa using j1) ?_ ?_ (by simp [j1,hi0n]) ?_ ?_ ?_ (j4.trans z1 hext.1) z2 ((j11.mono s.bnd).trans z4) hle1
      ·intro j hj
       rw [getD_set_ne false (by omega)]; exact j2 j (by omega)
      ·intro j hj hl e he hb
       by_cases hji : i0 = j
       ·subst hji; exact getD_set_true (hdeps e he hb)
       ·rw [getD_set_ne false hji] at hl
        exact getD_set_true (j3 j hj hl e he hb)
      ·cases ow.dst <;> exact j6
      ·cases ow.dst <;> simp [Act.put,j7]
      ·intro t
       rw [put_tmps a' _ v' t (by rw [j7]; exact g3)]
       have hdd : (ops.getD i0 default).dst = ow.dst := by rw [hod]; exact g2
       by_cases hdt : ow.dst = some t
       ·rw [if_pos hdt]
        refine .inl ⟨i0,Nat.lt_succ_self _,by simp [j1,hi0n],by rw [hdd]; exact hdt,fun j hj _ _ => by omega,z3⟩
       ·rw [if_neg hdt]
        rcases j8 t with ⟨i,q1,q2,q3,q4,q5⟩ | ⟨q1,q2⟩
        ·refine .inl ⟨i,by omega,getD_set_true q2,q3,?_,VR.mono (hcm _) q5⟩
         intro j hj hl hd
         by_cases hij : i0 = j
         ·subst hij; rw [hdd] at hd; exact absurd hd hdt
         ·rw [getD_set_ne false hij] at hl
          exact q4 j (by omega) hl hd
        ·refine .inr ⟨?_,VR.mono (fun b x hb => ?_) q2⟩
         ·intro i hi hl
          by_cases hij : i0 = i
          ·subst hij; rw [hdd]; exact hdt
          ·rw [getD_set_ne false hij] at hl
           exact q1 i (by omega) hl
         ·obtain ⟨h1,h2⟩ := MM.cut_some hb
          exact hsub b x (by rw [j4 b h1]; exact h2)
    ·obtain ⟨oi,s1,s2,s3,s4,_⟩ := hstep i0 hi0
     rw [q1] at s1
     cases s1
     unfold wpOp
     rw [r2]
     simp only
     rw [hwant]
     rcases s4 with ⟨y1,y2,y3⟩ | ⟨y1,y2⟩
     ·rw [y1]
      simp only [Bool.false_eq_true,if_false]
      obtain ⟨μ',hinv⟩ := step listed a' w' μ hi' i0 hi0 hun hdeps undef w' (μ.cut (HH i0).length) (MM.agree.refl _ _) (by rw [y3]; exact j9 i0 (by omega)) (by rw [y2]; exact VR.undef) (Kept.refl _ _) hdok
      rw [hod] at hinv
      exact ih _ _ _ μ' (by omega) hinv
     ·rw [y1]
      simp only [if_true]
      left
      refine y2 c o g1 g2 a' w' (μ.cut (HH i0).length) (ltN w'.heap.size) (j9 i0 (by omega)) ?_ _ Q fun v' w'' m' z1 z2 z3 z4 => ?_
      ·intro t ht
       have : VR (μ.cut (HH i0).length) (E i0 t) (a'.tmps.getD t undef) := hval t (by
        unfold Oper.looksAt
        refine List.mem_append_left _ (List.mem_filterMap.2 ⟨.tmp t,by simpa using ht,rfl⟩))
       simpa [Act.eval] using this
      ·obtain ⟨μ',hinv⟩ := step listed a' w' μ hi' i0 hi0 hun hdeps v' w'' m' z1 z2 z3 z4 hdok
       rw [hod] at hinv
       rw [<- g2]
       exact ih _ _ _ μ' (by omega) hinv
 exact main ops.size _ a _ m (by
  have : cnt (Array.replicate ops.size false) ops.size = 0 := by
   unfold cnt
   rw [List.countP_eq_zero]
   intro j _
   rw [Array.getD_eq_getD_getElem?,Array.getElem?_replicate]
   split <;> simp
  omega) hinv0
def mixH (X : List Nat) (Hc Hp : Heap) : Heap := Hp.mapIdx fun b k => if b ∈ X then (Hc[b]?).getD k else k
theorem mixH_length (X : List Nat) (Hc Hp : Heap) : (mixH X Hc Hp).length = Hp.length := List.length_mapIdx
theorem mixH_ne {X : List Nat} {Hc Hp : Heap} {b : Nat} (h : b ∉ X) : (mixH X Hc Hp)[b]? = Hp[b]? := by
 unfold mixH
 rw [List.getElem?_mapIdx]
 cases Hp[b]? with
 | none => rfl
 | some k => simp [h]
theorem mixH_in {X : List Nat} {Hc Hp : Heap} {b : Nat} (h : b ∈ X) (h1 : b < Hc.length) (h2 : b < Hp.length) : (mixH X Hc Hp)[b]? = Hc[b]? := by
 unfold mixH
 rw [List.getElem?_mapIdx,List.getElem?_eq_getElem h2,List.getElem?_eq_getElem h1]
 simp [h]
theorem Sim.heap {lo : Nat} {base : Nat -> Prop} {m : MM} {H H2 : Heap} {h : Array Obj} (s : Sim lo base m H h) (h1 : ∀ b x,m b = some x -> H2[b]? = H[b]?) (h2 : ∀ b x,m b = some x -> b < H2.length) (h3 : lo <= H2.length) : Sim lo base m H2 h := by
 refine ⟨h2,fun b x k hm hk => s.cell b x k hm (h1 b x hm ▸ hk),fun b x k hl hm hk => s.own b x k hl hm (h1 b x hm ▸ hk),fun b b' x x' k k' hn hl hl' hm hm' hk hk' he => s.sep b b' x x' k k' hn hl hl' hm hm' (h1 b x hm ▸ hk) (h1 b' x' hm' ▸ hk') he,s.old,s.bnd,h3,fun b x k hm hk => s.zc b x k hm (h1 b x hm ▸ hk)⟩
theorem VR0.back {m m' : MM} (hs : m.sub m') {v y0 y : Value} (h : VR0 m v y0) (h' : VR0 m' v y) : VR0 m v y := by
 cases v with
 | pointer a => cases a with
   | none => exact h'
   | some a =>
     obtain ⟨x,hx,_,_⟩ := h
     obtain ⟨x',hx',h1,h2⟩ := h'
     rw [hs _ _ hx] at hx'
     cases hx'
     exact ⟨_,hx,h1,h2⟩
 | slice a n c => cases a with
   | none => exact h'
   | some a =>
     rcases h' with ⟨x',hx',h1,c',h2,h3,h4⟩ | h'
     ·rcases h with ⟨x,hx,_⟩ | ⟨h5,h6,_⟩
      ·rw [hs _ _ hx] at hx'
       cases hx'
       exact .inl ⟨_,hx,h1,c',h2,h3,h4⟩
      ·subst h5
       exact .inr ⟨rfl,h6,_,c',h2⟩
     ·exact .inr h'
 | _ => exact h'
theorem All2.back {m m' : MM} (hs : m.sub m') {xs ys0 ys : List Value} (h : All2 (VR0 m) xs ys0) (h' : All2 (VR0 m') xs ys) : All2 (VR0 m) xs ys := by
 refine ⟨h'.1,fun i x hx => ?_⟩
 obtain ⟨y0,_,r0⟩ := h.2 i x hx
 obtain ⟨y,hy,r⟩ := h'.2 i x hx
 exact ⟨y,hy,VR0.back hs r0 r⟩
theorem VR1.back {m m' : MM} (hs : m.sub m') {v y0 y : Value} (h : VR1 m v y0) (h' : VR1 m' v y) : VR1 m v y := by
 rcases h' with h' | ⟨g,f,c,f',c',rfl,rfl,r1,r2⟩
 ·rcases h with h | ⟨g,f,c,f0,c0,rfl,rfl,_⟩
  ·exact .inl (VR0.back hs h h')
  ·exact h'.elim
 ·rcases h with h | ⟨g',f1,c1,f0,c0,e,_,r3,r4⟩
  ·exact h.elim
  ·cases e
   exact .inr ⟨g,f,c,f',c',rfl,rfl,All2.back hs r3 r1,All2.back hs r4 r2⟩
theorem prx_steps {P : Program} {lo : Nat} {X : List Nat} {e1 : Env} {H1 : Heap} : ∀ (p : Nat) (l : List IOper) (e : Env) (H : Heap),(∀ b,b ∈ X -> b < H.length) -> PrxS P lo X p l e H e1 H1 ->
  ∃ (E : Nat -> Env) (HH : Nat -> Heap) (V : Nat -> Value),E 0 = e /\ HH 0 = H /\ p <= l.length /\
   (∀ i,i < p -> ∃ o,l[i]? = some o /\ E (i + 1) = putE (E i) o.dst (V i) /\ Ext (HH i).length (hide X (HH i)) (hide X (HH (i + 1))) /\
    ((o.runs (E i) = false /\ V i = undef /\ HH (i + 1) = HH i) \/ (o.runs (E i) = true /\ isB o.op = false /\ ∃ L,HH (i + 1) = HH i ++ L /\ ∀ (c : CM) (oo : Oper),cOp P c oo = some o.op -> oo.dst = o.dst -> ∀ (a : Act) (w : World) (m : MM) (base : Nat -> Prop),
      Sim (HH i).length base m (hide X (HH i)) w.heap -> OkU m (E i) a oo.op.operands -> ∀ (next : Act -> World -> Prop) (Q : Exit -> Act -> World -> Prop),
      (∀ v' w' m',MM.agree (HH i).length m m' -> Sim (HH i).length base m' (hide X (HH (i + 1))) w'.heap -> VR m' (V i) v' -> Kept base w w' -> next (a.put o.dst v') w') -> oo.wp P a w next Q) \/
    (o.runs (E i) = true /\ isN o.op = true /\ scal (V i) = true /\ (HH (i + 1)).length = (HH i).length /\
     (∀ (b : Nat) (k k' : Blk),(HH i)[b]? = some k -> (HH (i + 1))[b]? = some k' -> ∀ (j : Nat) (v : Value),k'.cells[j]? = some v -> k.cells[j]? = some v \/ scal1 v = true) /\
     ∀ E',∃ G,∀ (c : CM) (oo : Oper),cOp P c oo = some o.op -> oo.dst = o.dst -> ∀ (a : Act) (w : World) (m : MM) (base : Nat -> Prop),
     Sim lo base m (HH i ++ E') w.heap -> OkU m (E i) a oo.op.operands -> ∀ (next : Act -> World -> Prop) (Q : Exit -> Act -> World -> Prop),
     (∀ v' w' m',MM.agree (HH i ++ E').length m m' -> Sim lo base m' (HH (i + 1) ++ (E' ++ G)) w'.heap -> VR m' (V i) v' -> Kept base w w' -> next (a.put o.dst v') w') -> oo.wp P a w next Q) \/
    (o.runs (E i) = true /\ isB o.op = true /\ ∀ (c : CM) (oo : Oper),cOp P c oo = some o.op -> oo.dst = o.dst -> ∀ (a : Act) (w : World) (m : MM) (base : Nat -> Prop),
     Sim lo base m (HH i) w.heap -> OkU m (E i) a oo.op.operands -> ∀ (next : Act -> World -> Prop) (Q : Exit -> Act -> World -> Prop),
     (∀ v' w' m',MM.agree (HH i).length m m' -> Sim lo base m' (HH (i + 1)) w'.heap -> VR m' (V i) v' -> Kept base w w' -> next (a.put o.dst v') w') -> oo.wp P a w next Q))) /\
   OpsS P lo (l.drop p) (E p) (HH p) e1 H1
 | 0,l,e,H,hX,h => ⟨fun _ => e,fun _ => H,fun _ => undef,rfl,rfl,Nat.zero_le _,fun i hi => by omega,h⟩
 | p + 1,[],e,H,hX,h => h.elim
 | p + 1,o :: r,e,H,hX,h => by
   obtain ⟨em,Hm,hstep,hrest⟩ := h
   have hlen : H.length <= Hm.length := by
    rcases hstep with ⟨_,_,rfl⟩ | ⟨_,_,L,rfl,_⟩ | ⟨_,_,_,_,_,_,_,h,_⟩ | ⟨_,_,h,_⟩
    ·exact Nat.le_refl _
    ·rw [List.length_append]; omega
    ·omega
    ·exact h
   obtain ⟨E,HH,V,g1,g2,g3,g4,g5⟩ := prx_steps p r em Hm (fun b hb => Nat.lt_of_lt_of_le (hX b hb) hlen) hrest
   have hv : ∃ v,em = putE e o.dst v /\ Ext H.length (hide X H) (hide X Hm) /\
     ((o.runs e = false /\ v = undef /\ Hm = H) \/ (o.runs e = true /\ isB o.op = false /\ ∃ L,Hm = H ++ L /\ ∀ (c : CM) (oo : Oper),cOp P c oo = some o.op -> oo.dst = o.dst -> ∀ (a : Act) (w : World) (m : MM) (base : Nat -> Prop),
       Sim H.length base m (hide X H) w.heap -> OkU m e a oo.op.operands -> ∀ (next : Act -> World -> Prop) (Q : Exit -> Act -> World -> Prop),
       (∀ v' w' m',MM.agree H.length m m' -> Sim H.length base m' (hide X Hm) w'.heap -> VR m' v v' -> Kept base w w' -> next (a.put o.dst v') w') -> oo.wp P a w next Q) \/
     (o.runs e = true /\ isN o.op = true /\ scal v = true /\ Hm.length = H.length /\
      (∀ (b : Nat) (k k' : Blk),H[b]? = some k -> Hm[b]? = some k' -> ∀ (j : Nat) (v : Value),k'.cells[j]? = some v -> k.cells[j]? = some v \/ scal1 v = true) /\
      ∀ E',∃ G,∀ (c : CM) (oo : Oper),cOp P c oo = some o.op -> oo.dst = o.dst -> ∀ (a : Act) (w : World) (m : MM) (base : Nat -> Prop),
      Sim lo base m (H ++ E') w.heap -> OkU m e a oo.op.operands -> ∀ (next : Act -> World -> Prop) (Q : Exit -> Act -> World -> Prop),
      (∀ v' w' m',MM.agree (H ++ E').length m m' -> Sim lo base m' (Hm ++ (E' ++ G)) w'.heap -> VR m' v v' -> Kept base w w' -> next (a.put o.dst v') w') -> oo.wp P a w next Q) \/
     (o.runs e = true /\ isB o.op = true /\ ∀ (c : CM) (oo : Oper),cOp P c oo = some o.op -> oo.dst = o.dst -> ∀ (a : Act) (w : World) (m : MM) (base : Nat -> Prop),
      Sim lo base m H w.heap -> OkU m e a oo.op.operands -> ∀ (next : Act -> World -> Prop) (Q : Exit -> Act -> World -> Prop),
      (∀ v' w' m',MM.agree H.length m m' -> Sim lo base m' Hm w'.heap -> VR m' v v' -> Kept base w w' -> next (a.put o.dst v') w') -> oo.wp P a w next Q)) := by
    rcases hstep with ⟨h1,rfl,rfl⟩ | ⟨h1,hn,L,rfl,v,rfl,h2⟩ | ⟨h1,hn,d,v,hd,rfl,h3,h4,h5,h6,h7⟩ | ⟨h1,hn,h3,h4,v,rfl,h5⟩
    ·exact ⟨undef,rfl,Ext.refl _ _,.inl ⟨h1,rfl,rfl⟩⟩
    ·rw [hide_length] at h2
     refine ⟨v,rfl,?_,.inr (.inl ⟨h1,hn,L,rfl,?_⟩)⟩
     ·rw [hide_app L hX]
      exact ⟨by rw [List.length_append]; omega,fun b _ h2 => List.getElem?_append_left h2⟩
     ·rw [hide_app L hX]
      exact h2
    ·refine ⟨v,rfl,⟨by rw [hide_length,hide_length]; omega,fun b _ hb => ?_⟩,.inr (.inr (.inl ⟨h1,hn,h3,h4,h6,fun E' => ?_⟩))⟩
     ·by_cases hbX : b ∈ X
      ·rw [hide_length] at hb
       rw [hide_get_in hbX,hide_get_in hbX,List.getElem?_eq_getElem hb,List.getElem?_eq_getElem (by omega)]
       rfl
      ·rw [hide_get_ne hbX,hide_get_ne hbX,h5 b hbX]
     ·obtain ⟨G,v2,hv2,h8⟩ := h7 E'
      have hvv : v2 = v := by
       have := congrFun hv2 d
       rw [hd] at this
       simpa [putE] using this.symm
      subst hvv
      exact ⟨G,h8⟩
    ·refine ⟨v,rfl,⟨by rw [hide_length,hide_length]; omega,fun b _ hb => ?_⟩,.inr (.inr (.inr ⟨h1,hn,h5⟩))⟩
     rw [hide_length] at hb
     by_cases hbX : b ∈ X
     ·rw [hide_get_in hbX,hide_get_in hbX,List.getElem?_eq_getElem hb,List.getElem?_eq_getElem (by omega)]
      rfl
     ·rw [hide_get_ne hbX,hide_get_ne hbX,h4 b hbX hb]
   obtain ⟨v,hv1,hv0,hv2⟩ := hv
   refine ⟨fun i => if i = 0 then e else E (i - 1),fun i => if i = 0 then H else HH (i - 1),fun i => if i = 0 then v else V (i - 1),rfl,rfl,by simp; omega,?_,?_⟩
   ·intro i hi
    cases i with
    | zero =>
      refine ⟨o,rfl,?_,?_,?_⟩
      ·simp [g1,hv1]
      ·simpa [g2] using hv0
      ·simpa [g2] using hv2
    | succ i =>
      obtain ⟨o',q1,q2,q3,q4⟩ := g4 i (by omega)
      refine ⟨o',by simpa using q1,?_,?_,?_⟩
      ·simpa using q2
      ·simpa using q3
      ·simpa using q4
   ·simpa using g5
theorem drawx_sound {P : Program} (hm : P.follows .mixedOrders = true) {lo p : Nat} {X : List Nat} {l : List IOper} {e : Env} {H : Heap} {e1 : Env} {H1 : Heap} (h : PrxS P lo X p l e H e1 H1) (hX : ∀ b,b ∈ X -> b < H.length) {c : CM} {nt : Nat} {ops : Array Oper}
  (hc : cOps P c nt ops ops.toList = some l) (hok : okD ops p = true) (hokn : okN ops l p = true) {id : Nat} (Q : Exit -> Act -> World -> Prop) (a : Act) (w : World) (m : MM) (base : Nat -> Prop) (s : Sim lo base m H w.heap) (he : EnvR m e a nt)
  (hq : ∀ a' w' m',MM.agree H.length m m' -> Sim lo base m' H1 w'.heap -> EnvR m' e1 a' nt -> Kept base w w' -> Q .normal a' w') : (Code.region id ops true).wp P Q a w := by
 obtain ⟨E,HH,V,hE0,hH0,hpl,hstep,htail⟩ := prx_steps p l e H hX h
 obtain ⟨hlen,hget⟩ := cOps_get _ _ hc
 have hnl : ops.size = l.length := by simpa using hlen
 have hok' := List.all_eq_true.1 hok
 have hop : ∀ i,i < p -> ∃ (hi : i < ops.size) (o' : IOper),l[i]? = some o' /\ cOper P c nt ops ops[i] = some o' := by
  intro i hi
  have hi' : i < ops.size := by omega
  obtain ⟨o',h1,h2⟩ := hget i ops[i] (by simp [hi'])
  exact ⟨hi',o',h1,h2⟩
 have hlen1 : ∀ i,i < p -> (HH i).length <= (HH (i + 1)).length := fun i hi => by
  obtain ⟨_,_,_,q3,_⟩ := hstep i hi
  have := q3.1
  rwa [hide_length,hide_length] at this
 have hHle : ∀ i j,i <= j -> j <= p -> (HH i).length <= (HH j).length := by
  intro i j hij hj
  induction j with
  | zero => have : i = 0 := by omega
            subst this; exact Nat.le_refl _
  | succ j ih =>
    rcases Nat.eq_or_lt_of_le hij with he | hlt
    ·subst he; exact Nat.le_refl _
    ·exact Nat.le_trans (ih (by omega) (by omega)) (hlen1 j (by omega))
 have hXi : ∀ i,i <= p -> ∀ b,b ∈ X -> b < (HH i).length := fun i hi b hb => by have h1 := hX b hb; have h2 := hHle 0 i (Nat.zero_le _) hi; rw [hH0] at h2; omega
 have hmono : ∀ i j,i <= j -> j <= p -> Ext (HH i).length (hide X (HH i)) (hide X (HH j)) := by
  intro i j hij hj
  induction j with
  | zero => have : i = 0 := by omega
            subst this; exact Ext.refl _ _
  | succ j ih =>
    rcases Nat.eq_or_lt_of_le hij with he | hlt
    ·subst he; exact Ext.refl _ _
    ·obtain ⟨_,_,_,q3,_⟩ := hstep j (by omega)
     have h1 := ih (by omega) (by omega)
     exact h1.trans (q3.mono (hHle i j (by omega) (by omega)))
 have hsame : ∀ i j,i <= j -> j <= p -> ∀ b,b < (HH i).length -> b ∉ X -> (HH j)[b]? = (HH i)[b]? := by
  intro i j hij hj b hb hbX
  have := (hmono i j hij hj).2 b hb (by rw [hide_length]; exact hb)
  rwa [hide_get_ne hbX,hide_get_ne hbX] at this
 have hedge : ∀ j,j < ops.size -> ∀ e ∈ (ops.getD j default).after.toList,Region.binds .any e = true -> e.on < j := by
  intro j hj e he hb
  have h1 := hok' j (List.mem_range.2 hj)
  simp only [Bool.and_eq_true] at h1
  have h4 := List.all_eq_true.1 h1.1 e he
  simpa only [hb,Bool.not_true,Bool.false_or,decide_eq_true_eq] using h4
 have hpair : ∀ j,j < ops.size -> ∀ i,i < j -> ((befs ops ops.size).getD j 0).testBit i = true \/ (j < p /\ (ops.getD i default).apart ops (ops.getD j default) = true) := by
  intro j hj i hi
  have h1 := hok' j (List.mem_range.2 hj)
  simp only [Bool.and_eq_true] at h1
  have h2 := List.all_eq_true.1 h1.2 i (List.mem_range.2 hi)
  simpa only [Bool.or_eq_true,Bool.and_eq_true,decide_eq_true_eq] using h2
 refine wp_region_any hm ?_
 let BB : Nat -> Prop := fun i => ∃ o,l[i]? = some o /\ isB o.op = true
 let Inv : Array Bool -> Act -> World -> MM -> Prop := fun listed a' w' μ =>
  listed.size = ops.size /\ (∀ j,p <= j -> listed.getD j false = false) /\
  (∀ j,j < ops.size -> listed.getD j false = true -> ∀ e ∈ (ops.getD j default).after.toList,Region.binds .any e = true -> listed.getD e.on false = true) /\
  MM.agree H.length m μ /\ (∀ i,i < p -> listed.getD i false = false -> ∀ b,(HH i).length <= b -> b < (HH (i + 1)).length -> μ b = none) /\
  a'.defers = [] /\ a'.tmps.size = nt /\
  (∀ t,(∃ i,i < p /\ listed.getD i false = true /\ (ops.getD i default).dst = some t /\ (∀ j,j < p -> listed.getD j false = true -> (ops.getD j default).dst = some t -> j <= i) /\ VR (μ.cut (HH (i + 1)).length) (V i) (a'.tmps.getD t undef)) \/
   ((∀ i,i < p -> listed.getD i false = true -> (ops.getD i default).dst ≠ some t) /\ VR (m.cut H.length) (e t) (a'.tmps.getD t undef))) /\
  (∀ i,i <= p -> Sim (HH i).length (ltN w'.heap.size) (μ.cut (HH i).length) (hide X (HH i)) w'.heap) /\ (∃ c,c <= p /\ (∀ i,i < p -> BB i -> (listed.getD i false = true ↔ i < c)) /\ Sim lo base μ (mixH X (HH c) (HH p)) w'.heap /\
   ∀ b,b ∈ X -> ∀ x k,μ b = some x -> (HH c)[b]? = some k -> ∃ cs t fr,w'.heap[x.blk]? = some (.cells cs t fr) /\ ∀ (j : Nat) (v : Value),k.cells[j]? = some v -> ∃ v',cs[x.off + j]? = some v' /\ VR1 (μ.cut (HH c).length) v v') /\ Kept base w w' /\
  (∀ i,i < p -> ¬ BB i -> ∀ b b' x x',(HH i).length <= b -> b < (HH (i + 1)).length -> b' < (HH i).length -> μ b = some x -> μ b' = some x' -> x.blk ≠ x'.blk)
 have hinv0 : Inv (Array.replicate ops.size false) a { w with drawn := w.drawn + 1 } m := by
  have hf : ∀ j,(Array.replicate ops.size false).getD j false = false := by
   intro j; rw [Array.getD_eq_getD_getElem?,Array.getElem?_replicate]; split <;> rfl
  have hcutm : ∀ n,H.length <= n -> m.cut n = m := by
   intro n hn
   funext b
   unfold MM.cut
   split
   ·rfl
   ·cases hb : m b with
    | none => rfl
    | some x => have := s.dom b x hb; omega
  have hdomn : ∀ b,H.length <= b -> m b = none := fun b hb => by
   cases hmb : m b with
   | none => rfl
   | some x => have := s.dom b x hmb; omega
  have hHi : ∀ i,i <= p -> H.length <= (HH i).length := fun i hi => by have := hHle 0 i (Nat.zero_le _) hi; rwa [hH0] at this
  have hlt : ∀ b x,m b = some x -> x.blk < w.heap.size := fun b x hb => by
   obtain ⟨k,hk⟩ : ∃ k,H[b]? = some k := ⟨_,List.getElem?_eq_getElem (s.dom b x hb)⟩
   exact s.lt hb hk
  have hsim : ∀ i,i <= p -> Sim (HH i).length (ltN w.heap.size) m (hide X (HH i)) w.heap := by
   intro i hi
   have hzc : ∀ b x k,m b = some x -> (hide X (HH i))[b]? = some k -> k.app = true -> k.cells = [] -> x.off = 0 /\ x.es = k.es /\ x.cp = 0 := by
    intro b x k hb hk ha
    by_cases hbX : b ∈ X
    ·rw [hide_get_in hbX] at hk
     obtain ⟨k1,_,rfl⟩ := Option.map_eq_some_iff.1 hk
     cases ha
    ·have hbl := s.dom b x hb
     rw [hide_get_ne hbX,hsame 0 i (Nat.zero_le _) hi b (by rw [hH0]; exact hbl) hbX,hH0] at hk
     exact s.zc b x k hb hk ha
   refine ⟨fun b x hb => by have := s.dom b x hb; have := hHi i hi; rw [hide_length]; omega,?_,?_,?_,?_,fun _ hk => hk,by rw [hide_length]; exact Nat.le_refl _,hzc⟩
   ·intro b x k hb hk
    have hbl := s.dom b x hb
    obtain ⟨k0,hk0⟩ : ∃ k,H[b]? = some k := ⟨_,List.getElem?_eq_getElem hbl⟩
    obtain ⟨cs,t,fr,r1,r2⟩ := s.cell b x k0 hb hk0
    refine ⟨cs,t,fr,r1,fun j v hj => ?_⟩
    by_cases hbX : b ∈ X
    ·rw [hide_get_in hbX] at hk
     obtain ⟨k1,_,rfl⟩ := Option.map_eq_some_iff.1 hk
     simp at hj
    ·rw [hide_get_ne hbX,hsame 0 i (Nat.zero_le _) hi b (by rw [hH0]; exact hbl) hbX,hH0,hk0] at hk
     cases hk
     exact r2 j v hj
   ·intro b x k hl hb; have := s.dom b x hb; have := hHi i hi; omega
   ·intro b b' x x' k k' _ hl _ hb; have := s.dom b x hb; have := hHi i hi; omega
   ·intro b x hl hb; exact hlt b x hb
  refine ⟨by simp,fun j _ => hf j,fun j _ hj => absurd hj (by rw [hf j]; simp),MM.agree.refl _ _,?_,he.defers,he.size,?_,?_,?_,⟨rfl,rfl,rfl,Nat.le_refl _,fun _ _ => rfl⟩,fun i hi _ b b' x x' h1 _ _ hx _ => by rw [hdomn b (Nat.le_trans (hHi i (Nat.le_of_lt hi)) h1)] at hx; cases hx⟩
  ·intro i hi _ b h1 h2
   exact hdomn b (by have := hHi i (by omega); omega)
  ·intro t
   refine .inr ⟨fun i _ hi => absurd hi (by rw [hf i]; simp),?_⟩
   rw [hcutm _ (Nat.le_refl _)]
   exact he.val t
  ·intro i hi
   rw [hcutm _ (hHi i hi)]
   exact hsim i hi
  ·refine ⟨0,Nat.zero_le _,fun i _ _ => by rw [hf i]; simp,?_,fun b _ x k hb hk => by rw [hH0] at hk ⊢; rw [hcutm _ (Nat.le_refl _)]; exact s.cell b x k hb hk⟩
   refine s.heap (fun b x hb => ?_) (fun b x hb => by have := s.dom b x hb; have := hHi p (Nat.le_refl _); rw [mixH_length]; omega) (by have := s.low; have := hHi p (Nat.le_refl _); rw [mixH_length]; omega)
   have hbl := s.dom b x hb
   by_cases hbX : b ∈ X
   ·rw [mixH_in hbX (by rw [hH0]; exact hbl) (hXi p (Nat.le_refl _) b hbX),hH0]
   ·rw [mixH_ne hbX,hsame 0 p (Nat.zero_le _) (Nat.le_refl _) b (by rw [hH0]; exact hbl) hbX,hH0]
 have hdst : ∀ i,i < p -> ∀ o,l[i]? = some o -> (ops.getD i default).dst = o.dst := by
  intro i hi o ho
  obtain ⟨hi',o',h1,h2⟩ := hop i hi
  rw [ho] at h1
  cases h1
  have := (cOper_spec h2).2.1
  rw [<- this]
  simp [Array.getD,hi']
 have hEA : ∀ q,q <= p -> ∀ i t,i < q -> (ops.getD i default).dst = some t -> (∀ j,i < j -> j < q -> (ops.getD j default).dst ≠ some t) -> E q t = V i := by
  intro q
  induction q with
  | zero => intro _ i t hi; omega
  | succ q ih =>
    intro hq i t hi hd hlast
    obtain ⟨o,h1,h2,_⟩ := hstep q (by omega)
    have hdq := hdst q (by omega) o h1
    rw [h2]
    rcases Nat.eq_or_lt_of_le (Nat.le_of_lt_succ hi) with he | hlt
    ·subst he; rw [<- hdq,hd]; simp [putE]
    ·have hne := hlast q hlt (by omega)
     rw [hdq] at hne
     have : putE (E q) o.dst (V q) t = E q t := by
      cases hod : o.dst with
      | none => rfl
      | some d => rw [hod] at hne; have : t ≠ d := fun h => hne (by rw [h]); simp [putE,this]
     rw [this]
     exact ih (by omega) i t hlt hd fun j h1 h2 => hlast j h1 (by omega)
 have hEB : ∀ q,q <= p -> ∀ t,(∀ i,i < q -> (ops.getD i default).dst ≠ some t) -> E q t = e t := by
  intro q
  induction q with
  | zero => intro _ t _; rw [hE0]
  | succ q ih =>
    intro hq t hn
    obtain ⟨o,h1,h2,_⟩ := hstep q (by omega)
    have hne := hn q (by omega)
    rw [hdst q (by omega) o h1] at hne
    rw [h2]
    have : putE (E q) o.dst (V q) t = E q t := by
     cases hod : o.dst with
     | none => rfl
     | some d => rw [hod] at hne; have : t ≠ d := fun h => hne (by rw [h]); simp [putE,this]
    rw [this]
    exact ih (by omega) t fun i hi => hn i (by omega)
 have hH0le : ∀ i,i <= p -> H.length <= (HH i).length := fun i hi => by have := hHle 0 i (Nat.zero_le _) hi; rwa [hH0] at this
 have hchain : ∀ (listed : Array Bool),listed.size = ops.size -> (∀ j,j < ops.size -> listed.getD j false = true -> ∀ e ∈ (ops.getD j default).after.toList,Region.binds .any e = true -> listed.getD e.on false = true) -> ∀ c,c <= p -> (∀ i,i < p -> BB i -> (listed.getD i false = true ↔ i < c)) ->
   ∀ i0,i0 < p -> listed.getD i0 false = false -> (∀ e ∈ (ops.getD i0 default).after.toList,Region.binds .any e = true -> listed.getD e.on false = true) ->
   (BB i0 -> c <= i0 /\ (∀ b,b ∈ X -> (HH i0)[b]? = (HH c)[b]?) /\ ∀ i,i < p -> BB i -> ((listed.setIfInBounds i0 true).getD i false = true ↔ i < i0 + 1)) /\
   (¬ BB i0 -> ∀ i,i < p -> BB i -> ((listed.setIfInBounds i0 true).getD i false = true ↔ i < c)) := by
  intro listed j1 j3 c hc hcB i0 hi0 hun hdeps
  have hset : ∀ i,i ≠ i0 -> (listed.setIfInBounds i0 true).getD i false = listed.getD i false := fun i hi => getD_set_ne false (fun h => hi h.symm)
  refine ⟨fun hB => ?_,fun hB i hi hBi => ?_⟩
  ·have hci : c <= i0 := by
    rcases Nat.lt_or_ge i0 c with h | h
    ·have := (hcB i0 hi0 hB).2 h; rw [hun] at this; cases this
    ·exact h
   have hbef : ∀ j,j < i0 -> BB j -> listed.getD j false = true := by
    intro j hj hBj
    have h1 := List.all_eq_true.1 (List.all_eq_true.1 hokn i0 (List.mem_range.2 hi0)) j (List.mem_range.2 hj)
    obtain ⟨oj,hoj,hnj⟩ := hBj
    obtain ⟨oi,hoi,hni⟩ := hB
    rw [hoj,hoi] at h1
    simp only [hnj,hni,Bool.and_self,Bool.not_true,Bool.false_or] at h1
    exact befs_closed ops (fun j => listed.getD j false = true) (fun j hj hl => j3 j hj hl) ops.size (Nat.le_refl _) i0 (by omega) hdeps j h1
   have hnot : ∀ j,c <= j -> j < i0 -> ¬ BB j := fun j h1 h2 hBj => by have := (hcB j (by omega) hBj).1 (hbef j h2 hBj); omega
   refine ⟨hci,fun b hb => ?_,fun i hi hBi => ?_⟩
   ·have : ∀ n,c + n <= i0 -> (HH (c + n))[b]? = (HH c)[b]? := by
     intro n
     induction n with
     | zero => intro _; rfl
     | succ n ih =>
       intro hn
       obtain ⟨o,h1,h2,h3,h4⟩ := hstep (c + n) (by omega)
       have h5 : (HH (c + n + 1))[b]? = (HH (c + n))[b]? := by
        rcases h4 with ⟨_,_,h4⟩ | ⟨_,_,L,h4,_⟩ | ⟨_,h4,_⟩ | ⟨_,h4,_⟩
        ·rw [h4]
        ·rw [h4,List.getElem?_append_left (hXi _ (by omega) b hb)]
        ·exact absurd ⟨o,h1,isN_B h4⟩ (hnot (c + n) (by omega) (by omega))
        ·exact absurd ⟨o,h1,h4⟩ (hnot (c + n) (by omega) (by omega))
       rw [<- Nat.add_assoc,h5,ih (by omega)]
    have h1 := this (i0 - c) (by omega)
    rwa [show c + (i0 - c) = i0 by omega] at h1
   ·by_cases hii : i = i0
    ·subst hii
     rw [show (listed.setIfInBounds i true).getD i false = true by simp [j1]; omega]
     simp
    ·rw [hset i hii,hcB i hi hBi]
     constructor
     ·intro h; omega
     ·intro h; exact (hcB i hi hBi).1 (hbef i (by omega) hBi)
  ·have hii : i ≠ i0 := fun h => hB (h ▸ hBi)
   rw [hset i hii]
   exact hcB i hi hBi
 have step : ∀ (listed : Array Bool) (a' : Act) (w' : World) (μ : MM),Inv listed a' w' μ -> ∀ i0,i0 < p -> listed.getD i0 false = false ->
   (∀ e ∈ (ops.getD i0 default).after.toList,Region.binds .any e = true -> listed.getD e.on false = true) -> ∀ (v' : Value) (w'' : World) (m' : MM),
   MM.agree (HH i0).length (μ.cut (HH i0).length) m' -> Sim (HH i0).length (ltN w'.heap.size) m' (hide X (HH (i0 + 1))) w''.heap -> VR m' (V i0) v' -> Kept (ltN w'.heap.size) w' w'' ->
   dstOk nt (ops.getD i0 default).dst = true -> (∀ c,c <= p -> (∀ i,i < p -> BB i -> (listed.getD i false = true ↔ i < c)) -> ∃ c',c' <= p /\ (∀ i,i < p -> BB i -> ((listed.setIfInBounds i0 true).getD i false = true ↔ i < c')) /\ c <= c' /\ mixH X (HH c') (HH p) = mixH X (HH c) (HH p)) -> ∃ μ',Inv (listed.setIfInBounds i0 true) (a'.put (ops.getD i0 default).dst v') w'' μ' := by
  intro listed a' w' μ hi i0 hi0 hun hdeps v' w'' m' g1 g2 g3 g4 g5 g6
  obtain ⟨j1,j2,j3,j4,j5,j6,j7,j8,j9,j10,j11,j12⟩ := hi
  have hi0n : i0 < ops.size := by omega
  have hclosed : ∀ j,j < ops.size -> (∀ e ∈ (ops.getD j default).after.toList,Region.binds .any e = true -> listed.getD e.on false = true) -> ∀ i,((befs ops ops.size).getD j 0).testBit i = true -> listed.getD i false = true :=
   befs_closed ops (fun j => listed.getD j false = true) (fun j hj hl => j3 j hj hl) ops.size (Nat.le_refl _)
  have hdomH : ∀ b x,m' b = some x -> b < (HH (i0 + 1)).length := fun b x hb => by have := g2.dom b x hb; rwa [hide_length] at this
  let μ' : MM := fun b => if (HH i0).length <= b /\ b < (HH (i0 + 1)).length then m' b else μ b
  have hsub : μ.sub μ' := by
   intro b x hb
   show (if (HH i0).length <= b /\ b < (HH (i0 + 1)).length then m' b else μ b) = some x
   split
   ·rename_i hr; rw [j5 i0 hi0 hun b hr.1 hr.2] at hb; cases hb
   ·exact hb
  have hm'sub : ∀ n,(HH (i0 + 1)).length <= n -> m'.sub (μ'.cut n) := by
   intro n hn b x hb
   have hbl := hdomH b x hb
   refine MM.cut_of (by omega) ?_
   show (if (HH i0).length <= b /\ b < (HH (i0 + 1)).length then m' b else μ b) = some x
   split
   ·exact hb
   ·rename_i hr
    have hlt : b < (HH i0).length := by omega
    rw [g1 b hlt] at hb
    exact (MM.cut_some hb).2
  have hcutlow : ∀ n,n <= (HH i0).length -> μ'.cut n = μ.cut n := by
   intro n hn
   funext b
   unfold MM.cut
   split
   ·show (if (HH i0).length <= b /\ b < (HH (i0 + 1)).length then m' b else μ b) = μ b
    rw [if_neg (by omega)]
   ·rfl
  have hblk : ∀ i,i <= p -> ∀ b x,b < (HH i).length -> μ b = some x -> x.blk < w'.heap.size := fun i hi b x hb hx => (j9 i hi).old b x hb (MM.cut_of hb hx)
  have hlater : ∀ c o,w'.heap[c]? = some o -> w''.heap[c]? = some o := fun c o hc => by rw [g4.block c (Array.getElem?_eq_some_iff.1 hc).1]; exact hc
  have hnew0 : ∀ b x,(HH i0).length <= b -> b < (HH (i0 + 1)).length -> m' b = some x -> w'.heap.size <= x.blk := fun b x h1 h2 h3 => Nat.le_of_not_lt (g2.own b x _ h1 h3 (List.getElem?_eq_getElem (by rw [hide_length]; exact h2))).1
  refine ⟨μ',by simpa using j1,?_,?_,?_,?_,?_,?_,?_,?_,?_,?_,?_⟩
  ·intro j hj
   rw [getD_set_ne false (by omega)]; exact j2 j hj
  ·intro j hj hl e he hb
   by_cases hji : i0 = j
   ·subst hji; exact getD_set_true (hdeps e he hb)
   ·rw [getD_set_ne false hji] at hl
    exact getD_set_true (j3 j hj hl e he hb)
  ·intro b hb
   show (if (HH i0).length <= b /\ b < (HH (i0 + 1)).length then m' b else μ b) = m b
   have := hH0le i0 (by omega)
   rw [if_neg (by omega)]
   exact j4 b hb
  ·intro i hi hl b h1 h2
   by_cases hii : i0 = i
   ·subst hii
    rw [show (listed.setIfInBounds i0 true).getD i0 false = true by simp [j1,hi0n]] at hl
    cases hl
   ·rw [getD_set_ne false hii] at hl
    show (if (HH i0).length <= b /\ b < (HH (i0 + 1)).length then m' b else μ b) = none
    rw [if_neg ?_]
    ·exact j5 i hi hl b h1 h2
    ·intro hr
     rcases Nat.lt_or_ge i i0 with hlt | hge
     ·have := hHle (i + 1) i0 (by omega) (by omega); omega
     ·have := hHle (i0 + 1) i (by omega) (by omega); omega
  ·cases (ops.getD i0 default).dst <;> exact j6
  ·cases (ops.getD i0 default).dst <;> simp [Act.put,j7]
  ·intro t
   rw [put_tmps a' _ v' t (by rw [j7]; exact g5)]
   by_cases hdt : (ops.getD i0 default).dst = some t
   ·rw [if_pos hdt]
    refine .inl ⟨i0,hi0,by simp [j1,hi0n],hdt,?_,VR.mono (hm'sub _ (Nat.le_refl _)) g3⟩
    intro j hj hl hd
    by_cases hij : i0 = j
    ·omega
    ·rw [getD_set_ne false hij] at hl
     rcases Nat.lt_or_ge i0 j with hlt | hge
     ·exfalso
      rcases hpair j (by omega) i0 hlt with hb | ⟨_,hap⟩
      ·have := hclosed j (by omega) (fun e he hb => j3 j (by omega) hl e he hb) i0 hb
       rw [hun] at this; cases this
      ·exact (Oper.apart_spec hap).2.1 t hdt hd
     ·exact hge
   ·rw [if_neg hdt]
    rcases j8 t with ⟨i,q1,q2,q3,q4,q5⟩ | ⟨q1,q2⟩
    ·refine .inl ⟨i,q1,getD_set_true q2,q3,?_,VR.mono (MM.cut_cut hsub) q5⟩
     intro j hj hl hd
     by_cases hij : i0 = j
     ·subst hij; exact absurd hd hdt
     ·rw [getD_set_ne false hij] at hl
      exact q4 j hj hl hd
    ·refine .inr ⟨?_,q2⟩
     intro i hi hl
     by_cases hij : i0 = i
     ·subst hij; exact hdt
     ·rw [getD_set_ne false hij] at hl
      exact q1 i hi hl
  ·intro i hi
   rcases Nat.lt_or_ge i0 i with hlt | hge
   ·have hle := hHle (i0 + 1) i (by omega) hi
    have hext := hmono (i0 + 1) i (by omega) hi
    have hzc : ∀ b x k,(μ'.cut (HH i).length) b = some x -> (hide X (HH i))[b]? = some k -> k.app = true -> k.cells = [] -> x.off = 0 /\ x.es = k.es /\ x.cp = 0 := by
     intro b x k hb hk
     obtain ⟨hb1,hb2⟩ := MM.cut_some hb
     have hb3 : (if (HH i0).length <= b /\ b < (HH (i0 + 1)).length then m' b else μ b) = some x := hb2
     split at hb3
     ·rename_i hr
      rw [hext.2 b hr.2 (by rw [hide_length]; exact hr.2)] at hk
      exact g2.zc b x k hb3 hk
     ·exact (j9 i hi).zc b x k (MM.cut_of hb1 hb3) hk
    refine ⟨fun b x hb => by rw [hide_length]; exact (MM.cut_some hb).1,?_,?_,?_,?_,fun _ hk => hk,by rw [hide_length]; exact Nat.le_refl _,hzc⟩
    ·intro b x k hb hk
     obtain ⟨hb1,hb2⟩ := MM.cut_some hb
     have hb3 : (if (HH i0).length <= b /\ b < (HH (i0 + 1)).length then m' b else μ b) = some x := hb2
     split at hb3
     ·rename_i hr
      rw [hext.2 b hr.2 (by rw [hide_length]; exact hr.2)] at hk
      obtain ⟨cs,t,fr,r1,r2⟩ := g2.cell b x k hb3 hk
      exact ⟨cs,t,fr,r1,fun j v hj => let ⟨v',z1,z2⟩ := r2 j v hj; ⟨v',z1,VR1.mono (hm'sub _ hle) z2⟩⟩
     ·obtain ⟨cs,t,fr,r1,r2⟩ := (j9 i hi).cell b x k (MM.cut_of hb1 hb3) hk
      exact ⟨cs,t,fr,hlater _ _ r1,fun j v hj => let ⟨v',z1,z2⟩ := r2 j v hj; ⟨v',z1,VR1.mono (MM.cut_cut hsub) z2⟩⟩
    ·intro b x k hl hb; have := (MM.cut_some hb).1; omega
    ·intro b b' x x' k k' _ hl _ hb; have := (MM.cut_some hb).1; omega
    ·intro b x hl hb
     obtain ⟨hb1,hb2⟩ := MM.cut_some hb
     have hb3 : (if (HH i0).length <= b /\ b < (HH (i0 + 1)).length then m' b else μ b) = some x := hb2
     split at hb3
     ·rename_i hr
      obtain ⟨k,hk⟩ : ∃ k,(hide X (HH (i0 + 1)))[b]? = some k := ⟨_,List.getElem?_eq_getElem (by rw [hide_length]; exact hr.2)⟩
      exact g2.lt hb3 hk
     ·exact Nat.lt_of_lt_of_le (hblk i hi b x hb1 hb3) g4.size
   ·rw [hcutlow _ (hHle i i0 hge (by omega))]
    have := ((j9 i hi).later g4.size g4.block).shut
    rwa [hide_length] at this
  ·obtain ⟨c,hc,hcB,j10,j13⟩ := j10
   obtain ⟨c',hc',hcB',hcc,hmix⟩ := g6 c hc hcB
   have hxc : ∀ b,b ∈ X -> (HH c')[b]? = (HH c)[b]? := fun b hbX => by
    have h1 : (mixH X (HH c') (HH p))[b]? = (mixH X (HH c) (HH p))[b]? := by rw [hmix]
    rwa [mixH_in hbX (hXi c' hc' b hbX) (hXi p (Nat.le_refl _) b hbX),mixH_in hbX (hXi c hc b hbX) (hXi p (Nat.le_refl _) b hbX)] at h1
   refine ⟨c',hc',hcB',?_,fun b hbX x k hb hk => ?_⟩
   case refine_2 =>
    have hbl := hXi i0 (by omega) b hbX
    have hb2 : μ b = some x := by
     have hb3 : (if (HH i0).length <= b /\ b < (HH (i0 + 1)).length then m' b else μ b) = some x := hb
     rwa [if_neg (by omega)] at hb3
    rw [hxc b hbX] at hk
    obtain ⟨cs,t,fr,r1,r2⟩ := j13 b hbX x k hb2 hk
    exact ⟨cs,t,fr,hlater _ _ r1,fun j v hj => let ⟨v',z1,z2⟩ := r2 j v hj; ⟨v',z1,VR1.mono (fun b x hb => MM.cut_mono μ' (hHle c c' hcc hc') b x (MM.cut_cut hsub b x hb)) z2⟩⟩
   rw [hmix]
   have hnX : ∀ b,(HH i0).length <= b -> b ∉ X := fun b hb hbX => by have := hXi i0 (by omega) b hbX; omega
   have hnewk : ∀ b k,(HH i0).length <= b -> b < (HH (i0 + 1)).length -> (mixH X (HH c) (HH p))[b]? = some k -> (hide X (HH (i0 + 1)))[b]? = some k := by
    intro b k h1 h2 h3
    have hbX := hnX b h1
    rw [hide_get_ne hbX,<- hsame (i0 + 1) p (by omega) (Nat.le_refl _) b h2 hbX]
    rwa [mixH_ne hbX] at h3
   have hcases : ∀ b x,μ' b = some x -> ((HH i0).length <= b /\ b < (HH (i0 + 1)).length /\ m' b = some x) \/ (¬ ((HH i0).length <= b /\ b < (HH (i0 + 1)).length) /\ μ b = some x) := by
    intro b x hb
    have hb3 : (if (HH i0).length <= b /\ b < (HH (i0 + 1)).length then m' b else μ b) = some x := hb
    split at hb3
    ·rename_i hr; exact .inl ⟨hr.1,hr.2,hb3⟩
    ·rename_i hr; exact .inr ⟨hr,hb3⟩
   have hmlen : (mixH X (HH c) (HH p)).length = (HH p).length := mixH_length _ _ _
   have hle := hHle (i0 + 1) p (by omega) (Nat.le_refl _)
   have hlo0 : lo <= H.length := s.low
   have hb1 := j10.bnd
   have hzc : ∀ b x k,μ' b = some x -> (mixH X (HH c) (HH p))[b]? = some k -> k.app = true -> k.cells = [] -> x.off = 0 /\ x.es = k.es /\ x.cp = 0 := by
    intro b x k hb hk
    rcases hcases b x hb with ⟨h1,h2,h3⟩ | ⟨_,h2⟩
    ·exact g2.zc b x k h3 (hnewk b k h1 h2 hk)
    ·exact j10.zc b x k h2 hk
   refine ⟨?_,?_,?_,?_,?_,?_,j10.low,hzc⟩
   ·intro b x hb
    rcases hcases b x hb with ⟨_,h2,_⟩ | ⟨_,h2⟩
    ·omega
    ·exact j10.dom b x h2
   ·intro b x k hb hk
    rcases hcases b x hb with ⟨h1,h2,h3⟩ | ⟨_,h2⟩
    ·obtain ⟨cs,t,fr,r1,r2⟩ := g2.cell b x k h3 (hnewk b k h1 h2 hk)
     exact ⟨cs,t,fr,r1,fun j v hj => let ⟨v',z1,z2⟩ := r2 j v hj; ⟨v',z1,VR1.mono (fun b x hb => MM.cut_sub _ _ b x (hm'sub _ (Nat.le_refl _) b x hb)) z2⟩⟩
    ·obtain ⟨cs,t,fr,r1,r2⟩ := j10.cell b x k h2 hk
     exact ⟨cs,t,fr,hlater _ _ r1,fun j v hj => let ⟨v',z1,z2⟩ := r2 j v hj; ⟨v',z1,VR1.mono hsub z2⟩⟩
   ·intro b x k hl hb hk
    rcases hcases b x hb with ⟨h1,h2,h3⟩ | ⟨_,h2⟩
    ·obtain ⟨r1,r2⟩ := g2.own b x k h1 h3 (hnewk b k h1 h2 hk)
     exact ⟨fun hbx => r1 (j10.bnd _ hbx),r2⟩
    ·obtain ⟨r1,r2,r3,cs,r4,r5⟩ := j10.own b x k hl h2 hk
     exact ⟨r1,r2,r3,cs,hlater _ _ r4,r5⟩
   ·intro b b' x x' k k' hne hl hl' hb hb' hk hk' he
    rcases hcases b x hb with ⟨h1,h2,h3⟩ | ⟨_,h2⟩
    ·rcases hcases b' x' hb' with ⟨h1',h2',h3'⟩ | ⟨_,h2'⟩
     ·exact g2.sep b b' x x' k k' hne h1 h1' h3 h3' (hnewk b k h1 h2 hk) (hnewk b' k' h1' h2' hk') he
     ·have z1 := Nat.le_of_not_lt (g2.own b x k h1 h3 (hnewk b k h1 h2 hk)).1
      have z2 := j10.lt h2' hk'
      omega
    ·rcases hcases b' x' hb' with ⟨h1',h2',h3'⟩ | ⟨_,h2'⟩
     ·have z1 := Nat.le_of_not_lt (g2.own b' x' k' h1' h3' (hnewk b' k' h1' h2' hk')).1
      have z2 := j10.lt h2 hk
      omega
     ·exact j10.sep b b' x x' k k' hne hl hl' h2 h2' hk hk' he
   ·intro b x hl hb
    rcases hcases b x hb with ⟨h1,h2,h3⟩ | ⟨_,h2⟩
    ·have := hH0le i0 (by omega); omega
    ·exact j10.old b x hl h2
   ·exact fun k hk => Nat.lt_of_lt_of_le (j10.bnd k hk) g4.size
  ·obtain ⟨c,hc,hcB,j10,_⟩ := j10
   exact j11.trans (g4.mono j10.bnd)
  ·obtain ⟨c,hc,hcB,j10,_⟩ := j10
   have hmlen : (mixH X (HH c) (HH p)).length = (HH p).length := mixH_length _ _ _
   have hold : ∀ b x,μ b = some x -> x.blk < w'.heap.size := fun b x hb => j10.lt hb (List.getElem?_eq_getElem (j10.dom b x hb))
   intro i hi hnB b b' x x' h1 h2 h3 hx hx'
   have hb3 : (if (HH i0).length <= b /\ b < (HH (i0 + 1)).length then m' b else μ b) = some x := hx
   have hb3' : (if (HH i0).length <= b' /\ b' < (HH (i0 + 1)).length then m' b' else μ b') = some x' := hx'
   have hca : ¬ (i < i0 /\ (HH i0).length <= b) := fun ⟨h,h'⟩ => by have := hHle (i + 1) i0 (by omega) (by omega); omega
   split at hb3
   ·rename_i hr
    have q1 := hnew0 b x hr.1 hr.2 hb3
    split at hb3'
    ·rename_i hr'
     exfalso
     rcases Nat.lt_or_ge i0 i with hlt | hge
     ·have := hHle (i0 + 1) i (by omega) (by omega); omega
     ·have := hHle i i0 hge (by omega); omega
    ·have q2 := hold b' x' hb3'
     omega
   ·have q1 := hold b x hb3
    split at hb3'
    ·rename_i hr'
     have q2 := hnew0 b' x' hr'.1 hr'.2 hb3'
     omega
    ·exact j12 i hi hnB b b' x x' h1 h2 h3 hb3 hb3'
 have stepB : ∀ (listed : Array Bool) (a' : Act) (w' : World) (μ : MM),Inv listed a' w' μ -> ∀ i0,i0 < p -> listed.getD i0 false = false ->
   (∀ e ∈ (ops.getD i0 default).after.toList,Region.binds .any e = true -> listed.getD e.on false = true) -> BB i0 -> scal (V i0) = true -> (HH (i0 + 1)).length = (HH i0).length ->
   (∀ (b : Nat) (k k' : Blk),(HH i0)[b]? = some k -> (HH (i0 + 1))[b]? = some k' -> ∀ (j : Nat) (v : Value),k'.cells[j]? = some v -> k.cells[j]? = some v \/ scal1 v = true) -> dstOk nt (ops.getD i0 default).dst = true ->
   ∃ E',Sim lo base μ (HH i0 ++ E') w'.heap /\ ∀ (v' : Value) (w'' : World) (m' : MM) (G : Heap),MM.agree (HH i0 ++ E').length μ m' -> Sim lo base m' (HH (i0 + 1) ++ (E' ++ G)) w''.heap -> VR m' (V i0) v' -> Kept base w' w'' ->
    Inv (listed.setIfInBounds i0 true) (a'.put (ops.getD i0 default).dst v') w'' μ := by
  intro listed a' w' μ hi i0 hi0 hun hdeps hB hsc hlenE hsoi hdk
  obtain ⟨j1,j2,j3,j4,j5,j6,j7,j8,j9,⟨c,hc,hcB,j10,j13⟩,j11,j12⟩ := hi
  have hi0n : i0 < ops.size := by omega
  obtain ⟨hci,hXc,hcB'⟩ := (hchain listed j1 j3 c hc hcB i0 hi0 hun hdeps).1 hB
  have hle := hHle i0 p (by omega) (Nat.le_refl _)
  have hmlen : (mixH X (HH c) (HH p)).length = (HH p).length := mixH_length _ _ _
  have htake : (mixH X (HH c) (HH p)).take (HH i0).length = HH i0 := by
   refine List.ext_getElem? fun b => ?_
   by_cases hb : b < (HH i0).length
   ·rw [List.getElem?_take_of_lt hb]
    by_cases hbX : b ∈ X
    ·rw [mixH_in hbX (hXi c hc b hbX) (hXi p (Nat.le_refl _) b hbX),hXc b hbX]
    ·rw [mixH_ne hbX,hsame i0 p (by omega) (Nat.le_refl _) b hb hbX]
   ·rw [List.getElem?_take_eq_none (by omega),List.getElem?_eq_none (by omega)]
  have hE : mixH X (HH c) (HH p) = HH i0 ++ (mixH X (HH c) (HH p)).drop (HH i0).length := by
   have h1 := List.take_append_drop (HH i0).length (mixH X (HH c) (HH p))
   rw [htake] at h1
   exact h1.symm
  have hsub1 : ∀ i,μ.cut (HH i).length |>.sub μ := fun i => MM.cut_sub _ _
  refine ⟨(mixH X (HH c) (HH p)).drop (HH i0).length,hE ▸ j10,fun v' w'' m' G r1 r2 r3 r4 => ?_⟩
  have hE2 : mixH X (HH (i0 + 1)) (HH p) = HH (i0 + 1) ++ (mixH X (HH c) (HH p)).drop (HH i0).length := by
   refine List.ext_getElem? fun b => ?_
   by_cases hb : b < (HH (i0 + 1)).length
   ·rw [List.getElem?_append_left hb]
    by_cases hbX : b ∈ X
    ·rw [mixH_in hbX hb (hXi p (Nat.le_refl _) b hbX)]
    ·rw [mixH_ne hbX,hsame (i0 + 1) p (by omega) (Nat.le_refl _) b hb hbX]
   ·have hbX : b ∉ X := fun hbX => by have := hXi (i0 + 1) (by omega) b hbX; omega
    rw [List.getElem?_append_right (by omega),List.getElem?_drop,show (HH i0).length + (b - (HH (i0 + 1)).length) = b by omega,mixH_ne hbX,mixH_ne hbX]
  have hagl : (HH i0 ++ (mixH X (HH c) (HH p)).drop (HH i0).length).length = (HH p).length := by rw [<- hE,hmlen]
  rw [hagl] at r1
  have hdomp : ∀ b x,μ b = some x -> b < (HH p).length := fun b x hb => by have := j10.dom b x hb; rwa [hmlen] at this
  have hsubm : μ.sub m' := r1.sub hdomp
  have hmm : ∀ b,b < (HH p).length -> m' b = μ b := fun b hb => r1 b hb
  have hget : ∀ b,b < (HH p).length -> (HH (i0 + 1) ++ ((mixH X (HH c) (HH p)).drop (HH i0).length ++ G))[b]? = (mixH X (HH (i0 + 1)) (HH p))[b]? := by
   intro b hb
   rw [hE2,<- List.append_assoc,List.getElem?_append_left (by rw [<- hE2,mixH_length]; exact hb)]
  have hcells : ∀ b x k,μ b = some x -> (mixH X (HH (i0 + 1)) (HH p))[b]? = some k -> ∃ cs t fr,w''.heap[x.blk]? = some (.cells cs t fr) /\ ∀ (j : Nat) (v : Value),k.cells[j]? = some v -> ∃ v',cs[x.off + j]? = some v' /\ VR1 m' v v' := by
   intro b x k hb hk
   exact r2.cell b x k (hsubm b x hb) ((hget b (hdomp b x hb)).trans hk)
  have hback : ∀ b x k,μ b = some x -> (mixH X (HH (i0 + 1)) (HH p))[b]? = some k -> ∀ (j : Nat) (v : Value),k.cells[j]? = some v -> ∀ v',VR1 m' v v' -> VR1 μ v v' := by
   intro b x k hb hk j v hj v' hv
   have hbp := hdomp b x hb
   obtain ⟨k0,hk0⟩ : ∃ k0,(mixH X (HH c) (HH p))[b]? = some k0 := ⟨_,List.getElem?_eq_getElem (by rw [hmlen]; exact hbp)⟩
   have hold : k0.cells[j]? = some v -> VR1 μ v v' := fun h => by
    obtain ⟨cs,t,fr,_,q2⟩ := j10.cell b x k0 hb hk0
    obtain ⟨y0,_,q3⟩ := q2 j v h
    exact VR1.back hsubm q3 hv
   by_cases hbX : b ∈ X
   ·rw [mixH_in hbX (hXi (i0 + 1) (by omega) b hbX) (hXi p (Nat.le_refl _) b hbX)] at hk
    rw [mixH_in hbX (hXi c hc b hbX) (hXi p (Nat.le_refl _) b hbX),<- hXc b hbX] at hk0
    rcases hsoi b k0 k hk0 hk j v hj with h | h
    ·exact hold h
    ·exact scal1_VR h hv
   ·rw [mixH_ne hbX] at hk hk0
    rw [hk] at hk0
    cases hk0
    exact hold hj
  refine ⟨by simpa using j1,?_,?_,j4,?_,?_,?_,?_,?_,?_,?_,j12⟩
  ·intro j hj
   rw [getD_set_ne false (by omega)]; exact j2 j hj
  ·intro j hj hl e he hb
   by_cases hji : i0 = j
   ·subst hji; exact getD_set_true (hdeps e he hb)
   ·rw [getD_set_ne false hji] at hl
    exact getD_set_true (j3 j hj hl e he hb)
  ·intro i hi hl b h1 h2
   by_cases hii : i0 = i
   ·subst hii; omega
   ·rw [getD_set_ne false hii] at hl
    exact j5 i hi hl b h1 h2
  ·cases (ops.getD i0 default).dst <;> exact j6
  ·cases (ops.getD i0 default).dst <;> simp [Act.put,j7]
  ·intro t
   rw [put_tmps a' _ v' t (by rw [j7]; exact hdk)]
   by_cases hdt : (ops.getD i0 default).dst = some t
   ·rw [if_pos hdt]
    refine .inl ⟨i0,hi0,by simp [j1,hi0n],hdt,?_,scal_VR hsc r3⟩
    intro j hj hl hd
    by_cases hij : i0 = j
    ·omega
    ·rw [getD_set_ne false hij] at hl
     rcases Nat.lt_or_ge i0 j with hlt | hge
     ·exfalso
      rcases hpair j (by omega) i0 hlt with hb | ⟨_,hap⟩
      ·have := befs_closed ops (fun j => listed.getD j false = true) (fun j hj hl => j3 j hj hl) ops.size (Nat.le_refl _) j (by omega) (fun e he hb => j3 j (by omega) hl e he hb) i0 hb
       rw [hun] at this; cases this
      ·exact (Oper.apart_spec hap).2.1 t hdt hd
     ·exact hge
   ·rw [if_neg hdt]
    rcases j8 t with ⟨i,q1,q2,q3,q4,q5⟩ | ⟨q1,q2⟩
    ·refine .inl ⟨i,q1,getD_set_true q2,q3,?_,q5⟩
     intro j hj hl hd
     by_cases hij : i0 = j
     ·subst hij; exact absurd hd hdt
     ·rw [getD_set_ne false hij] at hl
      exact q4 j hj hl hd
    ·refine .inr ⟨?_,q2⟩
     intro i hi hl
     by_cases hij : i0 = i
     ·subst hij; exact hdt
     ·rw [getD_set_ne false hij] at hl
      exact q1 i hi hl
  ·intro i hi
   have j9i := j9 i hi
   refine ⟨j9i.dom,?_,?_,?_,?_,fun _ hk => hk,by rw [hide_length]; exact Nat.le_refl _,j9i.zc⟩
   ·intro b x k hb hk
    obtain ⟨hb1,hb2⟩ := MM.cut_some hb
    obtain ⟨k1,hk1⟩ : ∃ k1,(mixH X (HH (i0 + 1)) (HH p))[b]? = some k1 := ⟨_,List.getElem?_eq_getElem (by rw [mixH_length]; exact hdomp b x hb2)⟩
    obtain ⟨cs,t,fr,q1,q2⟩ := hcells b x k1 hb2 hk1
    refine ⟨cs,t,fr,q1,fun j v hj => ?_⟩
    by_cases hbX : b ∈ X
    ·rw [hide_get_in hbX] at hk
     obtain ⟨k2,_,rfl⟩ := Option.map_eq_some_iff.1 hk
     simp at hj
    ·have hkk : k1 = k := by
      rw [hide_get_ne hbX] at hk
      rw [mixH_ne hbX,hsame i p hi (Nat.le_refl _) b hb1 hbX,hk] at hk1
      exact (Option.some.inj hk1).symm
     subst hkk
     obtain ⟨v',q3,q4⟩ := q2 j v hj
     obtain ⟨_,_,_,_,z2⟩ := j9i.cell b x k1 hb hk
     obtain ⟨y0,_,z4⟩ := z2 j v hj
     exact ⟨v',q3,VR1.back (fun b x hb => hsubm b x (MM.cut_sub _ _ b x hb)) z4 q4⟩
   ·intro b x k hl hb; have := (MM.cut_some hb).1; omega
   ·intro b b' x x' k k' _ hl _ hb; have := (MM.cut_some hb).1; omega
   ·intro b x hl hb
    obtain ⟨hb1,hb2⟩ := MM.cut_some hb
    obtain ⟨k1,hk1⟩ : ∃ k1,(mixH X (HH (i0 + 1)) (HH p))[b]? = some k1 := ⟨_,List.getElem?_eq_getElem (by rw [mixH_length]; exact hdomp b x hb2)⟩
    obtain ⟨cs,t,fr,q1,_⟩ := hcells b x k1 hb2 hk1
    exact (Array.getElem?_eq_some_iff.1 q1).1
  ·refine ⟨i0 + 1,by omega,hcB',?_,fun b hbX x k hb hk => ?_⟩
   case refine_2 =>
    have hk1 : (mixH X (HH (i0 + 1)) (HH p))[b]? = some k := by rw [mixH_in hbX (hXi (i0 + 1) (by omega) b hbX) (hXi p (Nat.le_refl _) b hbX)]; exact hk
    obtain ⟨cs,t,fr,q1,q2⟩ := hcells b x k hb hk1
    refine ⟨cs,t,fr,q1,fun j v hj => ?_⟩
    obtain ⟨v',q3,q4⟩ := q2 j v hj
    obtain ⟨k0,hk0⟩ : ∃ k0,(HH i0)[b]? = some k0 := ⟨_,List.getElem?_eq_getElem (hXi i0 (by omega) b hbX)⟩
    refine ⟨v',q3,?_⟩
    rcases hsoi b k0 k hk0 hk j v hj with h | h
    ·obtain ⟨_,_,_,_,z2⟩ := j13 b hbX x k0 hb (by rw [<- hXc b hbX]; exact hk0)
     obtain ⟨y0,_,z4⟩ := z2 j v h
     refine VR1.mono (MM.cut_mono μ (show (HH c).length <= (HH (i0 + 1)).length from hHle c (i0 + 1) (by omega) (by omega))) (VR1.back (fun b x hb => hsubm b x (MM.cut_sub _ _ b x hb)) z4 q4)
    ·exact scal1_VR h q4
   refine ⟨fun b x hb => by rw [mixH_length]; exact hdomp b x hb,?_,?_,?_,?_,r2.bnd,by rw [mixH_length]; have := s.low; have := hH0le p (Nat.le_refl _); omega,fun b x k hb hk => r2.zc b x k (hsubm b x hb) ((hget b (hdomp b x hb)).trans hk)⟩
   ·intro b x k hb hk
    obtain ⟨cs,t,fr,q1,q2⟩ := hcells b x k hb hk
    exact ⟨cs,t,fr,q1,fun j v hj => let ⟨v',q3,q4⟩ := q2 j v hj; ⟨v',q3,hback b x k hb hk j v hj v' q4⟩⟩
   ·intro b x k hl hb hk
    exact r2.own b x k hl (hsubm b x hb) ((hget b (hdomp b x hb)).trans hk)
   ·intro b b' x x' k k' hne hl hl' hb hb' hk hk' he
    exact r2.sep b b' x x' k k' hne hl hl' (hsubm b x hb) (hsubm b' x' hb') ((hget b (hdomp b x hb)).trans hk) ((hget b' (hdomp b' x' hb')).trans hk') he
   ·intro b x hl hb
    exact j10.old b x hl hb
  ·exact j11.trans r4
 have stepN : ∀ (listed : Array Bool) (a' : Act) (w' : World) (μ : MM),Inv listed a' w' μ -> ∀ i0,i0 < p -> listed.getD i0 false = false ->
   (∀ e ∈ (ops.getD i0 default).after.toList,Region.binds .any e = true -> listed.getD e.on false = true) -> BB i0 -> dstOk nt (ops.getD i0 default).dst = true ->
   ∃ S : Nat -> Prop,Sim lo S (μ.cut (HH i0).length) (HH i0) w'.heap /\ ∀ (v' : Value) (w'' : World) (m' : MM),MM.agree (HH i0).length (μ.cut (HH i0).length) m' -> Sim lo S m' (HH (i0 + 1)) w''.heap -> VR m' (V i0) v' -> Kept S w' w'' ->
    ∃ μ',Inv (listed.setIfInBounds i0 true) (a'.put (ops.getD i0 default).dst v') w'' μ' := by
  intro listed a' w' μ hi i0 hi0 hun hdeps hB hdk
  obtain ⟨j1,j2,j3,j4,j5,j6,j7,j8,j9,⟨c,hc,hcB,j10,j13⟩,j11,j12⟩ := hi
  have hi0n : i0 < ops.size := by omega
  obtain ⟨hci,hXc,hcB'⟩ := (hchain listed j1 j3 c hc hcB i0 hi0 hun hdeps).1 hB
  have hle1 := hlen1 i0 hi0
  have hlep := hHle (i0 + 1) p (by omega) (Nat.le_refl _)
  have hmlen : ∀ c,(mixH X (HH c) (HH p)).length = (HH p).length := fun c => mixH_length _ _ _
  have hlow : ∀ b,b < (HH i0).length -> (mixH X (HH c) (HH p))[b]? = (HH i0)[b]? := fun b hb => by
   by_cases hbX : b ∈ X
   ·rw [mixH_in hbX (hXi c hc b hbX) (hXi p (Nat.le_refl _) b hbX),hXc b hbX]
   ·rw [mixH_ne hbX,hsame i0 p (by omega) (Nat.le_refl _) b hb hbX]
  have hold : ∀ b x,μ b = some x -> x.blk < w'.heap.size := fun b x hb => j10.lt hb (List.getElem?_eq_getElem (j10.dom b x hb))
  refine ⟨fun k => base k \/ (k < w'.heap.size /\ ∀ b x,b < (HH i0).length -> μ b = some x -> x.blk ≠ k),⟨fun b x hb => (MM.cut_some hb).1,?_,?_,?_,?_,?_,?_,?_⟩,fun v' w'' m' r1 r2 r3 r4 => ?_⟩
  ·intro b x k hb hk
   obtain ⟨hb1,hb2⟩ := MM.cut_some hb
   by_cases hbX : b ∈ X
   ·obtain ⟨cs,t,fr,z1,z2⟩ := j13 b hbX x k hb2 (by rw [<- hXc b hbX]; exact hk)
    exact ⟨cs,t,fr,z1,fun j v hj => let ⟨v',z3,z4⟩ := z2 j v hj; ⟨v',z3,VR1.mono (MM.cut_mono μ (hHle c i0 hci (by omega))) z4⟩⟩
   ·exact (j9 i0 (by omega)).cell b x k hb (by rw [hide_get_ne hbX]; exact hk)
  ·intro b x k hl hb hk
   obtain ⟨hb1,hb2⟩ := MM.cut_some hb
   obtain ⟨z1,z2⟩ := j10.own b x k hl hb2 ((hlow b hb1).trans hk)
   exact ⟨fun h => h.elim z1 fun h => h.2 b x hb1 hb2 rfl,z2⟩
  ·intro b b' x x' k k' hne hl hl' hb hb' hk hk' he
   obtain ⟨hb1,hb2⟩ := MM.cut_some hb
   obtain ⟨hb1',hb2'⟩ := MM.cut_some hb'
   exact j10.sep b b' x x' k k' hne hl hl' hb2 hb2' ((hlow b hb1).trans hk) ((hlow b' hb1').trans hk') he
  ·exact fun b x hl hb => .inl (j10.old b x hl (MM.cut_some hb).2)
  ·exact fun k hk => hk.elim (j10.bnd k) (·.1)
  ·have := s.low; have := hH0le i0 (by omega); omega
  ·intro b x k hb hk
   obtain ⟨hb1,hb2⟩ := MM.cut_some hb
   exact j10.zc b x k hb2 ((hlow b hb1).trans hk)
  let μ' : MM := fun b => if (HH i0).length <= b /\ b < (HH (i0 + 1)).length then m' b else μ b
  have hsub : μ.sub μ' := by
   intro b x hb
   show (if (HH i0).length <= b /\ b < (HH (i0 + 1)).length then m' b else μ b) = some x
   split
   ·rename_i hr; rw [j5 i0 hi0 hun b hr.1 hr.2] at hb; cases hb
   ·exact hb
  have hm'sub : ∀ n,(HH (i0 + 1)).length <= n -> m'.sub (μ'.cut n) := by
   intro n hn b x hb
   have hbl := r2.dom b x hb
   refine MM.cut_of (by omega) ?_
   show (if (HH i0).length <= b /\ b < (HH (i0 + 1)).length then m' b else μ b) = some x
   split
   ·exact hb
   ·rename_i hr
    have hlt : b < (HH i0).length := by omega
    rw [r1 b hlt] at hb
    exact (MM.cut_some hb).2
  have hm'all : m'.sub μ' := fun b x hb => MM.cut_sub _ _ b x (hm'sub _ (Nat.le_refl _) b x hb)
  have hm'low : ∀ b x,b < (HH i0).length -> μ b = some x -> m' b = some x := fun b x hb hx => by rw [r1 b hb]; exact MM.cut_of hb hx
  have hcases : ∀ b x,μ' b = some x -> (b < (HH (i0 + 1)).length /\ m' b = some x) \/ ((HH (i0 + 1)).length <= b /\ μ b = some x) := by
   intro b x hb
   have hb3 : (if (HH i0).length <= b /\ b < (HH (i0 + 1)).length then m' b else μ b) = some x := hb
   split at hb3
   ·rename_i hr; exact .inl ⟨hr.2,hb3⟩
   ·rename_i hr
    rcases Nat.lt_or_ge b (HH (i0 + 1)).length with h | h
    ·exact .inl ⟨h,hm'low b x (by omega) hb3⟩
    ·exact .inr ⟨h,hb3⟩
  have howner : ∀ q,q <= p -> ∀ b,(HH (i0 + 1)).length <= b -> b < (HH q).length -> ∃ i,i0 < i /\ i < q /\ (HH i).length <= b /\ b < (HH (i + 1)).length := by
   intro q
   induction q with
   | zero => intro _ b h1 h2; have := hHle 0 (i0 + 1) (Nat.zero_le _) (by omega); omega
   | succ q ih =>
     intro hq b h1 h2
     by_cases h : b < (HH q).length
     ·obtain ⟨i,z1,z2,z3⟩ := ih (by omega) b h1 h
      exact ⟨i,z1,by omega,z3⟩
     ·refine ⟨q,?_,Nat.lt_succ_self _,by omega,h2⟩
      rcases Nat.lt_or_ge i0 q with h3 | h3
      ·exact h3
      ·have := hHle (q + 1) (i0 + 1) (by omega) (by omega); omega
  have hfar : ∀ b x,(HH (i0 + 1)).length <= b -> μ b = some x -> base x.blk \/ (x.blk < w'.heap.size /\ ∀ b0 x0,b0 < (HH i0).length -> μ b0 = some x0 -> x0.blk ≠ x.blk) := by
   intro b x hb hx
   have hbp : b < (HH p).length := by have := j10.dom b x hx; rwa [hmlen] at this
   obtain ⟨i,z1,z2,z3,z4⟩ := howner p (Nat.le_refl _) b hb hbp
   have hnB : ¬ BB i := fun hBi => by
    have hul : listed.getD i false = false := by
     cases hl : listed.getD i false with
     | false => rfl
     | true => have := (hcB i z2 hBi).1 hl; omega
    rw [j5 i z2 hul b z3 z4] at hx
    cases hx
   exact .inr ⟨hold b x hx,fun b0 x0 h0 hx0 he => j12 i z2 hnB b b0 x x0 z3 z4 (by have := hHle i0 i (by omega) (by omega); omega) hx hx0 he.symm⟩
  have hkeep : ∀ b x,(HH (i0 + 1)).length <= b -> μ b = some x -> w''.heap[x.blk]? = w'.heap[x.blk]? := fun b x hb hx => r4.block _ (hfar b x hb hx)
  have hmid : ∀ b,b < (HH (i0 + 1)).length -> (mixH X (HH (i0 + 1)) (HH p))[b]? = (HH (i0 + 1))[b]? := fun b hb => by
   by_cases hbX : b ∈ X
   ·rw [mixH_in hbX (hXi (i0 + 1) (by omega) b hbX) (hXi p (Nat.le_refl _) b hbX)]
   ·rw [mixH_ne hbX,hsame (i0 + 1) p (by omega) (Nat.le_refl _) b hb hbX]
  have hhigh : ∀ b,(HH (i0 + 1)).length <= b -> (mixH X (HH (i0 + 1)) (HH p))[b]? = (mixH X (HH c) (HH p))[b]? := fun b hb => by
   have hbX : b ∉ X := fun hbX => by have := hXi (i0 + 1) (by omega) b hbX; omega
   rw [mixH_ne hbX,mixH_ne hbX]
  have hact : ∀ b x,μ' b = some x -> ∃ cs t fr,w''.heap[x.blk]? = some (.cells cs t fr) := by
   intro b x hb
   rcases hcases b x hb with ⟨h1,h2⟩ | ⟨h1,h2⟩
   ·obtain ⟨cs,t,fr,z1,_⟩ := r2.cell b x _ h2 (List.getElem?_eq_getElem h1)
    exact ⟨cs,t,fr,z1⟩
   ·obtain ⟨cs,t,fr,z1,_⟩ := j10.cell b x _ h2 (List.getElem?_eq_getElem (j10.dom b x h2))
    exact ⟨cs,t,fr,by rw [hkeep b x h1 h2]; exact z1⟩
  refine ⟨μ',by simpa using j1,?_,?_,?_,?_,?_,?_,?_,?_,?_,?_,?_⟩
  ·intro j hj
   rw [getD_set_ne false (by omega)]; exact j2 j hj
  ·intro j hj hl e he hb
   by_cases hji : i0 = j
   ·subst hji; exact getD_set_true (hdeps e he hb)
   ·rw [getD_set_ne false hji] at hl
    exact getD_set_true (j3 j hj hl e he hb)
  ·intro b hb
   show (if (HH i0).length <= b /\ b < (HH (i0 + 1)).length then m' b else μ b) = m b
   have := hH0le i0 (by omega)
   rw [if_neg (by omega)]
   exact j4 b hb
  ·intro i hi hl b h1 h2
   by_cases hii : i0 = i
   ·subst hii
    rw [show (listed.setIfInBounds i0 true).getD i0 false = true by simp [j1,hi0n]] at hl
    cases hl
   ·rw [getD_set_ne false hii] at hl
    show (if (HH i0).length <= b /\ b < (HH (i0 + 1)).length then m' b else μ b) = none
    rw [if_neg ?_]
    ·exact j5 i hi hl b h1 h2
    ·intro hr
     rcases Nat.lt_or_ge i i0 with hlt | hge
     ·have := hHle (i + 1) i0 (by omega) (by omega); omega
     ·have := hHle (i0 + 1) i (by omega) (by omega); omega
  ·cases (ops.getD i0 default).dst <;> exact j6
  ·cases (ops.getD i0 default).dst <;> simp [Act.put,j7]
  ·intro t
   rw [put_tmps a' _ v' t (by rw [j7]; exact hdk)]
   by_cases hdt : (ops.getD i0 default).dst = some t
   ·rw [if_pos hdt]
    refine .inl ⟨i0,hi0,by simp [j1,hi0n],hdt,?_,VR.mono (hm'sub _ (Nat.le_refl _)) r3⟩
    intro j hj hl hd
    by_cases hij : i0 = j
    ·omega
    ·rw [getD_set_ne false hij] at hl
     rcases Nat.lt_or_ge i0 j with hlt | hge
     ·exfalso
      rcases hpair j (by omega) i0 hlt with hb | ⟨_,hap⟩
      ·have := befs_closed ops (fun j => listed.getD j false = true) (fun j hj hl => j3 j hj hl) ops.size (Nat.le_refl _) j (by omega) (fun e he hb => j3 j (by omega) hl e he hb) i0 hb
       rw [hun] at this; cases this
      ·exact (Oper.apart_spec hap).2.1 t hdt hd
     ·exact hge
   ·rw [if_neg hdt]
    rcases j8 t with ⟨i,q1,q2,q3,q4,q5⟩ | ⟨q1,q2⟩
    ·refine .inl ⟨i,q1,getD_set_true q2,q3,?_,VR.mono (MM.cut_cut hsub) q5⟩
     intro j hj hl hd
     by_cases hij : i0 = j
     ·subst hij; exact absurd hd hdt
     ·rw [getD_set_ne false hij] at hl
      exact q4 j hj hl hd
    ·refine .inr ⟨?_,q2⟩
     intro i hi hl
     by_cases hij : i0 = i
     ·subst hij; exact hdt
     ·rw [getD_set_ne false hij] at hl
      exact q1 i hi hl
  ·intro i hi
   refine ⟨fun b x hb => by rw [hide_length]; exact (MM.cut_some hb).1,?_,?_,?_,?_,fun _ hk => hk,by rw [hide_length]; exact Nat.le_refl _,?_⟩
   ·intro b x k hb hk
    obtain ⟨hb1,hb2⟩ := MM.cut_some hb
    by_cases hbX : b ∈ X
    ·rw [hide_get_in hbX] at hk
     obtain ⟨k2,_,rfl⟩ := Option.map_eq_some_iff.1 hk
     obtain ⟨cs,t,fr,z1⟩ := hact b x hb2
     exact ⟨cs,t,fr,z1,fun j v hj => by simp at hj⟩
    ·have hk' := hk
     rw [hide_get_ne hbX] at hk'
     rcases hcases b x hb2 with ⟨h1,h2⟩ | ⟨h1,h2⟩
     ·have hkk : (HH (i0 + 1))[b]? = some k := by
       rw [<- hsame (i0 + 1) p (by omega) (Nat.le_refl _) b h1 hbX,hsame i p hi (Nat.le_refl _) b hb1 hbX]; exact hk'
      obtain ⟨cs,t,fr,z1,z2⟩ := r2.cell b x k h2 hkk
      refine ⟨cs,t,fr,z1,fun j v hj => ?_⟩
      obtain ⟨y,z3,z4⟩ := z2 j v hj
      refine ⟨y,z3,?_⟩
      rcases Nat.lt_or_ge i0 i with hlt | hge
      ·exact VR1.mono (hm'sub _ (hHle (i0 + 1) i (by omega) hi)) z4
      ·have hbi := hHle i i0 hge (by omega)
       have hμb : μ b = some x := by
        have hb3 : (if (HH i0).length <= b /\ b < (HH (i0 + 1)).length then m' b else μ b) = some x := hb2
        rwa [if_neg (by omega)] at hb3
       obtain ⟨_,_,_,_,y2⟩ := (j9 i hi).cell b x k (MM.cut_of hb1 hμb) hk
       obtain ⟨y0,_,y4⟩ := y2 j v hj
       exact VR1.mono (MM.cut_cut hsub) (VR1.back (fun b x hb => let ⟨q1,q2⟩ := MM.cut_some hb; hm'low b x (by omega) q2) y4 z4)
     ·obtain ⟨cs,t,fr,z1,z2⟩ := (j9 i hi).cell b x k (MM.cut_of hb1 h2) hk
      exact ⟨cs,t,fr,by rw [hkeep b x h1 h2]; exact z1,fun j v hj => let ⟨y,z3,z4⟩ := z2 j v hj; ⟨y,z3,VR1.mono (MM.cut_cut hsub) z4⟩⟩
   ·intro b x k hl hb; have := (MM.cut_some hb).1; omega
   ·intro b b' x x' k k' _ hl _ hb; have := (MM.cut_some hb).1; omega
   ·intro b x hl hb
    obtain ⟨cs,t,fr,z1⟩ := hact b x (MM.cut_some hb).2
    exact (Array.getElem?_eq_some_iff.1 z1).1
   ·intro b x k hb hk ha hcn
    obtain ⟨hb1,hb2⟩ := MM.cut_some hb
    by_cases hbX : b ∈ X
    ·rw [hide_get_in hbX] at hk
     obtain ⟨k2,_,rfl⟩ := Option.map_eq_some_iff.1 hk
     cases ha
    ·have hk' := hk
     rw [hide_get_ne hbX] at hk'
     rcases hcases b x hb2 with ⟨h1,h2⟩ | ⟨h1,h2⟩
     ·exact r2.zc b x k h2 (by rw [<- hsame (i0 + 1) p (by omega) (Nat.le_refl _) b h1 hbX,hsame i p hi (Nat.le_refl _) b hb1 hbX]; exact hk') ha hcn
     ·exact (j9 i hi).zc b x k (MM.cut_of hb1 h2) hk ha hcn
  ·refine ⟨i0 + 1,by omega,hcB',⟨?_,?_,?_,?_,?_,?_,?_,?_⟩,?_⟩
   ·intro b x hb
    rw [hmlen]
    rcases hcases b x hb with ⟨h1,_⟩ | ⟨_,h2⟩
    ·omega
    ·have := j10.dom b x h2; rwa [hmlen] at this
   ·intro b x k hb hk
    rcases hcases b x hb with ⟨h1,h2⟩ | ⟨h1,h2⟩
    ·obtain ⟨cs,t,fr,z1,z2⟩ := r2.cell b x k h2 ((hmid b h1).symm.trans hk)
     exact ⟨cs,t,fr,z1,fun j v hj => let ⟨y,z3,z4⟩ := z2 j v hj; ⟨y,z3,VR1.mono hm'all z4⟩⟩
    ·obtain ⟨cs,t,fr,z1,z2⟩ := j10.cell b x k h2 ((hhigh b h1).symm.trans hk)
     exact ⟨cs,t,fr,by rw [hkeep b x h1 h2]; exact z1,fun j v hj => let ⟨y,z3,z4⟩ := z2 j v hj; ⟨y,z3,VR1.mono hsub z4⟩⟩
   ·intro b x k hl hb hk
    rcases hcases b x hb with ⟨h1,h2⟩ | ⟨h1,h2⟩
    ·obtain ⟨z1,z2⟩ := r2.own b x k hl h2 ((hmid b h1).symm.trans hk)
     exact ⟨fun h => z1 (.inl h),z2⟩
    ·obtain ⟨z1,z2,z3,cs,z4,z5⟩ := j10.own b x k hl h2 ((hhigh b h1).symm.trans hk)
     exact ⟨z1,z2,z3,cs,by rw [hkeep b x h1 h2]; exact z4,z5⟩
   ·intro b b' x x' k k' hne hl hl' hb hb' hk hk' he
    have apart : ∀ b b' x x' k,b < (HH (i0 + 1)).length -> lo <= b -> m' b = some x -> μ' b = some x -> (HH (i0 + 1))[b]? = some k -> (HH (i0 + 1)).length <= b' -> μ b' = some x' -> x.blk ≠ x'.blk := by
     intro b b' x x' k h1 hl h2 hb hk h1' h2' he
     have hS := hfar b' x' h1' h2'
     rw [<- he] at hS
     exact (r2.own b x k hl h2 hk).1 hS
    rcases hcases b x hb with ⟨h1,h2⟩ | ⟨h1,h2⟩
    ·rcases hcases b' x' hb' with ⟨h1',h2'⟩ | ⟨h1',h2'⟩
     ·exact r2.sep b b' x x' k k' hne hl hl' h2 h2' ((hmid b h1).symm.trans hk) ((hmid b' h1').symm.trans hk') he
     ·exact absurd he (apart b b' x x' k h1 hl h2 hb ((hmid b h1).symm.trans hk) h1' h2')
    ·rcases hcases b' x' hb' with ⟨h1',h2'⟩ | ⟨h1',h2'⟩
     ·exact absurd he.symm (apart b' b x' x k' h1' hl' h2' hb' ((hmid b' h1').symm.trans hk') h1 h2)
     ·exact j10.sep b b' x x' k k' hne hl hl' h2 h2' ((hhigh b h1).symm.trans hk) ((hhigh b' h1').symm.trans hk') he
   ·intro b x hl hb
    have hb3 : (if (HH i0).length <= b /\ b < (HH (i0 + 1)).length then m' b else μ b) = some x := hb
    have := s.low; have := hH0le i0 (by omega)
    rw [if_neg (by omega)] at hb3
    exact j10.old b x hl hb3
   ·exact fun k hk => Nat.lt_of_lt_of_le (j10.bnd k hk) r4.size
   ·rw [hmlen]; have := s.low; have := hH0le p (Nat.le_refl _); omega
   ·intro b x k hb hk
    rcases hcases b x hb with ⟨h1,h2⟩ | ⟨h1,h2⟩
    ·exact r2.zc b x k h2 ((hmid b h1).symm.trans hk)
    ·exact j10.zc b x k h2 ((hhigh b h1).symm.trans hk)
   ·intro b hbX x k hb hk
    have hbl := hXi (i0 + 1) (by omega) b hbX
    rcases hcases b x hb with ⟨h1,h2⟩ | ⟨h1,h2⟩
    ·obtain ⟨cs,t,fr,z1,z2⟩ := r2.cell b x k h2 hk
     exact ⟨cs,t,fr,z1,fun j v hj => let ⟨y,z3,z4⟩ := z2 j v hj; ⟨y,z3,VR1.mono (hm'sub _ (Nat.le_refl _)) z4⟩⟩
    ·omega
  ·exact j11.trans (r4.mono fun k h => .inl h)
  ·intro i hi hnB b b' x x' h1 h2 h3 hx hx'
   have hb3 : (if (HH i0).length <= b /\ b < (HH (i0 + 1)).length then m' b else μ b) = some x := hx
   have hb3' : (if (HH i0).length <= b' /\ b' < (HH (i0 + 1)).length then m' b' else μ b') = some x' := hx'
   split at hb3
   ·rename_i hr
    exfalso
    rcases Nat.lt_trichotomy i i0 with h | h | h
    ·have := hHle (i + 1) i0 (by omega) (by omega); omega
    ·subst h; exact hnB hB
    ·have := hHle (i0 + 1) i (by omega) (by omega); omega
   ·split at hb3'
    ·rename_i hr'
     have hii : i0 < i := by
      rcases Nat.lt_or_ge i0 i with h | h
      ·exact h
      ·have := hHle i i0 h (by omega); omega
     have hbb : (HH (i0 + 1)).length <= b := by have := hHle (i0 + 1) i (by omega) (by omega); omega
     intro he
     have hS := hfar b x hbb hb3
     rw [he] at hS
     exact (r2.own b' x' _ (by have := s.low; have := hH0le i0 (by omega); omega) hb3' (List.getElem?_eq_getElem hr'.2)).1 hS
    ·exact j12 i hi hnB b b' x x' h1 h2 h3 hb3 hb3'
 have main : ∀ (fuel : Nat) (listed : Array Bool) (a' : Act) (w' : World) (μ : MM),fuel + cnt listed ops.size = ops.size -> Inv listed a' w' μ -> wpAny P .any ops Q fuel listed a' w' := by
  have fin : ∀ (fuel : Nat) (listed : Array Bool) (a' : Act) (w' : World) (μ : MM),fuel + cnt listed ops.size = ops.size -> Inv listed a' w' μ -> (∀ i,i < p -> listed.getD i false = true) -> wpAny P .any ops Q fuel listed a' w' := by
   intro fuel listed a' w' μ hf hi hall
   obtain ⟨j1,j2,j3,j4,j5,j6,j7,j8,j9,j10,j11,j12⟩ := hi
   have hl : ∀ j,j < ops.size -> (listed.getD j false = true ↔ j < p) := by
    intro j hj
    constructor
    ·intro h
     rcases Nat.lt_or_ge j p with hlt | hge
     ·exact hlt
     ·rw [j2 j hge] at h; cases h
    ·exact hall j
   have hcnt : cnt listed ops.size = p := by
    unfold cnt
    rw [<- countP_lt ops.size p (by omega)]
    refine List.countP_congr fun j hj => ?_
    rw [hl j (List.mem_range.1 hj)]
    simp
   refine tail_any hok Q fuel p listed a' w' (by omega) (Nat.le_refl _) j1 hl ?_
   obtain ⟨cc,hcc,hccB,j10,_⟩ := j10
   have hXp : mixH X (HH cc) (HH p) = HH p := by
    refine List.ext_getElem? fun b => ?_
    by_cases hbX : b ∈ X
    ·have : ∀ n,cc + n <= p -> (HH (cc + n))[b]? = (HH cc)[b]? := by
      intro n
      induction n with
      | zero => intro _; rfl
      | succ n ih =>
        intro hn
        obtain ⟨o,h1,h2,h3,h4⟩ := hstep (cc + n) (by omega)
        have h5 : (HH (cc + n + 1))[b]? = (HH (cc + n))[b]? := by
         rcases h4 with ⟨_,_,h4⟩ | ⟨_,_,L,h4,_⟩ | ⟨_,h4,_⟩ | ⟨_,h4,_⟩
         ·rw [h4]
         ·rw [h4,List.getElem?_append_left (hXi _ (by omega) b hbX)]
         ·have := (hccB (cc + n) (by omega) ⟨o,h1,isN_B h4⟩).1 (hall (cc + n) (by omega)); omega
         ·have := (hccB (cc + n) (by omega) ⟨o,h1,h4⟩).1 (hall (cc + n) (by omega)); omega
        rw [<- Nat.add_assoc,h5,ih (by omega)]
     have h1 := this (p - cc) (by omega)
     rw [show cc + (p - cc) = p by omega] at h1
     rw [mixH_in hbX (hXi cc hcc b hbX) (hXi p (Nat.le_refl _) b hbX),h1]
    ·rw [mixH_ne hbX]
   rw [hXp] at j10
   have hs := j10
   have henv : EnvR μ (E p) a' nt := by
    refine ⟨j6,j7,fun t => ?_⟩
    rcases j8 t with ⟨i,q1,q2,q3,q4,q5⟩ | ⟨q1,q2⟩
    ·rw [hEA p (Nat.le_refl _) i t q1 q3 (fun j h1 h2 h3 => by have := q4 j h2 (hall j h2) h3; omega)]
     exact q5.mono (MM.cut_sub _ _)
    ·rw [hEB p (Nat.le_refl _) t (fun i hi => q1 i hi (hall i hi))]
     refine q2.mono fun b x hb => ?_
     obtain ⟨h1,h2⟩ := MM.cut_some hb
     rw [j4 b h1]; exact h2
   refine htail c nt ops (ops.toList.drop p) (cOps_drop p _ _ hc) Q a' w' μ base hs henv fun a2 w2 m2 r1 r2 r3 r4 => ?_
   exact hq a2 w2 m2 (j4.trans r1 (hH0le p (Nat.le_refl _))) r2 r3 (j11.trans r4)
  intro fuel
  induction fuel with
  | zero =>
    intro listed a' w' μ hf hi
    have hfull := cnt_full (listed := listed) (n := ops.size) (by omega)
    exact fin 0 listed a' w' μ hf hi fun i hi => hfull i (by omega)
  | succ fuel ih =>
    intro listed a' w' μ hf hi
    by_cases hall : ∀ i,i < p -> listed.getD i false = true
    ·exact fin _ listed a' w' μ hf hi hall
    ·have hi' := hi
     obtain ⟨j1,j2,j3,j4,j5,j6,j7,j8,j9,j10,j11,j12⟩ := hi
     obtain ⟨iu,hiu,hiun⟩ : ∃ i,i < p /\ listed.getD i false = false := by
      have h1 := Classical.not_forall.1 hall
      obtain ⟨i,h2⟩ := h1
      have h3 := Classical.not_imp.1 h2
      exact ⟨i,h3.1,by simpa using h3.2⟩
     have hgt : ∀ j,j < ops.size -> listed.getD j true = listed.getD j false := fun j hj => by simp [Array.getD,j1,hj]
     have hclosed : ∀ j,j < ops.size -> (∀ e ∈ (ops.getD j default).after.toList,Region.binds .any e = true -> listed.getD e.on false = true) -> ∀ i,((befs ops ops.size).getD j 0).testBit i = true -> listed.getD i false = true :=
      befs_closed ops (fun j => listed.getD j false = true) (fun j hj hl => j3 j hj hl) ops.size (Nat.le_refl _)
     refine ⟨fun h0 => ?_,fun i0 hi0r => ?_⟩
     ·exfalso
      have hmin : ∀ j,j < ops.size -> listed.getD j false = false -> False := by
       intro j
       induction j using Nat.strongRecOn with
       | _ j ihj =>
         intro hj hun
         have : j ∈ Region.ready .any ops listed := by
          rw [mem_ready]
          refine ⟨by rw [hgt j hj]; exact hun,ops[j],Array.getElem?_eq_getElem hj,fun e he hb => ?_⟩
          have hod : ops.getD j default = ops[j] := by simp [Array.getD,hj]
          have hlt := hedge j hj e (by rw [hod]; simpa using he) hb
          cases hle : listed.getD e.on false with
          | true => rfl
          | false => exact (ihj e.on hlt (by omega) hle).elim
         rw [h0] at this
         cases this
      exact hmin iu (by omega) hiun
     ·rw [mem_ready] at hi0r
      obtain ⟨r1,o,r2,r3⟩ := hi0r
      have hi0n : i0 < ops.size := (Array.getElem?_eq_some_iff.1 r2).1
      have hoe : o = ops[i0] := by rw [Array.getElem?_eq_getElem hi0n] at r2; exact (Option.some.inj r2).symm
      have hod : ops.getD i0 default = o := by rw [hoe]; simp [Array.getD,hi0n]
      have hun : listed.getD i0 false = false := by rw [<- hgt i0 hi0n]; exact r1
      have hdeps : ∀ e ∈ (ops.getD i0 default).after.toList,Region.binds .any e = true -> listed.getD e.on false = true := fun e he hb => r3 e (by rw [hod] at he; simpa using he) hb
      have hi0 : i0 < p := by
       rcases Nat.lt_or_ge i0 p with hlt | hge
       ·exact hlt
       ·exfalso
        rcases hpair i0 hi0n iu (by omega) with hb | ⟨hb,_⟩
        ·have := hclosed i0 hi0n hdeps iu hb
         rw [hiun] at this; cases this
        ·omega
      obtain ⟨hi0n',o',q1,q2⟩ := hop i0 hi0
      rw [<- hoe] at q2
      obtain ⟨g1,g2,g3,g4⟩ := cOper_spec q2
      obtain ⟨oi,s1,s2,s3,s4⟩ := hstep i0 hi0
      rw [q1] at s1
      cases s1
      have hval : ∀ t,t ∈ o.looksAt ops -> VR (μ.cut (HH i0).length) (E i0 t) (a'.tmps.getD t undef) := by
       intro t ht
       have hbefore : ∀ j,j < i0 -> (ops.getD j default).dst = some t -> listed.getD j false = true := by
        intro j hj hd
        rcases hpair i0 hi0n j hj with hb | ⟨_,hap⟩
        ·exact hclosed i0 hi0n hdeps j hb
        ·exact absurd (by rw [hod]; exact ht) ((Oper.apart_spec hap).1 t hd)
       have hafter : ∀ j,j < p -> i0 < j -> (ops.getD j default).dst = some t -> listed.getD j false = false := by
        intro j hj hlt hd
        cases hlj : listed.getD j false with
        | false => rfl
        | true =>
          exfalso
          rcases hpair j (by omega) i0 hlt with hb | ⟨_,hap⟩
          ·have := hclosed j (by omega) (fun e he hb => j3 j (by omega) hlj e he hb) i0 hb
           rw [hun] at this; cases this
          ·exact (Oper.apart_spec hap).2.2 t hd (by rw [hod]; exact ht)
       rcases j8 t with ⟨i,z1,z2,z3,z4,z5⟩ | ⟨z1,z2⟩
       ·have hii : i < i0 := by
         rcases Nat.lt_or_ge i i0 with hlt | hge
         ·exact hlt
         ·exfalso
          rcases Nat.eq_or_lt_of_le hge with he | hlt
          ·subst he; rw [hun] at z2; cases z2
          ·rw [hafter i z1 hlt z3] at z2; cases z2
        rw [hEA i0 (by omega) i t hii z3 (fun j h1 h2 h3 => by have := z4 j (by omega) (hbefore j h2 h3) h3; omega)]
        exact z5.mono (MM.cut_mono μ (hHle (i + 1) i0 (by omega) (by omega)))
       ·rw [hEB i0 (by omega) t (fun j hj hd => z1 j (by omega) (hbefore j hj hd) hd)]
        refine z2.mono fun b x hb => ?_
        obtain ⟨h1,h2⟩ := MM.cut_some hb
        refine MM.cut_of (by have := hH0le i0 (by omega); omega) ?_
        rw [j4 b h1]; exact h2
      have hwant := runs_wanted (e := E i0) (a := a') g4 (fun g wv hg => hval g (by
       rcases g4 with ⟨h1,h2⟩ | ⟨j,g',w',h1,h2,h3⟩
       ·rw [h2] at hg; cases hg
       ·rw [h3] at hg; cases hg
        unfold Oper.looksAt
        refine List.mem_append_right _ ?_
        rw [h1]
        simp [h2]))
      have hdok : dstOk nt (ops.getD i0 default).dst = true := by rw [hod,g2]; exact g3
      have hcnt := cnt_set listed ops.size i0 j1 hi0n hun
      unfold wpOp
      rw [r2]
      simp only
      rw [hwant]
      have hgc : ∀ c,c <= p -> (∀ i,i < p -> BB i -> (listed.getD i false = true ↔ i < c)) -> (HH (i0 + 1) = HH i0 \/ ¬ BB i0) -> ∃ c',c' <= p /\ (∀ i,i < p -> BB i -> ((listed.setIfInBounds i0 true).getD i false = true ↔ i < c')) /\ c <= c' /\ mixH X (HH c') (HH p) = mixH X (HH c) (HH p) := by
       intro c hc hcB hor
       obtain ⟨z1,z2⟩ := hchain listed j1 j3 c hc hcB i0 hi0 hun hdeps
       by_cases hB : BB i0
       ·obtain ⟨z3,z4,z5⟩ := z1 hB
        have hH := hor.resolve_right (fun h => h hB)
        refine ⟨i0 + 1,by omega,z5,by omega,List.ext_getElem? fun b => ?_⟩
        by_cases hbX : b ∈ X
        ·rw [mixH_in hbX (hXi _ (by omega) b hbX) (hXi p (Nat.le_refl _) b hbX),mixH_in hbX (hXi _ hc b hbX) (hXi p (Nat.le_refl _) b hbX),hH,z4 b hbX]
        ·rw [mixH_ne hbX,mixH_ne hbX]
       ·exact ⟨c,hc,z2 hB,Nat.le_refl _,rfl⟩
      rcases s4 with ⟨y1,y2,y3⟩ | ⟨y1,yn,L,yL,y2⟩ | ⟨y1,y2,y3,y4,y5,y6⟩ | ⟨y1,y2,y3⟩
      ·rw [y1]
       simp only [Bool.false_eq_true,if_false]
       have hle := hHle i0 i0 (Nat.le_refl _) (by omega)
       obtain ⟨μ',hinv⟩ := step listed a' w' μ hi' i0 hi0 hun hdeps undef w' (μ.cut (HH i0).length) (MM.agree.refl _ _) (by rw [y3]; exact j9 i0 (by omega)) (by rw [y2]; exact VR.undef) (Kept.refl _ _) hdok (fun c hc hcB => hgc c hc hcB (.inl y3))
       rw [hod] at hinv
       exact ih _ _ _ μ' (by omega) hinv
      ·rw [y1]
       simp only [if_true]
       left
       refine y2 c o g1 g2 a' w' (μ.cut (HH i0).length) (ltN w'.heap.size) (j9 i0 (by omega)) ?_ _ Q fun v' w'' m' z1 z2 z3 z4 => ?_
       ·intro t ht
        have : VR (μ.cut (HH i0).length) (E i0 t) (a'.tmps.getD t undef) := hval t (by
         unfold Oper.looksAt
         refine List.mem_append_left _ (List.mem_filterMap.2 ⟨.tmp t,by simpa using ht,rfl⟩))
        simpa [Act.eval] using this
       ·obtain ⟨μ',hinv⟩ := step listed a' w' μ hi' i0 hi0 hun hdeps v' w'' m' z1 z2 z3 z4 hdok (fun c hc hcB => hgc c hc hcB (.inr fun ⟨ob,hob,hnb⟩ => by rw [q1] at hob; cases hob; rw [yn] at hnb; cases hnb))
        rw [hod] at hinv
        rw [<- g2]
        exact ih _ _ _ μ' (by omega) hinv
      ·rw [y1]
       simp only [if_true]
       left
       obtain ⟨E',hE1,hE2⟩ := stepB listed a' w' μ hi' i0 hi0 hun hdeps ⟨_,q1,isN_B y2⟩ y3 y4 y5 hdok
       obtain ⟨G,hG⟩ := y6 E'
       refine hG c o g1 g2 a' w' μ base hE1 ?_ _ Q fun v' w'' m' z1 z2 z3 z4 => ?_
       ·intro t ht
        have : VR (μ.cut (HH i0).length) (E i0 t) (a'.tmps.getD t undef) := hval t (by
         unfold Oper.looksAt
         refine List.mem_append_left _ (List.mem_filterMap.2 ⟨.tmp t,by simpa using ht,rfl⟩))
        simpa [Act.eval] using this.mono (MM.cut_sub _ _)
       ·have hinv := hE2 v' w'' m' G z1 z2 z3 z4
        rw [hod] at hinv
        rw [<- g2]
        exact ih _ _ _ μ (by omega) hinv
      ·rw [y1]
       simp only [if_true]
       left
       obtain ⟨S,hE1,hE2⟩ := stepN listed a' w' μ hi' i0 hi0 hun hdeps ⟨_,q1,y2⟩ hdok
       refine y3 c o g1 g2 a' w' (μ.cut (HH i0).length) S hE1 ?_ _ Q fun v' w'' m' z1 z2 z3 z4 => ?_
       ·intro t ht
        have : VR (μ.cut (HH i0).length) (E i0 t) (a'.tmps.getD t undef) := hval t (by
         unfold Oper.looksAt
         refine List.mem_append_left _ (List.mem_filterMap.2 ⟨.tmp t,by simpa using ht,rfl⟩))
        simpa [Act.eval] using this
       ·obtain ⟨μ',hinv⟩ := hE2 v' w'' m' z1 z2 z3 z4
        rw [hod] at hinv
        rw [<- g2]
        exact ih _ _ _ μ' (by omega) hinv
 exact main ops.size _ a _ m (by
  have : cnt (Array.replicate ops.size false) ops.size = 0 := by
   unfold cnt
   rw [List.countP_eq_zero]
   intro j _
   rw [Array.getD_eq_getD_getElem?,Array.getElem?_replicate]
   split <;> simp
  omega) hinv0
theorem frees_steps {lo : Nat} {H Hm : Heap} : ∀ (n : Nat) (l : List IOper) (e e1 : Env),frees lo H Hm n l e e1 ->
  ∃ (E : Nat -> Env) (V : Nat -> Value),E 0 = e /\ E n = e1 /\ n <= l.length /\ ∀ i,i < n -> ∃ o,l[i]? = some o /\ o.guard = none /\ E (i + 1) = putE (E i) o.dst (V i) /\
   iop lo o.op (E i) H = some (V i,H) /\ iop lo o.op (E i) Hm = some (V i,Hm)
 | 0,l,e,e1,h => ⟨fun _ => e,fun _ => undef,rfl,h.symm,Nat.zero_le _,fun i hi => by omega⟩
 | n + 1,[],e,e1,h => h.elim
 | n + 1,o :: r,e,e1,⟨hg,v,h1,h2,h3⟩ => by
   obtain ⟨E,V,g1,g2,g3,g4⟩ := frees_steps n r _ _ h3
   refine ⟨fun i => if i = 0 then e else E (i - 1),fun i => if i = 0 then v else V (i - 1),rfl,by simpa using g2,by simp; omega,fun i hi => ?_⟩
   cases i with
   | zero => exact ⟨o,rfl,hg,by simp [g1],by simpa using h1,by simpa using h2⟩
   | succ i =>
     obtain ⟨o',q1,q2,q3,q4,q5⟩ := g4 i (by omega)
     exact ⟨o',by simpa using q1,q2,by simpa using q3,by simpa using q4,by simpa using q5⟩
theorem drawV_sound {P : Program} (hm : P.follows .mixedOrders = true) {lo q k : Nat} {l : List IOper} {e e1 e2 e3 : Env} {H Hm : Heap} {e4 : Env} {H1 : Heap} {ov : IOper}
  (hf1 : frees lo H Hm q l e e1) (hov : l[q]? = some ov) (hovg : ov.guard = none) (hop0 : OpS P lo ov.dst ov.op e1 H e2 Hm) (hHm : H.length <= Hm.length) (hf2 : frees lo H Hm k (l.drop (q + 1)) e2 e3) (htail : OpsS P lo (l.drop (q + 1 + k)) e3 Hm e4 H1) {c : CM} {nt : Nat} {ops : Array Oper}
  (hc : cOps P c nt ops ops.toList = some l) (hok : okD ops (q + 1 + k) = true) {id : Nat} (Q : Exit -> Act -> World -> Prop) (a : Act) (w : World) (m : MM) (base : Nat -> Prop) (s : Sim lo base m H w.heap) (he : EnvR m e a nt)
  (hq : ∀ a' w' m',MM.agree H.length m m' -> Sim lo base m' H1 w'.heap -> EnvR m' e4 a' nt -> Kept base w w' -> Q .normal a' w') : (Code.region id ops true).wp P Q a w := by
 obtain ⟨vq,he2,hopq⟩ := hop0
 obtain ⟨Ea,Va,a1,a2,a3,a4⟩ := frees_steps q l _ _ hf1
 obtain ⟨Eb,Vb,b1,b2,b3,b4⟩ := frees_steps k _ _ _ hf2
 have hql : q < l.length := (List.getElem?_eq_some_iff.1 hov).1
 have hlenp : q + 1 + k <= l.length := by rw [List.length_drop] at b3; omega
 obtain ⟨p,hp⟩ : ∃ p,p = q + 1 + k := ⟨_,rfl⟩
 rw [<- hp] at hlenp hok htail
 obtain ⟨E,hE⟩ : ∃ E : Nat -> Env,E = fun i => if i <= q then Ea i else Eb (i - (q + 1)) := ⟨_,rfl⟩
 obtain ⟨V,hV⟩ : ∃ V : Nat -> Value,V = fun i => if i < q then Va i else if i = q then vq else Vb (i - (q + 1)) := ⟨_,rfl⟩
 have hE0 : E 0 = e := by rw [hE]; simp [a1]
 have hEp : E p = e3 := by rw [hE,hp]; simp only [show ¬ q + 1 + k <= q by omega,if_false]; rw [show q + 1 + k - (q + 1) = k by omega]; exact b2
 have hstep : ∀ i,i < p -> ∃ o,l[i]? = some o /\ o.guard = none /\ E (i + 1) = putE (E i) o.dst (V i) /\
   (i ≠ q -> iop lo o.op (E i) H = some (V i,H) /\ iop lo o.op (E i) Hm = some (V i,Hm)) /\ (i = q -> o = ov) := by
  intro i hi
  rcases Nat.lt_trichotomy i q with h | h | h
  ·obtain ⟨o,q1,q2,q3,q4,q5⟩ := a4 i h
   refine ⟨o,q1,q2,?_,fun _ => ⟨?_,?_⟩,fun h' => by omega⟩
   ·rw [hE,hV]; simp only [show i + 1 <= q by omega,show i <= q by omega,h,if_true]; exact q3
   ·rw [hE,hV]; simp only [show i <= q by omega,h,if_true]; exact q4
   ·rw [hE,hV]; simp only [show i <= q by omega,h,if_true]; exact q5
  ·subst h
   refine ⟨ov,hov,hovg,?_,fun h' => absurd rfl h',fun _ => rfl⟩
   rw [hE,hV]
   simp only [show ¬ i + 1 <= i by omega,Nat.le_refl,if_true,if_false,show ¬ i < i by omega]
   rw [show i + 1 - (i + 1) = 0 by omega,b1,he2,a2]
  ·obtain ⟨o,q1,q2,q3,q4,q5⟩ := b4 (i - (q + 1)) (by omega)
   rw [List.getElem?_drop,show q + 1 + (i - (q + 1)) = i by omega] at q1
   refine ⟨o,q1,q2,?_,fun _ => ⟨?_,?_⟩,fun h' => by omega⟩
   ·rw [hE,hV]; simp only [show ¬ i + 1 <= q by omega,show ¬ i <= q by omega,show ¬ i < q by omega,show ¬ i = q by omega,if_false]
    rw [show i + 1 - (q + 1) = i - (q + 1) + 1 by omega]; exact q3
   ·rw [hE,hV]; simp only [show ¬ i <= q by omega,show ¬ i < q by omega,show ¬ i = q by omega,if_false]; exact q4
   ·rw [hE,hV]; simp only [show ¬ i <= q by omega,show ¬ i < q by omega,show ¬ i = q by omega,if_false]; exact q5
 have hEq : E q = e1 := by rw [hE]; simp [a2]
 have hVq : V q = vq := by rw [hV]; simp
 obtain ⟨hlen,hget⟩ := cOps_get _ _ hc
 have hnl : ops.size = l.length := by simpa using hlen
 have hqp : q < p := by omega
 have hok' := List.all_eq_true.1 hok
 have hop : ∀ i,i < p -> ∃ (hi : i < ops.size) (o' : IOper),l[i]? = some o' /\ cOper P c nt ops ops[i] = some o' := by
  intro i hi
  have hi' : i < ops.size := by omega
  obtain ⟨o',h1,h2⟩ := hget i ops[i] (by simp [hi'])
  exact ⟨hi',o',h1,h2⟩
 have hedge : ∀ j,j < ops.size -> ∀ e ∈ (ops.getD j default).after.toList,Region.binds .any e = true -> e.on < j := by
  intro j hj e he hb
  have h1 := hok' j (List.mem_range.2 hj)
  simp only [Bool.and_eq_true] at h1
  have h4 := List.all_eq_true.1 h1.1 e he
  simpa only [hb,Bool.not_true,Bool.false_or,decide_eq_true_eq] using h4
 have hpair : ∀ j,j < ops.size -> ∀ i,i < j -> ((befs ops ops.size).getD j 0).testBit i = true \/ (j < p /\ (ops.getD i default).apart ops (ops.getD j default) = true) := by
  intro j hj i hi
  have h1 := hok' j (List.mem_range.2 hj)
  simp only [Bool.and_eq_true] at h1
  have h2 := List.all_eq_true.1 h1.2 i (List.mem_range.2 hi)
  simpa only [Bool.or_eq_true,Bool.and_eq_true,decide_eq_true_eq] using h2
 refine wp_region_any hm ?_
 let Hc : Array Bool -> Heap := fun listed => if listed.getD q false = true then Hm else H
 have hHc : ∀ listed,H.length <= (Hc listed).length := fun listed => by
  show H.length <= (if listed.getD q false = true then Hm else H).length
  split
  ·exact hHm
  ·exact Nat.le_refl _
 let Inv : Array Bool -> Act -> World -> MM -> Prop := fun listed a' w' μ =>
  listed.size = ops.size /\ (∀ j,p <= j -> listed.getD j false = false) /\
  (∀ j,j < ops.size -> listed.getD j false = true -> ∀ e ∈ (ops.getD j default).after.toList,Region.binds .any e = true -> listed.getD e.on false = true) /\
  MM.agree H.length m μ /\ a'.defers = [] /\ a'.tmps.size = nt /\
  (∀ t,(∃ i,i < p /\ listed.getD i false = true /\ (ops.getD i default).dst = some t /\ (∀ j,j < p -> listed.getD j false = true -> (ops.getD j default).dst = some t -> j <= i) /\ VR μ (V i) (a'.tmps.getD t undef)) \/
   ((∀ i,i < p -> listed.getD i false = true -> (ops.getD i default).dst ≠ some t) /\ VR μ (e t) (a'.tmps.getD t undef))) /\
  Sim lo base μ (Hc listed) w'.heap /\ Kept base w w'
 have hf : ∀ j,(Array.replicate ops.size false).getD j false = false := by
  intro j; rw [Array.getD_eq_getD_getElem?,Array.getElem?_replicate]; split <;> rfl
 have hinv0 : Inv (Array.replicate ops.size false) a { w with drawn := w.drawn + 1 } m := by
  refine ⟨by simp,fun j _ => hf j,fun j _ hj => absurd hj (by rw [hf j]; simp),MM.agree.refl _ _,he.defers,he.size,?_,?_,⟨rfl,rfl,rfl,Nat.le_refl _,fun _ _ => rfl⟩⟩
  ·intro t
   exact .inr ⟨fun i _ hi => absurd hi (by rw [hf i]; simp),he.val t⟩
  ·show Sim lo base m (if (Array.replicate ops.size false).getD q false = true then Hm else H) w.heap
   rw [hf q]
   simpa using s
 have hdst : ∀ i,i < p -> ∀ o,l[i]? = some o -> (ops.getD i default).dst = o.dst := by
  intro i hi o ho
  obtain ⟨hi',o',h1,h2⟩ := hop i hi
  rw [ho] at h1
  cases h1
  have := (cOper_spec h2).2.1
  rw [<- this]
  simp [Array.getD,hi']
 have hEA : ∀ q,q <= p -> ∀ i t,i < q -> (ops.getD i default).dst = some t -> (∀ j,i < j -> j < q -> (ops.getD j default).dst ≠ some t) -> E q t = V i := by
  intro q
  induction q with
  | zero => intro _ i t hi; omega
  | succ q ih =>
    intro hq i t hi hd hlast
    obtain ⟨o,h1,_,h2,_⟩ := hstep q (by omega)
    have hdq := hdst q (by omega) o h1
    rw [h2]
    rcases Nat.eq_or_lt_of_le (Nat.le_of_lt_succ hi) with he | hlt
    ·subst he; rw [<- hdq,hd]; simp [putE]
    ·have hne := hlast q hlt (by omega)
     rw [hdq] at hne
     have : putE (E q) o.dst (V q) t = E q t := by
      cases hod : o.dst with
      | none => rfl
      | some d => rw [hod] at hne; have : t ≠ d := fun h => hne (by rw [h]); simp [putE,this]
     rw [this]
     exact ih (by omega) i t hlt hd fun j h1 h2 => hlast j h1 (by omega)
 have hEB : ∀ q,q <= p -> ∀ t,(∀ i,i < q -> (ops.getD i default).dst ≠ some t) -> E q t = e t := by
  intro q
  induction q with
  | zero => intro _ t _; rw [hE0]
  | succ q ih =>
    intro hq t hn
    obtain ⟨o,h1,_,h2,_⟩ := hstep q (by omega)
    have hne := hn q (by omega)
    rw [hdst q (by omega) o h1] at hne
    rw [h2]
    have : putE (E q) o.dst (V q) t = E q t := by
     cases hod : o.dst with
     | none => rfl
     | some d => rw [hod] at hne; have : t ≠ d := fun h => hne (by rw [h]); simp [putE,this]
    rw [this]
    exact ih (by omega) t fun i hi => hn i (by omega)
 have step : ∀ (listed : Array Bool) (a' : Act) (w' : World) (μ : MM),Inv listed a' w' μ -> ∀ i0,i0 < p -> listed.getD i0 false = false ->
   (∀ e ∈ (ops.getD i0 default).after.toList,Region.binds .any e = true -> listed.getD e.on false = true) -> ∀ (v' : Value) (w'' : World) (m' : MM),
   MM.agree (Hc listed).length μ m' -> Sim lo base m' (Hc (listed.setIfInBounds i0 true)) w''.heap -> VR m' (V i0) v' -> Kept base w' w'' ->
   dstOk nt (ops.getD i0 default).dst = true -> Inv (listed.setIfInBounds i0 true) (a'.put (ops.getD i0 default).dst v') w'' m' := by
  intro listed a' w' μ hi i0 hi0 hun hdeps v' w'' m' g1 g2 g3 g4 g5
  obtain ⟨j1,j2,j3,j4,j6,j7,j8,j9,j11⟩ := hi
  have hi0n : i0 < ops.size := by omega
  have hclosed : ∀ j,j < ops.size -> (∀ e ∈ (ops.getD j default).after.toList,Region.binds .any e = true -> listed.getD e.on false = true) -> ∀ i,((befs ops ops.size).getD j 0).testBit i = true -> listed.getD i false = true :=
   befs_closed ops (fun j => listed.getD j false = true) (fun j hj hl => j3 j hj hl) ops.size (Nat.le_refl _)
  have hsub : μ.sub m' := g1.sub j9.dom
  refine ⟨by simpa using j1,?_,?_,?_,?_,?_,?_,g2,j11.trans g4⟩
  ·intro j hj
   rw [getD_set_ne false (by omega)]; exact j2 j hj
  ·intro j hj hl e he hb
   by_cases hji : i0 = j
   ·subst hji; exact getD_set_true (hdeps e he hb)
   ·rw [getD_set_ne false hji] at hl
    exact getD_set_true (j3 j hj hl e he hb)
  ·exact j4.trans g1 (hHc _)
  ·cases (ops.getD i0 default).dst <;> exact j6
  ·cases (ops.getD i0 default).dst <;> simp [Act.put,j7]
  ·intro t
   rw [put_tmps a' _ v' t (by rw [j7]; exact g5)]
   by_cases hdt : (ops.getD i0 default).dst = some t
   ·rw [if_pos hdt]
    refine .inl ⟨i0,hi0,by simp [j1,hi0n],hdt,?_,g3⟩
    intro j hj hl hd
    by_cases hij : i0 = j
    ·omega
    ·rw [getD_set_ne false hij] at hl
     rcases Nat.lt_or_ge i0 j with hlt | hge
     ·exfalso
      rcases hpair j (by omega) i0 hlt with hb | ⟨_,hap⟩
      ·have := hclosed j (by omega) (fun e he hb => j3 j (by omega) hl e he hb) i0 hb
       rw [hun] at this; cases this
      ·exact (Oper.apart_spec hap).2.1 t hdt hd
     ·exact hge
   ·rw [if_neg hdt]
    rcases j8 t with ⟨i,q1,q2,q3,q4,q5⟩ | ⟨q1,q2⟩
    ·refine .inl ⟨i,q1,getD_set_true q2,q3,?_,VR.mono hsub q5⟩
     intro j hj hl hd
     by_cases hij : i0 = j
     ·subst hij; exact absurd hd hdt
     ·rw [getD_set_ne false hij] at hl
      exact q4 j hj hl hd
    ·refine .inr ⟨?_,VR.mono hsub q2⟩
     intro i hi hl
     by_cases hij : i0 = i
     ·subst hij; exact hdt
     ·rw [getD_set_ne false hij] at hl
      exact q1 i hi hl
 have main : ∀ (fuel : Nat) (listed : Array Bool) (a' : Act) (w' : World) (μ : MM),fuel + cnt listed ops.size = ops.size -> Inv listed a' w' μ -> wpAny P .any ops Q fuel listed a' w' := by
  have fin : ∀ (fuel : Nat) (listed : Array Bool) (a' : Act) (w' : World) (μ : MM),fuel + cnt listed ops.size = ops.size -> Inv listed a' w' μ -> (∀ i,i < p -> listed.getD i false = true) -> wpAny P .any ops Q fuel listed a' w' := by
   intro fuel listed a' w' μ hf hi hall
   obtain ⟨j1,j2,j3,j4,j6,j7,j8,j9,j11⟩ := hi
   have hl : ∀ j,j < ops.size -> (listed.getD j false = true ↔ j < p) := by
    intro j hj
    constructor
    ·intro h
     rcases Nat.lt_or_ge j p with hlt | hge
     ·exact hlt
     ·rw [j2 j hge] at h; cases h
    ·exact hall j
   have hcnt : cnt listed ops.size = p := by
    unfold cnt
    rw [<- countP_lt ops.size p (by omega)]
    refine List.countP_congr fun j hj => ?_
    rw [hl j (List.mem_range.1 hj)]
    simp
   refine tail_any hok Q fuel p listed a' w' (by omega) (Nat.le_refl _) j1 hl ?_
   have hs : Sim lo base μ Hm w'.heap := by
    have h9 : Sim lo base μ (if listed.getD q false = true then Hm else H) w'.heap := j9
    rw [hall q hqp] at h9
    simpa using h9
   have henv : EnvR μ e3 a' nt := by
    refine ⟨j6,j7,fun t => ?_⟩
    rw [<- hEp]
    rcases j8 t with ⟨i,q1,q2,q3,q4,q5⟩ | ⟨q1,q2⟩
    ·rw [hEA p (Nat.le_refl _) i t q1 q3 (fun j h1 h2 h3 => by have := q4 j h2 (hall j h2) h3; omega)]
     exact q5
    ·rw [hEB p (Nat.le_refl _) t (fun i hi => q1 i hi (hall i hi))]
     exact q2
   refine htail c nt ops (ops.toList.drop p) (cOps_drop p _ _ hc) Q a' w' μ base hs henv fun a2 w2 m2 r1 r2 r3 r4 => ?_
   exact hq a2 w2 m2 (j4.trans r1 hHm) r2 r3 (j11.trans r4)
  intro fuel
  induction fuel with
  | zero =>
    intro listed a' w' μ hf hi
    have hfull := cnt_full (listed := listed) (n := ops.size) (by omega)
    exact fin 0 listed a' w' μ hf hi fun i hi => hfull i (by omega)
  | succ fuel ih =>
    intro listed a' w' μ hf hi
    by_cases hall : ∀ i,i < p -> listed.getD i false = true
    ·exact fin _ listed a' w' μ hf hi hall
    ·have hi' := hi
     obtain ⟨j1,j2,j3,j4,j6,j7,j8,j9,j11⟩ := hi
     obtain ⟨iu,hiu,hiun⟩ : ∃ i,i < p /\ listed.getD i false = false := by
      have h1 := Classical.not_forall.1 hall
      obtain ⟨i,h2⟩ := h1
      have h3 := Classical.not_imp.1 h2
      exact ⟨i,h3.1,by simpa using h3.2⟩
     have hgt : ∀ j,j < ops.size -> listed.getD j true = listed.getD j false := fun j hj => by simp [Array.getD,j1,hj]
     have hclosed : ∀ j,j < ops.size -> (∀ e ∈ (ops.getD j default).after.toList,Region.binds .any e = true -> listed.getD e.on false = true) -> ∀ i,((befs ops ops.size).getD j 0).testBit i = true -> listed.getD i false = true :=
      befs_closed ops (fun j => listed.getD j false = true) (fun j hj hl => j3 j hj hl) ops.size (Nat.le_refl _)
     refine ⟨fun h0 => ?_,fun i0 hi0r => ?_⟩
     ·exfalso
      have hmin : ∀ j,j < ops.size -> listed.getD j false = false -> False := by
       intro j
       induction j using Nat.strongRecOn with
       | _ j ihj =>
         intro hj hun
         have : j ∈ Region.ready .any ops listed := by
          rw [mem_ready]
          refine ⟨by rw [hgt j hj]; exact hun,ops[j],Array.getElem?_eq_getElem hj,fun e he hb => ?_⟩
          have hod : ops.getD j default = ops[j] := by simp [Array.getD,hj]
          have hlt := hedge j hj e (by rw [hod]; simpa using he) hb
          cases hle : listed.getD e.on false with
          | true => rfl
          | false => exact (ihj e.on hlt (by omega) hle).elim
         rw [h0] at this
         cases this
      exact hmin iu (by omega) hiun
     ·rw [mem_ready] at hi0r
      obtain ⟨r1,o,r2,r3⟩ := hi0r
      have hi0n : i0 < ops.size := (Array.getElem?_eq_some_iff.1 r2).1
      have hoe : o = ops[i0] := by rw [Array.getElem?_eq_getElem hi0n] at r2; exact (Option.some.inj r2).symm
      have hod : ops.getD i0 default = o := by rw [hoe]; simp [Array.getD,hi0n]
      have hun : listed.getD i0 false = false := by rw [<- hgt i0 hi0n]; exact r1
      have hdeps : ∀ e ∈ (ops.getD i0 default).after.toList,Region.binds .any e = true -> listed.getD e.on false = true := fun e he hb => r3 e (by rw [hod] at he; simpa using he) hb
      have hi0 : i0 < p := by
       rcases Nat.lt_or_ge i0 p with hlt | hge
       ·exact hlt
       ·exfalso
        rcases hpair i0 hi0n iu (by omega) with hb | ⟨hb,_⟩
        ·have := hclosed i0 hi0n hdeps iu hb
         rw [hiun] at this; cases this
        ·omega
      obtain ⟨hi0n',o',q1,q2⟩ := hop i0 hi0
      rw [<- hoe] at q2
      obtain ⟨g1,g2,g3,g4⟩ := cOper_spec q2
      obtain ⟨oi,s1,sg,s2,s3,s4⟩ := hstep i0 hi0
      rw [q1] at s1
      cases s1
      have hval : ∀ t,t ∈ o.looksAt ops -> VR μ (E i0 t) (a'.tmps.getD t undef) := by
       intro t ht
       have hbefore : ∀ j,j < i0 -> (ops.getD j default).dst = some t -> listed.getD j false = true := by
        intro j hj hd
        rcases hpair i0 hi0n j hj with hb | ⟨_,hap⟩
        ·exact hclosed i0 hi0n hdeps j hb
        ·exact absurd (by rw [hod]; exact ht) ((Oper.apart_spec hap).1 t hd)
       have hafter : ∀ j,j < p -> i0 < j -> (ops.getD j default).dst = some t -> listed.getD j false = false := by
        intro j hj hlt hd
        cases hlj : listed.getD j false with
        | false => rfl
        | true =>
          exfalso
          rcases hpair j (by omega) i0 hlt with hb | ⟨_,hap⟩
          ·have := hclosed j (by omega) (fun e he hb => j3 j (by omega) hlj e he hb) i0 hb
           rw [hun] at this; cases this
          ·exact (Oper.apart_spec hap).2.2 t hd (by rw [hod]; exact ht)
       rcases j8 t with ⟨i,z1,z2,z3,z4,z5⟩ | ⟨z1,z2⟩
       ·have hii : i < i0 := by
         rcases Nat.lt_or_ge i i0 with hlt | hge
         ·exact hlt
         ·exfalso
          rcases Nat.eq_or_lt_of_le hge with he | hlt
          ·subst he; rw [hun] at z2; cases z2
          ·rw [hafter i z1 hlt z3] at z2; cases z2
        rw [hEA i0 (by omega) i t hii z3 (fun j h1 h2 h3 => by have := z4 j (by omega) (hbefore j h2 h3) h3; omega)]
        exact z5
       ·rw [hEB i0 (by omega) t (fun j hj hd => z1 j (by omega) (hbefore j hj hd) hd)]
        exact z2
      have hwant : Region.wanted o (yielded ops a'.tmps) = o'.runs (E i0) := runs_wanted (m := μ) (e := E i0) (a := a') g4 (fun g wv hg => by rw [sg] at hg; cases hg)
      have hrun : o'.runs (E i0) = true := by rw [IOper.runs,sg]
      have hdok : dstOk nt (ops.getD i0 default).dst = true := by rw [hod,g2]; exact g3
      have hcnt := cnt_set listed ops.size i0 j1 hi0n hun
      have hoku : OkU μ (E i0) a' o.op.operands := by
       intro t ht
       have : VR μ (E i0 t) (a'.tmps.getD t undef) := hval t (by
        unfold Oper.looksAt
        refine List.mem_append_left _ (List.mem_filterMap.2 ⟨.tmp t,by simpa using ht,rfl⟩))
       simpa [Act.eval] using this
      unfold wpOp
      rw [r2]
      simp only
      rw [hwant,hrun]
      simp only [if_true]
      left
      have hnext : ∀ v' w'' m',MM.agree (Hc listed).length μ m' -> Sim lo base m' (Hc (listed.setIfInBounds i0 true)) w''.heap -> VR m' (V i0) v' -> Kept base w' w'' -> wpAny P .any ops Q fuel (listed.setIfInBounds i0 true) (a'.put o'.dst v') w'' := by
       intro v' w'' m' z1 z2 z3 z4
       have hinv := step listed a' w' μ hi' i0 hi0 hun hdeps v' w'' m' z1 z2 z3 z4 hdok
       rw [hod] at hinv
       rw [<- g2]
       exact ih _ _ _ m' (by omega) hinv
      by_cases hiq : i0 = q
      ·have hsq : (Hc (listed.setIfInBounds i0 true)) = Hm := by
        show (if (listed.setIfInBounds i0 true).getD q false = true then Hm else H) = Hm
        rw [hiq,show (listed.setIfInBounds q true).getD q false = true by simp [j1]; omega]
        simp
       have hlq : Hc listed = H := by
        show (if listed.getD q false = true then Hm else H) = H
        rw [<- hiq,hun]; simp
       have j9' : Sim lo base μ H w'.heap := by rw [<- hlq]; exact j9
       rw [hsq,hlq] at hnext
       obtain rfl := s4 hiq
       have hEi : E i0 = e1 := by rw [hiq]; exact hEq
       have hVi : V i0 = vq := by rw [hiq]; exact hVq
       rw [hVi] at hnext
       rw [hEi] at hoku
       exact hopq c o g1 g2 a' w' μ base j9' hoku _ Q hnext
      ·have hsq : (Hc (listed.setIfInBounds i0 true)) = Hc listed := by
        show (if (listed.setIfInBounds i0 true).getD q false = true then Hm else H) = (if listed.getD q false = true then Hm else H)
        rw [getD_set_ne false hiq]
       rw [hsq] at hnext
       have hio : iop lo o'.op (E i0) (Hc listed) = some (V i0,Hc listed) := by
        show iop lo o'.op (E i0) (if listed.getD q false = true then Hm else H) = some (V i0,if listed.getD q false = true then Hm else H)
        split
        ·exact (s3 hiq).2
        ·exact (s3 hiq).1
       exact op_of_does g2 (prim_sound g1 hio j9 hoku) _ Q hnext
 exact main ops.size _ a _ m (by
  have : cnt (Array.replicate ops.size false) ops.size = 0 := by
   unfold cnt
   rw [List.countP_eq_zero]
   intro j _
   rw [Array.getD_eq_getD_getElem?,Array.getElem?_replicate]
   split <;> simp
  omega) hinv0
theorem pure_step {F : Nat -> Option IFn} {lo : Nat} {d : Option Nat} {o : IOp} {e e1 : Env} {H H1 : Heap} {x : X} (hp : pureI o = true) (h : BS F lo (.op d o) e H x e1 H1) : ∃ v,e1 = putE e d v /\ ∀ (lo : Nat) (H : Heap),iop lo o e H = some (v,H) := by
 cases h with
 | prim hi => exact ⟨_,rfl,iop_pure hp hi⟩
 | callN => cases hp
 | callK => cases hp
 | callQ => cases hp
theorem sound {P : Program} {F : Nat -> Option IFn} {cm : Nat -> CM} (hF : ∀ g fn,F g = some fn -> cFn P cm g = some fn) (hm : P.follows .mixedOrders = true)
  {lo : Nat} {t : Task} {e : Env} {H : Heap} {x : X} {e1 : Env} {H1 : Heap} (h : BS F lo t e H x e1 H1) : TaskS P lo t e H x e1 H1 := by
 induction h with
 | skip =>
   intro c nt co hc Q a w m base s he hq
   cases co <;> simp [cCode,Option.map_eq_some_iff,Option.bind_eq_some_iff] at hc
   ·exact wp_skip (hq a w m (MM.agree.refl _ _) s he (Kept.refl _ _))
   ·revert hc; repeat' split
    all_goals first | (simp; done) | (intro hc; obtain ⟨l',_,h2⟩ := Option.bind_eq_some_iff.1 hc; split at h2 <;> simp at h2)
 | reg hb ih =>
   intro c nt co hc Q a w m base s he hq
   cases co <;> simp only [cCode,Option.map_eq_some_iff,Option.bind_eq_some_iff] at hc <;> try (cases hc; done)
   case region id ops d =>
    cases d with
    | true =>
      exfalso; rw [if_pos rfl] at hc; revert hc; split
      all_goals first | (simp; done) | (intro hc; obtain ⟨l',_,h2⟩ := Option.bind_eq_some_iff.1 hc; split at h2 <;> simp at h2)
    | false =>
      simp at hc
      exact wp_region_list (ih c nt ops ops.toList hc Q a w m base s he hq)
   all_goals (exfalso; simp at hc)
 | regD hb ih =>
   intro c nt co hc Q a w m base s he hq
   cases co <;> simp only [cCode,Option.map_eq_some_iff,Option.bind_eq_some_iff] at hc <;> try (cases hc; done)
   case region id ops d =>
    cases d with
    | false => simp at hc
    | true =>
      simp only [if_true] at hc
      split at hc
      case isFalse => cases hc
      case isTrue hok =>
       obtain ⟨l',h1,hc⟩ := Option.bind_eq_some_iff.1 hc
       split at hc
       case isFalse => cases hc
       case isTrue hokn =>
        rcases regK_cases (Option.some.inj hc) with h2 | ⟨_,_,_,h2⟩
        ·simp only [ICode.reg.injEq,Option.some.injEq] at h2
         obtain ⟨rfl,rfl⟩ := h2
         exact draw_sound hm ih h1 hok Q a w m base s he hq
        ·cases h2
   all_goals (exfalso; simp at hc)
 | regX hX hb ih =>
   intro c nt co hc Q a w m base s he hq
   cases co <;> simp only [cCode,Option.map_eq_some_iff,Option.bind_eq_some_iff] at hc <;> try (cases hc; done)
   case region id ops d =>
    cases d with
    | false => simp at hc
    | true =>
      simp only [if_true] at hc
      split at hc
      case isFalse => cases hc
      case isTrue hok =>
       obtain ⟨l',h1,hc⟩ := Option.bind_eq_some_iff.1 hc
       split at hc
       case isFalse => cases hc
       case isTrue hokn =>
        rcases regK_cases (Option.some.inj hc) with h2 | ⟨_,_,_,h2⟩
        ·simp only [ICode.reg.injEq,Option.some.injEq] at h2
         obtain ⟨rfl,rfl⟩ := h2
         exact drawx_sound hm ih (fun b hb => (hX b hb).2) h1 hok hokn Q a w m base s he hq
        ·cases h2
   all_goals (exfalso; simp at hc)
 | regW hb ih =>
   intro c nt co hc Q a w m base s he hq
   cases co <;> simp only [cCode,Option.map_eq_some_iff,Option.bind_eq_some_iff] at hc <;> try (cases hc; done)
   case region id ops d =>
    cases d with
    | false => simp at hc
    | true =>
      simp only [if_true] at hc
      split at hc
      case isFalse => cases hc
      case isTrue hok =>
       obtain ⟨l',h1,hc⟩ := Option.bind_eq_some_iff.1 hc
       split at hc
       case isFalse => cases hc
       case isTrue hokn =>
        rcases regK_cases (Option.some.inj hc) with h2 | ⟨q,h3,h4,h2⟩
        ·cases h2
        ·simp only [ICode.regW.injEq] at h2
         obtain ⟨rfl,rfl⟩ := h2
         rw [h3] at hok
         exact drawW_sound hm ih h1 hok h4 Q a w m base s he hq
   all_goals (exfalso; simp at hc)
 | regV hf1 hov hg h1 hf2 h2 ih1 ih2 =>
   intro c nt co hc Q a w m base s he hq
   cases co <;> simp only [cCode,Option.map_eq_some_iff,Option.bind_eq_some_iff] at hc <;> try (cases hc; done)
   case region id ops d =>
    cases d with
    | false => simp at hc
    | true =>
      simp only [if_true] at hc
      split at hc
      case isFalse => cases hc
      case isTrue hok =>
       obtain ⟨l',h3,hc⟩ := Option.bind_eq_some_iff.1 hc
       split at hc
       case isFalse => cases hc
       case isTrue hokn =>
        rcases regK_cases (Option.some.inj hc) with h4 | ⟨_,_,_,h4⟩
        ·simp only [ICode.reg.injEq,Option.some.injEq] at h4
         obtain ⟨h5,rfl⟩ := h4
         exact drawV_sound hm hf1 hov hg ih1 h1.ext.1 hf2 ih2 h3 (h5 ▸ hok) Q a w m base s he hq
        ·cases h4
   all_goals (exfalso; simp at hc)
 | seqN h1 h2 ih1 ih2 =>
   intro c nt co hc Q a w m base s he hq
   cases co <;> simp only [cCode,Option.map_eq_some_iff,Option.bind_eq_some_iff] at hc <;> try (cases hc; done)
   case seq x y =>
    obtain ⟨x',q1,y',q2,q3⟩ := hc
    simp only [ICode.seq.injEq] at q3
    obtain ⟨rfl,rfl⟩ := q3
    refine wp_seq (ih1 c nt x q1 _ a w m base s he fun a1 w1 m1 r1 r2 r3 r4 => ?_)
    exact ih2 c nt y q2 Q a1 w1 m1 base r2 r3 fun a2 w2 m2 r5 r6 r7 r8 => hq a2 w2 m2 (r1.trans r5 h1.ext.1) r6 r7 (r4.trans r8)
   case region => exfalso; revert hc; repeat' split
                  all_goals first | (simp; done) | (intro hc; obtain ⟨l',_,h2⟩ := Option.bind_eq_some_iff.1 hc; split at h2 <;> simp at h2)
   all_goals (exfalso; simp at hc)
 | seqX hx h1 ih1 =>
   intro c nt co hc Q a w m base s he hq
   cases co <;> simp only [cCode,Option.map_eq_some_iff,Option.bind_eq_some_iff] at hc <;> try (cases hc; done)
   case seq x y =>
    obtain ⟨x',q1,y',q2,q3⟩ := hc
    simp only [ICode.seq.injEq] at q3
    obtain ⟨rfl,rfl⟩ := q3
    exact wp_seq (ih1 c nt x q1 _ a w m base s he fun a1 w1 m1 r1 r2 r3 r4 => X.toExit_ne hx Q Q _ _ _ (hq a1 w1 m1 r1 r2 r3 r4))
   case region => exfalso; revert hc; repeat' split
                  all_goals first | (simp; done) | (intro hc; obtain ⟨l',_,h2⟩ := Option.bind_eq_some_iff.1 hc; split at h2 <;> simp at h2)
   all_goals (exfalso; simp at hc)
 | @cond lo cd ca cb e H e1 H1 x t ht h1 ih1 =>
   intro c nt co hc Q a w m base s he hq
   cases co <;> simp only [cCode,Option.map_eq_some_iff,Option.bind_eq_some_iff] at hc <;> try (cases hc; done)
   case cond q x y =>
    obtain ⟨q',q0,x',q1,y',q2,q3⟩ := hc
    simp only [ICode.cond.injEq] at q3
    obtain ⟨rfl,rfl,rfl⟩ := q3
    have hv := (he.okU #[q]).ev (x := q) (by simp) q0
    rw [ht] at hv
    refine wp_cond (hv.bool) ?_
    cases t with
    | true => exact ih1 c nt x q1 Q a w m base s he hq
    | false => exact ih1 c nt y q2 Q a w m base s he hq
   case region => exfalso; revert hc; repeat' split
                  all_goals first | (simp; done) | (intro hc; obtain ⟨l',_,h2⟩ := Option.bind_eq_some_iff.1 hc; split at h2 <;> simp at h2)
   all_goals (exfalso; simp at hc)
 | @block lo id ic e H e1 H1 x h1 ih1 =>
   intro c nt co hc Q a w m base s he hq
   cases co <;> simp only [cCode,Option.map_eq_some_iff,Option.bind_eq_some_iff] at hc <;> try (cases hc; done)
   case block id' y =>
    obtain ⟨y',q1,q3⟩ := hc
    simp only [ICode.block.injEq] at q3
    obtain ⟨rfl,rfl⟩ := q3
    refine wp_block (ih1 c nt y q1 _ a w m base s he fun a1 w1 m1 r1 r2 r3 r4 => ?_)
    have := hq a1 w1 m1 r1 r2 r3 r4
    cases x with
    | n => exact this
    | r => exact this
    | e i =>
      simp only [X.out] at this
      simp only [X.toExit,Exit.inBlock]
      split at this
      ·rename_i hi; rw [if_pos hi]; exact this
      ·rename_i hi; rw [if_neg hi]; exact this
   case region => exfalso; revert hc; repeat' split
                  all_goals first | (simp; done) | (intro hc; obtain ⟨l',_,h2⟩ := Option.bind_eq_some_iff.1 hc; split at h2 <;> simp at h2)
   all_goals (exfalso; simp at hc)
 | loop h1 ih1 =>
   intro c nt co hc Q a w m base s he hq
   cases co <;> simp only [cCode,Option.map_eq_some_iff,Option.bind_eq_some_iff] at hc <;> try (cases hc; done)
   case loop y =>
    obtain ⟨y',q1,q3⟩ := hc
    simp only [ICode.loop.injEq] at q3
    subst q3
    intro b k cs
    obtain ⟨ex,a',w',g1,g2⟩ := ih1 c nt y q1 Q a w m base s he hq b k cs
    exact ⟨ex,a',w',g1,.of_steps (.one step_loop) g2⟩
   case region => exfalso; revert hc; repeat' split
                  all_goals first | (simp; done) | (intro hc; obtain ⟨l',_,h2⟩ := Option.bind_eq_some_iff.1 hc; split at h2 <;> simp at h2)
   all_goals (exfalso; simp at hc)
 | lpN h1 h2 ih1 ih2 =>
   intro c nt co hc Q a w m base s he hq b k cs
   let Q' : Exit -> Act -> World -> Prop := fun ex a1 w1 => ex = .normal /\ ∃ ex a' w',Q ex a' w' /\ Arrives P (lone (b.at a1 (.code co :: .inLoop co :: k)) cs w1) b k cs ex a' w'
   have hw : co.wp P Q' a w := ih1 c nt co hc Q' a w m base s he fun a1 w1 m1 r1 r2 r3 r4 =>
    ⟨rfl,ih2 c nt co hc Q a1 w1 m1 base r2 r3 (fun a2 w2 m2 r5 r6 r7 r8 => hq a2 w2 m2 (r1.trans r5 h1.ext.1) r6 r7 (r4.trans r8)) b k cs⟩
   obtain ⟨ex,a1,w1,⟨rfl,ex2,a2,w2,g1,g2⟩,g3⟩ := hw b (.inLoop co :: k) cs
   exact ⟨ex2,a2,w2,g1,.of_steps (Steps.trans g3 (.one step_inLoop)) g2⟩
 | @lpX lo ic e H e1 H1 x hx h1 ih1 =>
   intro c nt co hc Q a w m base s he hq b k cs
   let Q' : Exit -> Act -> World -> Prop := fun ex a1 w1 => ex ≠ .normal /\ Q ex a1 w1
   have hw : co.wp P Q' a w := ih1 c nt co hc Q' a w m base s he fun a1 w1 m1 r1 r2 r3 r4 => ⟨by cases x <;> simp_all [X.toExit],hq a1 w1 m1 r1 r2 r3 r4⟩
   obtain ⟨ex,a1,w1,⟨hne,g1⟩,g3⟩ := hw b (.inLoop co :: k) cs
   exact ⟨ex,a1,w1,g1,.pass (x := .inLoop co) rfl (fun _ _ => .inl hne) g3⟩
 | exit =>
   intro c nt co hc Q a w m base s he hq
   cases co <;> simp only [cCode,Option.map_eq_some_iff,Option.bind_eq_some_iff] at hc <;> try (cases hc; done)
   case exit id =>
    simp only [Option.some.injEq,ICode.exit.injEq] at hc
    subst hc
    exact wp_exit (hq a w m (MM.agree.refl _ _) s he (Kept.refl _ _))
   case region => exfalso; revert hc; repeat' split
                  all_goals first | (simp; done) | (intro hc; obtain ⟨l',_,h2⟩ := Option.bind_eq_some_iff.1 hc; split at h2 <;> simp at h2)
   all_goals (exfalso; simp at hc)
 | ret =>
   intro c nt co hc Q a w m base s he hq
   cases co <;> simp only [cCode,Option.map_eq_some_iff,Option.bind_eq_some_iff] at hc <;> try (cases hc; done)
   case ret => exact wp_ret (hq a w m (MM.agree.refl _ _) s he (Kept.refl _ _))
   case region => exfalso; revert hc; repeat' split
                  all_goals first | (simp; done) | (intro hc; obtain ⟨l',_,h2⟩ := Option.bind_eq_some_iff.1 hc; split at h2 <;> simp at h2)
   all_goals (exfalso; simp at hc)
 | nil =>
   intro c nt ops os hc Q a w m base s he hq
   cases os with
   | nil => exact wpList_nil (hq a w m (MM.agree.refl _ _) s he (Kept.refl _ _))
   | cons o r =>
     simp only [cOps,Option.bind_eq_some_iff,Option.map_eq_some_iff] at hc
     obtain ⟨_,_,_,_,h⟩ := hc
     cases h
 | skp hr h1 ih1 =>
   intro c nt ops os hc Q a w m base s he hq
   obtain ⟨o,r,rfl,h2,h3⟩ := cOps_cons hc
   obtain ⟨g1,g2,g3,g4⟩ := cOper_spec h2
   have hw := runs_wanted (a := a) g4 (fun g w _ => he.val g)
   refine wpList_step fun K hK => ?_
   rw [hw,hr]
   simp only [Bool.false_eq_true,if_false]
   refine hK _ _ (ih1 c nt ops r h3 Q _ w m base s ?_ hq)
   rw [g2]
   exact he.put (fun _ _ h => h) _ VR.undef g3
 | cons hr h1 h2 ih1 ih2 =>
   intro c nt ops os hc Q a w m base s he hq
   obtain ⟨o,r,rfl,h3,h4⟩ := cOps_cons hc
   obtain ⟨g1,g2,g3,g4⟩ := cOper_spec h3
   have hw := runs_wanted (a := a) g4 (fun g w _ => he.val g)
   refine wpList_step fun K hK => ?_
   rw [hw,hr]
   simp only [if_true]
   obtain ⟨v,rfl,hop⟩ := ih1
   refine hop c o g1 g2 a w m base s (he.okU _) K Q fun v' w' m' r1 r2 r3 r4 => ?_
   refine hK _ _ (ih2 c nt ops r h4 Q _ w' m' base r2 (he.put (r1.sub s.dom) _ r3 g3) fun a2 w2 m2 r5 r6 r7 r8 => ?_)
   exact hq a2 w2 m2 (r1.trans r5 h1.ext.1) r6 r7 (r4.trans r8)
 | px0 h1 ih1 => exact ih1
 | pxSkp hr h1 ih1 => exact ⟨_,_,.inl ⟨hr,rfl,rfl⟩,ih1⟩
 | pxA hr hn h1 h2 ih1 ih2 => exact ⟨_,_,.inr (.inl ⟨hr,hn,_,rfl,ih1⟩),ih2⟩
 | pxB G hr hn hd hs hl hx hc h1 h2 ih1 ih2 => exact ⟨_,_,.inr (.inr (.inl ⟨hr,hn,_,_,hd,rfl,hs,hl,hx,hc,fun E => ⟨G E,ih1 E⟩⟩)),ih2⟩
 | pxN hr hn h1 hx h2 ih1 ih2 => exact ⟨_,_,.inr (.inr (.inr ⟨hr,hn,h1.ext.1,hx,ih1⟩)),ih2⟩
 | pw0 hr h1 h2 ih1 ih2 => exact ⟨_,_,hr,h1.ext.1,ih1,ih2⟩
 | pwSkp hr h1 ih1 => exact ⟨_,_,.inl ⟨hr,rfl,rfl⟩,fun hg hx => (by simp [IOper.runs,hg] at hr),Ext.refl _ _,ih1⟩
 | pwCons hr h1 h2 ih1 ih2 =>
   exact ⟨_,_,.inr ⟨hr,ih1⟩,fun hg hx => pure_step hx h1,h1.ext,ih2⟩
 | pre0 h1 ih1 => exact ih1
 | preSkp hr h1 ih1 => exact ⟨_,_,.inl ⟨hr,rfl,rfl⟩,Ext.refl _ _,ih1⟩
 | preCons hr h1 h2 ih1 ih2 => exact ⟨_,_,.inr ⟨hr,ih1⟩,h1.ext,ih2⟩
 | prim hi =>
   refine ⟨_,rfl,fun c o hc hd a w m base s u next Q hn => ?_⟩
   exact op_of_does hd (prim_sound hc hi s u) next Q hn
 | callN hf hFg hlen h1 hx hres ih1 =>
   refine ⟨_,rfl,fun c o hc hd a w m base s u next Q hn => ?_⟩
   have hcf := hF _ _ hFg
   refine call_op hc hf hcf u next Q fun vals' hv => ?_
   exact call_core hcf hlen ih1 hx hres s hv _ fun v' w' m' r1 r2 r3 r4 => hd ▸ hn v' w' m' r1 r2 r3 r4
 | callK hf hFg hlen h1 hx hres ih1 =>
   refine ⟨_,rfl,fun c o hc hd a w m base s u next Q hn => ?_⟩
   have hcf := hF _ _ hFg
   refine call_op hc hf hcf u next Q fun vals' hv => ?_
   exact call_core hcf hlen ih1 hx hres s.shut hv _ fun v' w' m' r1 r2 r3 r4 => hd ▸ hn v' w' m' r1 (s.back r2 r1 h1.ext r4.block) r3 (r4.mono s.bnd)
 | callQ hf hFg hlen h1 hx hres hsc ih1 =>
   refine ⟨_,rfl,fun c o hc hd a w m base s u next Q hn => ?_⟩
   have hcf := hF _ _ hFg
   refine call_op hc hf hcf u next Q fun vals' hv => ?_
   exact call_core hcf hlen ih1 hx hres s.shut hv _ fun v' w' m' r1 r2 r3 r4 => hd ▸ hn v' w' m (MM.agree.refl _ _) (s.later r4.size r4.block) (scal_VR hsc r3) (r4.mono s.bnd)
end Go.Proofs.YtbjeldblaclpnaaGreatI
end
end
