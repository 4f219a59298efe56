/- Texts of this proof, merged: M4. -/
import Derived.Test.YtbjeldblaclpnaaGreatPz3
section
section
set_option linter.unusedVariables false
set_option linter.unusedSimpArgs false
namespace Go.Proofs.YtbjeldblaclpnaaGreatI
open Go Go.RowKit
section
variable (F : Nat -> Option IFn)
def QC (f : Nat) (args : List Value) (H : Heap) (v : Value) : Prop :=
 ∃ fn x e1 H1,F f = some fn /\ args.length = fn.np /\ BS F H.length (.code fn.body) (ini args) H x e1 H1 /\ (x = .n \/ x = .r) /\ resV fn.res e1 H1 = some v /\ scal v = true
def KC (f : Nat) (args : List Value) (H : Heap) (v : Value) (H1 : Heap) : Prop :=
 ∃ fn x e1,F f = some fn /\ args.length = fn.np /\ BS F H.length (.code fn.body) (ini args) H x e1 H1 /\ (x = .n \/ x = .r) /\ resV fn.res e1 H1 = some v
def NC (lo : Nat) (f : Nat) (args : List Value) (H : Heap) (v : Value) (H1 : Heap) : Prop :=
 ∃ fn x e1,F f = some fn /\ args.length = fn.np /\ BS F lo (.code fn.body) (ini args) H x e1 H1 /\ (x = .n \/ x = .r) /\ resV fn.res e1 H1 = some v
def W (lo : Nat) (t : Task) (e : Env) (H : Heap) (K : X -> Env -> Heap -> Prop) : Prop := ∃ x e1 H1,BS F lo t e H x e1 H1 /\ K x e1 H1
def wpOp (lo : Nat) (o : IOp) (e : Env) (H : Heap) (K : Value -> Heap -> Prop) : Prop :=
 match o with
 | .call m f args => ∃ g first cap,f.ev e = .func (.func g) first cap /\ (match m with
   | .q => ∃ v,QC F g (first.toList ++ args.map (·.ev e) ++ cap.toList) H v /\ K v H
   | .k => ∃ v H1,KC F g (first.toList ++ args.map (·.ev e) ++ cap.toList) H v H1 /\ K v H1
   | .n => ∃ v H1,NC F lo g (first.toList ++ args.map (·.ev e) ++ cap.toList) H v H1 /\ K v H1)
 | o => ∃ v H1,iop lo o e H = some (v,H1) /\ K v H1
def wpo (lo : Nat) : List IOper -> Env -> Heap -> (Env -> Heap -> Prop) -> Prop
 | [],e,H,K => K e H
 | o :: r,e,H,K => (o.runs e = true -> wpOp F lo o.op e H fun v H1 => wpo lo r (putE e o.dst v) H1 K) /\ (o.runs e = false -> wpo lo r (putE e o.dst undef) H K)
def wpp (lo : Nat) : Nat -> List IOper -> Env -> Heap -> (Env -> Heap -> Prop) -> Prop
 | 0,l,e,H,K => wpo F lo l e H K
 | _ + 1,[],e,H,K => False
 | p + 1,o :: r,e,H,K => (o.runs e = true -> wpOp F H.length o.op e H fun v H1 => wpp lo p r (putE e o.dst v) H1 K) /\ (o.runs e = false -> wpp lo p r (putE e o.dst undef) H K)
def wpw (lo : Nat) : Nat -> List IOper -> Env -> Heap -> (Env -> Heap -> Prop) -> Prop
 | 0,o :: r,e,H,K => o.guard = none /\ wpo F lo (o :: r) e H K
 | p + 1,o :: r,e,H,K => (o.runs e = true -> wpOp F H.length o.op e H fun v H1 => wpw lo p r (putE e o.dst v) H1 K) /\ (o.runs e = false -> wpw lo p r (putE e o.dst undef) H K)
 | _,[],e,H,K => False
def thenX (x : X) (e : Env) (H : Heap) (K1 : Env -> Heap -> Prop) (K : X -> Env -> Heap -> Prop) : Prop :=
 match x with
 | .n => K1 e H
 | x => K x e H
def wpc (lo : Nat) (c : ICode) (e : Env) (H : Heap) (K : X -> Env -> Heap -> Prop) : Prop := W F lo (.code c) e H K
end
section
variable {F : Nat -> Option IFn} {lo : Nat} {e : Env} {H : Heap}
theorem wpOp_sound {d : Option Nat} {o : IOp} {K : Value -> Heap -> Prop} (h : wpOp F lo o e H K) : ∃ v H1,BS F lo (.op d o) e H .n (putE e d v) H1 /\ K v H1 := by
 unfold wpOp at h
 split at h
 ·obtain ⟨g,first,cap,hf,h⟩ := h
  split at h
  ·obtain ⟨v,⟨fn,x,e1,H1,h1,h2,h3,h4,h5,h6⟩,hk⟩ := h
   exact ⟨v,H,BS.callQ hf h1 h2 h3 h4 h5 h6,hk⟩
  ·obtain ⟨v,H1,⟨fn,x,e1,h1,h2,h3,h4,h5⟩,hk⟩ := h
   exact ⟨v,H1,BS.callK hf h1 h2 h3 h4 h5,hk⟩
  ·obtain ⟨v,H1,⟨fn,x,e1,h1,h2,h3,h4,h5⟩,hk⟩ := h
   exact ⟨v,H1,BS.callN hf h1 h2 h3 h4 h5,hk⟩
 ·obtain ⟨v,H1,hi,hk⟩ := h
  exact ⟨v,H1,BS.prim hi,hk⟩
theorem wpo_sound : ∀ {l : List IOper} {e : Env} {H : Heap} {K : Env -> Heap -> Prop},wpo F lo l e H K -> ∃ e1 H1,BS F lo (.ops l) e H .n e1 H1 /\ K e1 H1
 | [],e,H,K,h => ⟨e,H,BS.nil,h⟩
 | o :: r,e,H,K,h => by
   cases hr : o.runs e with
   | true =>
     obtain ⟨v,H1,h1,h2⟩ := wpOp_sound (d := o.dst) (h.1 hr)
     obtain ⟨e2,H2,h3,h4⟩ := wpo_sound h2
     exact ⟨e2,H2,BS.cons hr h1 h3,h4⟩
   | false =>
     obtain ⟨e2,H2,h3,h4⟩ := wpo_sound (h.2 hr)
     exact ⟨e2,H2,BS.skp hr h3,h4⟩
theorem wpp_sound : ∀ {p : Nat} {l : List IOper} {e : Env} {H : Heap} {K : Env -> Heap -> Prop},wpp F lo p l e H K -> ∃ e1 H1,BS F lo (.pre p l) e H .n e1 H1 /\ K e1 H1
 | 0,l,e,H,K,h => by
   obtain ⟨e2,H2,h3,h4⟩ := wpo_sound (h : wpo F lo l e H K)
   exact ⟨e2,H2,BS.pre0 h3,h4⟩
 | p + 1,[],e,H,K,h => h.elim
 | p + 1,o :: r,e,H,K,h => by
   cases hr : o.runs e with
   | true =>
     obtain ⟨v,H1,h1,h2⟩ := wpOp_sound (d := o.dst) (h.1 hr)
     obtain ⟨e2,H2,h3,h4⟩ := wpp_sound h2
     exact ⟨e2,H2,BS.preCons hr h1 h3,h4⟩
   | false =>
     obtain ⟨e2,H2,h3,h4⟩ := wpp_sound (h.2 hr)
     exact ⟨e2,H2,BS.preSkp hr h3,h4⟩
theorem wpw_sound : ∀ {p : Nat} {l : List IOper} {e : Env} {H : Heap} {K : Env -> Heap -> Prop},wpw F lo p l e H K -> ∃ e1 H1,BS F lo (.prw p l) e H .n e1 H1 /\ K e1 H1
 | 0,[],e,H,K,h => h.elim
 | 0,o :: r,e,H,K,h => by
   obtain ⟨hg,h⟩ := h
   have hr : o.runs e = true := by rw [IOper.runs,hg]
   obtain ⟨v,H1,h1,h2⟩ := wpOp_sound (d := o.dst) (h.1 hr)
   obtain ⟨e2,H2,h3,h4⟩ := wpo_sound h2
   exact ⟨e2,H2,BS.pw0 hr h1 h3,h4⟩
 | p + 1,[],e,H,K,h => h.elim
 | p + 1,o :: r,e,H,K,h => by
   cases hr : o.runs e with
   | true =>
     obtain ⟨v,H1,h1,h2⟩ := wpOp_sound (d := o.dst) (h.1 hr)
     obtain ⟨e2,H2,h3,h4⟩ := wpw_sound h2
     exact ⟨e2,H2,BS.pwCons hr h1 h3,h4⟩
   | false =>
     obtain ⟨e2,H2,h3,h4⟩ := wpw_sound (h.2 hr)
     exact ⟨e2,H2,BS.pwSkp hr h3,h4⟩
variable {K : X -> Env -> Heap -> Prop}
theorem wpc_reg {l : List IOper} (h : wpo F lo l e H (K .n)) : wpc F lo (.reg none l) e H K :=
 let ⟨e1,H1,h1,h2⟩ := wpo_sound h; ⟨.n,e1,H1,BS.reg h1,h2⟩
theorem wpc_regD {p : Nat} {l : List IOper} (h : wpp F lo p l e H (K .n)) : wpc F lo (.reg (some p) l) e H K :=
 let ⟨e1,H1,h1,h2⟩ := wpp_sound h; ⟨.n,e1,H1,BS.regD h1,h2⟩
theorem wpc_regW {p : Nat} {l : List IOper} (h : wpw F lo p l e H (K .n)) : wpc F lo (.regW p l) e H K :=
 let ⟨e1,H1,h1,h2⟩ := wpw_sound h; ⟨.n,e1,H1,BS.regW h1,h2⟩
theorem wpc_regV {p q k : Nat} {l : List IOper} {ov : IOper} {ea : Env} (hp : p = q + 1 + k) (hov : l[q]? = some ov) (hg : ov.guard = none)
  (h : wpOp F lo ov.op ea H fun v Hm => frees lo H Hm q l e ea /\ ∃ eb,frees lo H Hm k (l.drop (q + 1)) (putE ea ov.dst v) eb /\ wpo F lo (l.drop p) eb Hm (K .n)) : wpc F lo (.reg (some p) l) e H K := by
 subst hp
 obtain ⟨v,Hm,h1,h2,eb,h3,h4⟩ := wpOp_sound (d := ov.dst) h
 obtain ⟨e4,H4,h5,h6⟩ := wpo_sound h4
 exact ⟨.n,e4,H4,BS.regV h2 hov hg h1 h3 h5,h6⟩
theorem wpc_skip (h : K .n e H) : wpc F lo .skip e H K := ⟨.n,e,H,BS.skip,h⟩
theorem wpc_ret (h : K .r e H) : wpc F lo .ret e H K := ⟨.r,e,H,BS.ret,h⟩
theorem wpc_exit {i : Nat} (h : K (.e i) e H) : wpc F lo (.exit i) e H K := ⟨.e i,e,H,BS.exit,h⟩
theorem wpc_seq {a b : ICode} (h : wpc F lo a e H fun x e1 H1 => thenX x e1 H1 (fun e2 H2 => wpc F lo b e2 H2 K) K) : wpc F lo (.seq a b) e H K := by
 obtain ⟨x,e1,H1,h1,h2⟩ := h
 cases x with
 | n => obtain ⟨x2,e2,H2,h3,h4⟩ := h2; exact ⟨x2,e2,H2,BS.seqN h1 h3,h4⟩
 | e i => exact ⟨_,e1,H1,BS.seqX (by simp) h1,h2⟩
 | r => exact ⟨_,e1,H1,BS.seqX (by simp) h1,h2⟩
theorem wpc_cond {c : Opd} {a b : ICode} {t : Bool} (hc : c.ev e = .bool t) (h : wpc F lo (if t then a else b) e H K) : wpc F lo (.cond c a b) e H K :=
 let ⟨x,e1,H1,h1,h2⟩ := h; ⟨x,e1,H1,BS.cond hc h1,h2⟩
theorem wpc_block {i : Nat} {c : ICode} (h : wpc F lo c e H fun x e1 H1 => K (x.out i) e1 H1) : wpc F lo (.block i c) e H K :=
 let ⟨x,e1,H1,h1,h2⟩ := h; ⟨_,e1,H1,BS.block h1,h2⟩
theorem wpc_loop {c : ICode} (h : W F lo (.lp c) e H K) : wpc F lo (.loop c) e H K :=
 let ⟨x,e1,H1,h1,h2⟩ := h; ⟨x,e1,H1,BS.loop h1,h2⟩
theorem lp_step {c : ICode} (h : wpc F lo c e H fun x e1 H1 => thenX x e1 H1 (fun e2 H2 => W F lo (.lp c) e2 H2 K) K) : W F lo (.lp c) e H K := by
 obtain ⟨x,e1,H1,h1,h2⟩ := h
 cases x with
 | n => obtain ⟨x2,e2,H2,h3,h4⟩ := h2; exact ⟨x2,e2,H2,BS.lpN h1 h3,h4⟩
 | e i => exact ⟨_,e1,H1,BS.lpX (by simp) h1,h2⟩
 | r => exact ⟨_,e1,H1,BS.lpX (by simp) h1,h2⟩
theorem thenX_n (e : Env) (H : Heap) (K1 : Env -> Heap -> Prop) (K : X -> Env -> Heap -> Prop) : thenX .n e H K1 K = K1 e H := rfl
theorem thenX_e (i : Nat) (e : Env) (H : Heap) (K1 : Env -> Heap -> Prop) (K : X -> Env -> Heap -> Prop) : thenX (.e i) e H K1 K = K (.e i) e H := rfl
theorem thenX_r (e : Env) (H : Heap) (K1 : Env -> Heap -> Prop) (K : X -> Env -> Heap -> Prop) : thenX .r e H K1 K = K .r e H := rfl
theorem out_n (i : Nat) : X.out i .n = .n := rfl
theorem out_r (i : Nat) : X.out i .r = .r := rfl
theorem out_e (i j : Nat) : X.out i (.e j) = if j = i then .n else .e j := rfl
variable {l : List IOper} {b : ICode}
theorem seq_reg (h : wpo F lo l e H fun e1 H1 => wpc F lo b e1 H1 K) : wpc F lo (.seq (.reg none l) b) e H K := wpc_seq (wpc_reg h)
theorem seq_regD {p : Nat} (h : wpp F lo p l e H fun e1 H1 => wpc F lo b e1 H1 K) : wpc F lo (.seq (.reg (some p) l) b) e H K := wpc_seq (wpc_regD h)
theorem seq_regV {p q k : Nat} {ov : IOper} {ea : Env} (hp : p = q + 1 + k) (hov : l[q]? = some ov) (hg : ov.guard = none)
  (h : wpOp F lo ov.op ea H fun v Hm => frees lo H Hm q l e ea /\ ∃ eb,frees lo H Hm k (l.drop (q + 1)) (putE ea ov.dst v) eb /\ wpo F lo (l.drop p) eb Hm fun e1 H1 => wpc F lo b e1 H1 K) : wpc F lo (.seq (.reg (some p) l) b) e H K := wpc_seq (wpc_regV hp hov hg h)
theorem seq_assoc {a c : ICode} (h : wpc F lo (.seq a (.seq b c)) e H K) : wpc F lo (.seq (.seq a b) c) e H K := by
 obtain ⟨x,e1,H1,h1,h2⟩ := h
 cases h1 with
 | seqN g1 g2 =>
   cases g2 with
   | seqN g3 g4 => exact ⟨x,e1,H1,BS.seqN (BS.seqN g1 g3) g4,h2⟩
   | seqX hx g3 => exact ⟨x,e1,H1,BS.seqX hx (BS.seqN g1 g3),h2⟩
 | seqX hx g1 => exact ⟨x,e1,H1,BS.seqX hx (BS.seqX hx g1),h2⟩
theorem seq_skip (h : wpc F lo b e H K) : wpc F lo (.seq .skip b) e H K := wpc_seq (wpc_skip h)
theorem seq_ret (h : K .r e H) : wpc F lo (.seq .ret b) e H K := wpc_seq (wpc_ret h)
theorem seq_exit {i : Nat} (h : K (.e i) e H) : wpc F lo (.seq (.exit i) b) e H K := wpc_seq (wpc_exit h)
theorem seq_cond {c : Opd} {x y : ICode} {t : Bool} (hc : c.ev e = .bool t) (h : wpc F lo (.seq (if t then x else y) b) e H K) : wpc F lo (.seq (.cond c x y) b) e H K := by
 obtain ⟨z,e1,H1,h1,h2⟩ := h
 cases h1 with
 | seqN g1 g2 => exact ⟨z,e1,H1,BS.seqN (BS.cond hc g1) g2,h2⟩
 | seqX hx g1 => exact ⟨z,e1,H1,BS.seqX hx (BS.cond hc g1),h2⟩
theorem seq_block {i : Nat} {c : ICode} (h : wpc F lo c e H fun x e1 H1 => thenX (x.out i) e1 H1 (fun e2 H2 => wpc F lo b e2 H2 K) K) : wpc F lo (.seq (.block i c) b) e H K := wpc_seq (wpc_block h)
section
variable {d : Option Nat} {op : IOp} {r : List IOper} {K : Env -> Heap -> Prop} {p : Nat}
theorem wpo_cons (h : wpOp F lo op e H fun v H1 => wpo F lo r (putE e d v) H1 K) : wpo F lo (⟨d,none,op⟩ :: r) e H K := ⟨fun _ => h,fun h => by simp [IOper.runs] at h⟩
theorem wpo_yes {g : Nat} {w : Bool} (hg : e g = .bool w) (h : wpOp F lo op e H fun v H1 => wpo F lo r (putE e d v) H1 K) : wpo F lo (⟨d,some (g,w),op⟩ :: r) e H K := ⟨fun _ => h,fun h => by simp [IOper.runs,hg] at h⟩
theorem wpo_no {g : Nat} {w : Bool} (hg : e g = .bool (!w)) (h : wpo F lo r (putE e d undef) H K) : wpo F lo (⟨d,some (g,w),op⟩ :: r) e H K := ⟨fun h => by simp [IOper.runs,hg] at h,fun _ => h⟩
theorem wpp_cons (h : wpOp F H.length op e H fun v H1 => wpp F lo p r (putE e d v) H1 K) : wpp F lo (p + 1) (⟨d,none,op⟩ :: r) e H K := ⟨fun _ => h,fun h => by simp [IOper.runs] at h⟩
theorem wpw_cons (h : wpOp F H.length op e H fun v H1 => wpw F lo p r (putE e d v) H1 K) : wpw F lo (p + 1) (⟨d,none,op⟩ :: r) e H K := ⟨fun _ => h,fun h => by simp [IOper.runs] at h⟩
theorem wpp_yes {g : Nat} {w : Bool} (hg : e g = .bool w) (h : wpOp F H.length op e H fun v H1 => wpp F lo p r (putE e d v) H1 K) : wpp F lo (p + 1) (⟨d,some (g,w),op⟩ :: r) e H K := ⟨fun _ => h,fun h => by simp [IOper.runs,hg] at h⟩
theorem wpp_no {g : Nat} {w : Bool} (hg : e g = .bool (!w)) (h : wpp F lo p r (putE e d undef) H K) : wpp F lo (p + 1) (⟨d,some (g,w),op⟩ :: r) e H K := ⟨fun h => by simp [IOper.runs,hg] at h,fun _ => h⟩
end
end
theorem putE_get (e : Env) (d : Nat) (v : Value) (i : Nat) : putE e (some d) v i = if i = d then v else e i := rfl
theorem putE_none (e : Env) (v : Value) : putE e none v = e := rfl
end Go.Proofs.YtbjeldblaclpnaaGreatI
end
section
set_option linter.unusedVariables false
set_option linter.unusedSimpArgs false
namespace Go.Proofs.YtbjeldblaclpnaaGreatI
open Go Go.RowKit
section
variable (F : Nat -> Option IFn) (lo : Nat) (e : Env) (H : Heap)
def Kc (r : List IOper) (d : Option Nat) (e : Env) (K : Env -> Heap -> Prop) (v : Value) (H1 : Heap) : Prop := wpo F lo r (putE e d v) H1 K
def Kp (p : Nat) (r : List IOper) (d : Option Nat) (e : Env) (K : Env -> Heap -> Prop) (v : Value) (H1 : Heap) : Prop := wpp F lo p r (putE e d v) H1 K
def Kw (p : Nat) (r : List IOper) (d : Option Nat) (e : Env) (K : Env -> Heap -> Prop) (v : Value) (H1 : Heap) : Prop := wpw F lo p r (putE e d v) H1 K
@[go_sem] theorem Kw_app (p : Nat) (r : List IOper) (d : Option Nat) (K : Env -> Heap -> Prop) (v : Value) (H1 : Heap) : Kw F lo p r d e K v H1 = wpw F lo p r (putE e d v) H1 K := rfl
@[go_sem] theorem Kc_app (r : List IOper) (d : Option Nat) (K : Env -> Heap -> Prop) (v : Value) (H1 : Heap) : Kc F lo r d e K v H1 = wpo F lo r (putE e d v) H1 K := rfl
@[go_sem] theorem Kp_app (p : Nat) (r : List IOper) (d : Option Nat) (K : Env -> Heap -> Prop) (v : Value) (H1 : Heap) : Kp F lo p r d e K v H1 = wpp F lo p r (putE e d v) H1 K := rfl
@[go_sem] theorem wpo_nil (K : Env -> Heap -> Prop) : wpo F lo [] e H K = K e H := rfl
@[go_sem] theorem wpo_one (d : Option Nat) (op : IOp) (r : List IOper) (K : Env -> Heap -> Prop) : wpo F lo (⟨d,none,op⟩ :: r) e H K = wpOp F lo op e H (Kc F lo r d e K) :=
 propext ⟨fun h => h.1 rfl,wpo_cons⟩
@[go_sem] theorem wpo_on (d : Option Nat) (op : IOp) (r : List IOper) (K : Env -> Heap -> Prop) (g : Nat) (w : Bool) (hg : e g = .bool w) : wpo F lo (⟨d,some (g,w),op⟩ :: r) e H K = wpOp F lo op e H (Kc F lo r d e K) :=
 propext ⟨fun h => h.1 (by simp [IOper.runs,hg]),wpo_yes hg⟩
@[go_sem] theorem wpo_off (d : Option Nat) (op : IOp) (r : List IOper) (K : Env -> Heap -> Prop) (g : Nat) (w : Bool) (hg : e g = .bool (!w)) : wpo F lo (⟨d,some (g,w),op⟩ :: r) e H K = wpo F lo r (putE e d undef) H K :=
 propext ⟨fun h => h.2 (by simp [IOper.runs,hg]),wpo_no hg⟩
@[go_sem] theorem wpw_nil (d : Option Nat) (op : IOp) (r : List IOper) (K : Env -> Heap -> Prop) : wpw F lo 0 (⟨d,none,op⟩ :: r) e H K = wpo F lo (⟨d,none,op⟩ :: r) e H K :=
 propext ⟨fun h => h.2,fun h => ⟨rfl,h⟩⟩
@[go_sem] theorem wpw_one (p : Nat) (d : Option Nat) (op : IOp) (r : List IOper) (K : Env -> Heap -> Prop) : wpw F lo (p + 1) (⟨d,none,op⟩ :: r) e H K = wpOp F H.length op e H (Kw F lo p r d e K) :=
 propext ⟨fun h => h.1 rfl,wpw_cons⟩
@[go_sem] theorem wpp_nil (l : List IOper) (K : Env -> Heap -> Prop) : wpp F lo 0 l e H K = wpo F lo l e H K := rfl
@[go_sem] theorem wpp_one (p : Nat) (d : Option Nat) (op : IOp) (r : List IOper) (K : Env -> Heap -> Prop) : wpp F lo (p + 1) (⟨d,none,op⟩ :: r) e H K = wpOp F H.length op e H (Kp F lo p r d e K) :=
 propext ⟨fun h => h.1 rfl,wpp_cons⟩
@[go_sem] theorem wpp_on (p : Nat) (d : Option Nat) (op : IOp) (r : List IOper) (K : Env -> Heap -> Prop) (g : Nat) (w : Bool) (hg : e g = .bool w) : wpp F lo (p + 1) (⟨d,some (g,w),op⟩ :: r) e H K = wpOp F H.length op e H (Kp F lo p r d e K) :=
 propext ⟨fun h => h.1 (by simp [IOper.runs,hg]),wpp_yes hg⟩
@[go_sem] theorem wpp_off (p : Nat) (d : Option Nat) (op : IOp) (r : List IOper) (K : Env -> Heap -> Prop) (g : Nat) (w : Bool) (hg : e g = .bool (!w)) : wpp F lo (p + 1) (⟨d,some (g,w),op⟩ :: r) e H K = wpp F lo p r (putE e d undef) H K :=
 propext ⟨fun h => h.2 (by simp [IOper.runs,hg]),wpp_no hg⟩
variable (K : Value -> Heap -> Prop)
def pickP (c a b : Value) (K : Value -> Prop) : Prop := match c with
 | .bool t => K (if t then a else b)
 | _ => False
def loadP (H : Heap) (v : Value) (agg : Bool) (n : Nat) (K : Value -> Prop) : Prop := match v with
 | .pointer (some a) => match getCells H a.block a.off n with
   | some cs => match valOf agg cs with
     | some v => K v
     | none => False
   | none => False
 | _ => False
def storeP (lo : Nat) (H : Heap) (v : Value) (n : Nat) (y : Value) (K : Heap -> Prop) : Prop := match v with
 | .pointer (some a) => match H[a.block]? with
   | some k => (lo <= a.block /\ k.solo = true /\ y.cells.toList.length = n /\ a.off + n <= k.cells.length /\ y.cells.toList.all one = true) /\ K (H.set a.block { k with cells := setL k.cells a.off y.cells.toList })
   | none => False
 | _ => False
def optP (o : Option Value) (K : Value -> Prop) : Prop := match o with
 | some v => K v
 | none => False
def iadP (es : Nat) (v w : Value) (K : Value -> Prop) : Prop := match v,w with
 | .slice (some a) n _,.int _ j => (0 <= j /\ j < n) /\ K (ptr a.block (a.off + j.toNat * es))
 | _,_ => False
def lenP (v : Value) (K : Value -> Prop) : Prop := match v with
 | .slice _ n _ => K (.int .i64 n)
 | _ => False
def fadP (off : Nat) (v : Value) (K : Value -> Prop) : Prop := match v with
 | .pointer (some a) => K (ptr a.block (a.off + off))
 | _ => False
def mksP (es et bytes : Nat) (z : List Value) (H : Heap) (v w : Value) (K : Value -> Heap -> Prop) : Prop := match v,w with
 | .int _ n,.int _ n' => (0 <= n /\ n' = n /\ n * bytes <= 140737488355328 /\ n <= 9223372036854775807) /\ K (sli H.length 0 n.toNat) (H ++ [⟨(List.replicate n.toNat z).flatten,es,et,true,true⟩])
 | _,_ => False
@[simp] theorem exK {a : Value} {b : Heap} {K : Value -> Heap -> Prop} : (∃ v H1,(a = v /\ b = H1) /\ K v H1) ↔ K a b := ⟨fun ⟨_,_,⟨h,h'⟩,k⟩ => by subst h; subst h'; exact k,fun k => ⟨_,_,⟨rfl,rfl⟩,k⟩⟩
theorem prim_eq {o : IOp} (ho : ∀ m f args,o ≠ .call m f args) : wpOp F lo o e H K = ∃ v H1,iop lo o e H = some (v,H1) /\ K v H1 := by
 cases o <;> first | rfl | (exfalso; exact ho _ _ _ rfl)
theorem viaO {o : IOp} (ho : ∀ m f args,o ≠ .call m f args) {w : Option Value} (hi : iop lo o e H = w.map fun v => (v,H)) : wpOp F lo o e H K = optP w (fun v => K v H) := by
 rw [prim_eq _ _ _ _ _ ho,hi]
 cases w <;> simp [optP]
@[go_sem] theorem op_mov (x : Opd) : wpOp F lo (.mov x) e H K = K (x.ev e) H := propext ⟨fun ⟨_,_,h,k⟩ => by simp only [iop,Option.some.injEq,Prod.mk.injEq] at h; obtain ⟨rfl,rfl⟩ := h; exact k,fun k => ⟨_,_,rfl,k⟩⟩
@[go_sem] theorem op_pick (c a b : Opd) : wpOp F lo (.pick c a b) e H K = pickP (c.ev e) (a.ev e) (b.ev e) (fun v => K v H) := by
 rw [prim_eq _ _ _ _ _ (by simp)]
 simp only [iop]
 cases c.ev e <;> simp [pickP]
@[go_sem] theorem op_new (z : List Value) : wpOp F lo (.new z) e H K = K (ptr H.length 0) (H ++ [⟨z,0,0,false,true⟩]) := by
 rw [prim_eq _ _ _ _ _ (by simp)]; simp [iop]
@[go_sem] theorem op_box (x : Opd) : wpOp F lo (.box x) e H K = ((x.ev e).cells.toList.all one = true /\ K (ptr H.length 0) (H ++ [⟨(x.ev e).cells.toList,0,0,false,true⟩])) := by
 rw [prim_eq _ _ _ _ _ (by simp)]
 simp only [iop]
 split
 ·rename_i h; simp [h]
 ·rename_i h; simp [h]
@[go_sem] theorem op_build (z : List Value) (ps : List (Nat × Nat × Opd)) : wpOp F lo (.build z ps) e H K = optP ((fillL e z ps).map fun cs => .agg cs.toArray) (fun v => K v H) := by
 rw [prim_eq _ _ _ _ _ (by simp)]
 simp only [iop]
 cases fillL e z ps <;> simp [optP]
def litP (es et len : Nat) (o : Option (List Value)) (H : Heap) (K : Value -> Heap -> Prop) : Prop := match o with
 | some cs => K (sli H.length 0 len) (H ++ [⟨cs,es,et,true,true⟩])
 | none => False
@[go_sem] theorem op_lit (es et len : Nat) (z : List Value) (ps : List (Nat × Nat × Opd)) : wpOp F lo (.lit es et len z ps) e H K = litP es et len (fillL e z ps) H K := by
 rw [prim_eq _ _ _ _ _ (by simp)]
 simp only [iop]
 cases fillL e z ps <;> simp [litP]
@[go_sem] theorem op_load (agg : Bool) (n : Nat) (x : Opd) : wpOp F lo (.load agg n x) e H K = loadP H (x.ev e) agg n (fun v => K v H) := by
 rw [prim_eq _ _ _ _ _ (by simp)]
 simp only [iop]
 cases x.ev e with
 | pointer a => cases a with
   | none => simp [loadP]
   | some a =>
     simp only [loadP]
     cases getCells H a.block a.off n with
     | none => simp
     | some cs => simp only [Option.bind_some]; cases valOf agg cs <;> simp
 | _ => simp [loadP]
@[go_sem] theorem op_store (n : Nat) (x y : Opd) : wpOp F lo (.store n x y) e H K = storeP lo H (x.ev e) n (y.ev e) (fun H1 => K undef H1) := by
 rw [prim_eq _ _ _ _ _ (by simp)]
 simp only [iop]
 cases x.ev e with
 | pointer a => cases a with
   | none => simp [storeP]
   | some a =>
     simp only [storeP]
     cases H[a.block]? with
     | none => simp
     | some k =>
       simp only
       split
       ·rename_i h; simp only [Option.some.injEq,Prod.mk.injEq]; exact propext ⟨fun ⟨_,_,⟨h1,h2⟩,k⟩ => by subst h1; subst h2; exact ⟨h,k⟩,fun k => ⟨_,_,⟨rfl,rfl⟩,k.2⟩⟩
       ·rename_i h; exact propext ⟨fun ⟨_,_,h',_⟩ => (by cases h'),fun h' => absurd h'.1 h⟩
 | _ => simp [storeP]
@[go_sem] theorem op_bin (op : BinOp) (x y : Opd) : wpOp F lo (.bin op x y) e H K = optP (binV op (x.ev e) (y.ev e)) (fun v => K v H) := by
 rw [prim_eq _ _ _ _ _ (by simp)]
 simp only [iop]
 cases binV op (x.ev e) (y.ev e) <;> simp [optP]
def beqV (ne : Bool) (x y : Value) : Option Value := match x,y with
 | .bool a,.bool b => some (.bool (if ne then !(a == b) else a == b))
 | _,_ => none
@[go_sem] theorem op_beq (ne : Bool) (x y : Opd) : wpOp F lo (.beq ne x y) e H K = optP (beqV ne (x.ev e) (y.ev e)) (fun v => K v H) := by
 rw [prim_eq _ _ _ _ _ (by simp)]
 simp only [iop]
 cases x.ev e <;> cases y.ev e <;> simp [optP,beqV]
def eqsV (ne : Bool) (n : Nat) (x y : Value) : Option Value := match x,y with
 | .agg a,.agg b => if a.toList.length = n /\ b.toList.length = n then (eqCells a.toList b.toList).map fun t => .bool (if ne then !t else t) else none
 | _,_ => none
@[go_sem] theorem op_eqs (ne : Bool) (n : Nat) (x y : Opd) : wpOp F lo (.eqs ne n x y) e H K = optP (eqsV ne n (x.ev e) (y.ev e)) (fun v => K v H) := by
 refine viaO _ _ _ _ _ (by simp) ?_
 simp only [iop]
 generalize x.ev e = a
 generalize y.ev e = b
 cases a <;> cases b <;> try rfl
 simp only [eqsV]
 split
 ·rename_i a b h; cases eqCells a.toList b.toList <;> rfl
 ·rfl
@[go_sem] theorem op_un (op : UnOp) (x : Opd) : wpOp F lo (.un op x) e H K = optP (unV op (x.ev e)) (fun v => K v H) := by
 rw [prim_eq _ _ _ _ _ (by simp)]
 simp only [iop]
 cases unV op (x.ev e) <;> simp [optP]
def convV (k : IntKind) (x : Value) : Option Value := match x with
 | .int _ n => some (.int k (k.wrap n))
 | _ => none
@[go_sem] theorem op_conv (k : IntKind) (x : Opd) : wpOp F lo (.conv k x) e H K = optP (convV k (x.ev e)) (fun v => K v H) := by
 rw [prim_eq _ _ _ _ _ (by simp)]
 simp only [iop]
 cases x.ev e <;> simp [optP,convV]
@[go_sem] theorem op_mks (es et bytes : Nat) (z : List Value) (l c : Opd) : wpOp F lo (.mks es et bytes z l c) e H K = mksP es et bytes z H (l.ev e) (c.ev e) K := by
 rw [prim_eq _ _ _ _ _ (by simp)]
 simp only [iop]
 generalize l.ev e = a
 generalize c.ev e = b
 cases a <;> cases b <;> try (simp [mksP]; done)
 simp only [mksP]
 split
 ·rename_i h; simp only [Option.some.injEq,Prod.mk.injEq]; exact propext ⟨fun ⟨_,_,⟨h1,h2⟩,k⟩ => by subst h1; subst h2; exact ⟨h,k⟩,fun k => ⟨_,_,⟨rfl,rfl⟩,k.2⟩⟩
 ·rename_i h; exact propext ⟨fun ⟨_,_,h',_⟩ => (by cases h'),fun h' => absurd h'.1 h⟩
def subV (es : Nat) (v : Value) (e : Env) (lo hi : Option Opd) : Option Value := match v with
 | .slice a n _ => match subB n e n hi with
   | some h' => match subB h' e 0 lo with
     | some l' => some (.slice (a.map fun a => ⟨a.block,a.off + l' * es,none⟩) (h' - l') (h' - l'))
     | none => none
   | none => none
 | _ => none
@[go_sem] theorem op_sub (es : Nat) (x : Opd) (l h : Option Opd) : wpOp F lo (.sub es x l h) e H K = optP (subV es (x.ev e) e l h) (fun v => K v H) := by
 refine viaO _ _ _ _ _ (by simp) ?_
 simp only [iop]
 generalize x.ev e = a
 cases a <;> try rfl
 rename_i a n c
 simp only [subV]
 cases subB n e n h with
 | none => rfl
 | some h' => simp only; cases subB h' e 0 l <;> rfl
@[go_sem] theorem op_fad (off : Nat) (x : Opd) : wpOp F lo (.fad off x) e H K = fadP off (x.ev e) (fun v => K v H) := by
 rw [prim_eq _ _ _ _ _ (by simp)]
 simp only [iop]
 cases x.ev e with
 | pointer a => cases a <;> simp [fadP]
 | _ => simp [fadP]
def fldV (agg : Bool) (off n : Nat) (v : Value) : Option Value := match v with
 | .agg cs => if off + n <= cs.toList.length then valOf agg ((cs.toList.drop off).take n) else none
 | _ => none
@[go_sem] theorem op_fld (agg : Bool) (off n : Nat) (x : Opd) : wpOp F lo (.fld agg off n x) e H K = optP (fldV agg off n (x.ev e)) (fun v => K v H) := by
 refine viaO _ _ _ _ _ (by simp) ?_
 simp only [iop]
 generalize x.ev e = a
 cases a <;> try rfl
 rename_i cs
 simp only [fldV]
 split
 ·cases valOf agg ((cs.toList.drop off).take n) <;> rfl
 ·rfl
@[go_sem] theorem op_iad (es : Nat) (x i : Opd) : wpOp F lo (.iad es x i) e H K = iadP es (x.ev e) (i.ev e) (fun v => K v H) := by
 rw [prim_eq _ _ _ _ _ (by simp)]
 simp only [iop]
 generalize x.ev e = a
 generalize i.ev e = b
 cases a <;> try (simp [iadP]; done)
 rename_i a n c
 cases a with
 | none => simp [iadP]
 | some a =>
   cases b <;> try (simp [iadP]; done)
   simp only [iadP]
   split
   ·rename_i h; simp only [Option.some.injEq,Prod.mk.injEq]; exact propext ⟨fun ⟨_,_,⟨h1,h2⟩,k⟩ => by subst h1; subst h2; exact ⟨h,k⟩,fun k => ⟨_,_,⟨rfl,rfl⟩,k.2⟩⟩
   ·rename_i h; exact propext ⟨fun ⟨_,_,h',_⟩ => (by cases h'),fun h' => absurd h'.1 h⟩
def extV (v : Value) (i : Nat) : Option Value := match v with
 | .tuple vs => vs.toList[i]?
 | _ => none
@[go_sem] theorem op_ext (x : Opd) (i : Nat) : wpOp F lo (.ext x i) e H K = optP (extV (x.ev e) i) (fun v => K v H) := by
 refine viaO _ _ _ _ _ (by simp) ?_
 simp only [iop]
 generalize x.ev e = a
 cases a <;> rfl
@[go_sem] theorem op_mkf (fn : Nat) (xs ys : List Opd) : wpOp F lo (.mkf fn xs ys) e H K = (((xs.map (·.ev e)).all sim0 = true /\ (ys.map (·.ev e)).all sim0 = true) /\ K (.func (.func fn) (xs.map (·.ev e)).toArray (ys.map (·.ev e)).toArray) H) := by
 rw [prim_eq _ _ _ _ _ (by simp)]
 simp only [iop]
 split
 ·rename_i h; simp only [Option.some.injEq,Prod.mk.injEq,h,and_self,true_and]
  exact propext ⟨fun ⟨_,_,⟨rfl,rfl⟩,k⟩ => k,fun k => ⟨_,_,⟨rfl,rfl⟩,k⟩⟩
 ·rename_i h; exact propext ⟨fun ⟨_,_,hh,_⟩ => (by cases hh),fun ⟨hh,_⟩ => absurd hh h⟩
@[go_sem] theorem op_len (x : Opd) : wpOp F lo (.len x) e H K = lenP (x.ev e) (fun v => K v H) := by
 rw [prim_eq _ _ _ _ _ (by simp)]
 simp only [iop]
 cases x.ev e <;> simp [lenP]
def maxV (x y : Value) : Option Value := match x,y with
 | .int k a,.int _ b => some (.int k (if b > a then b else a))
 | _,_ => none
@[go_sem] theorem op_max2 (x y : Opd) : wpOp F lo (.max2 x y) e H K = optP (maxV (x.ev e) (y.ev e)) (fun v => K v H) := by
 refine viaO _ _ _ _ _ (by simp) ?_
 simp only [iop]
 generalize x.ev e = a
 generalize y.ev e = b
 cases a <;> cases b <;> rfl
def nilckV (x : Value) : Option Value := match x with
 | .pointer (some a) => some (.pointer (some a))
 | .func (.func g) first cap => some (.func (.func g) first cap)
 | _ => none
@[go_sem] theorem op_nilck (x : Opd) : wpOp F lo (.nilck x) e H K = optP (nilckV (x.ev e)) (fun v => K v H) := by
 refine viaO _ _ _ _ _ (by simp) ?_
 simp only [iop]
 generalize x.ev e = a
 cases a <;> try rfl
 ·rename_i a; cases a <;> rfl
 ·rename_i f _ _; cases f <;> rfl
theorem op_app_zero {es et bytes : Nat} {kill : Bool} {x y : Opd} {b : Option Addr} {n c : Nat} {a : Option Addr} {c' : Nat} (hx : x.ev e = .slice b n c) (hy : y.ev e = .slice a 0 c')
  (k : K (.slice b n c) H) : wpOp F lo (.app es et bytes kill x y) e H K := ⟨_,_,by simp only [iop,hx,hy]; rfl,k⟩
theorem op_app_nil {es et bytes : Nat} {kill : Bool} {x y : Opd} {n c : Nat} {a : Addr} {m c' : Nat} {ys : List Value} (hx : x.ev e = .slice none n c) (hy : y.ev e = .slice (some a) m c') (hm : m ≠ 0)
  (hg : getCells H a.block a.off (m * es) = some ys) (h1 : m * bytes <= 140737488355328) (h2 : m <= 9223372036854775807)
  (k : K (sli H.length 0 m) (H ++ [⟨ys,es,et,true,true⟩])) : wpOp F lo (.app es et bytes kill x y) e H K :=
 ⟨_,_,by simp only [iop,hx,hy]; rw [if_neg hm]; simp only [hg]; rw [if_pos ⟨h1,h2⟩],k⟩
theorem op_app {es et bytes : Nat} {kill : Bool} {x y : Opd} {b : Addr} {n c : Nat} {a : Addr} {m c' : Nat} {ys : List Value} {kb : Blk} (hx : x.ev e = .slice (some b) n c) (hy : y.ev e = .slice (some a) m c') (hm : m ≠ 0)
  (hg : getCells H a.block a.off (m * es) = some ys) (hk : H[b.block]? = some kb) (h : lo <= b.block /\ b.off = 0 /\ kb.app = true /\ kb.es = es /\ kb.et = et /\ kb.cells.length = n * es /\ (n + m) * bytes <= 140737488355328 /\ n + m <= 9223372036854775807)
  (k : K (sli H.length 0 (n + m)) (H.set b.block { kb with app := false,solo := kb.solo && n == 0,cells := if kill then [] else kb.cells } ++ [⟨kb.cells ++ ys,es,et,true,kb.solo && (n == 0 || kill)⟩])) :
  wpOp F lo (.app es et bytes kill x y) e H K :=
 ⟨_,_,by simp only [iop,hx,hy]; rw [if_neg hm]; simp only [hg,hk]; rw [if_pos h],k⟩
variable {F lo e H K}
theorem op_callQ {g : Nat} {args : List Opd} {v : Value} (h : QC F g (args.map (·.ev e)) H v) (k : K v H) : wpOp F lo (.call .q (.f g) args) e H K :=
 ⟨g,#[],#[],rfl,v,by simpa using h,k⟩
theorem op_callK {g : Nat} {args : List Opd} {v : Value} {H1 : Heap} (h : KC F g (args.map (·.ev e)) H v H1) (k : K v H1) : wpOp F lo (.call .k (.f g) args) e H K :=
 ⟨g,#[],#[],rfl,v,H1,by simpa using h,k⟩
theorem op_callN {g : Nat} {args : List Opd} {v : Value} {H1 : Heap} (h : NC F lo g (args.map (·.ev e)) H v H1) (k : K v H1) : wpOp F lo (.call .n (.f g) args) e H K :=
 ⟨g,#[],#[],rfl,v,H1,by simpa using h,k⟩
theorem op_callQc {g t : Nat} {first cap : Array Value} {args : List Opd} {v : Value} (hf : e t = .func (.func g) first cap) (h : QC F g (first.toList ++ args.map (·.ev e) ++ cap.toList) H v) (k : K v H) : wpOp F lo (.call .q (.t t) args) e H K :=
 ⟨g,first,cap,hf,v,h,k⟩
theorem op_callNc {g t : Nat} {first cap : Array Value} {args : List Opd} {v : Value} {H1 : Heap} (hf : e t = .func (.func g) first cap) (h : NC F lo g (first.toList ++ args.map (·.ev e) ++ cap.toList) H v H1) (k : K v H1) : wpOp F lo (.call .n (.t t) args) e H K :=
 ⟨g,first,cap,hf,v,H1,h,k⟩
def fin (rs : List IRes) (Q : Value -> Heap -> Prop) (x : X) (e : Env) (H : Heap) : Prop := (x = .n \/ x = .r) /\ ∃ v,resV rs e H = some v /\ Q v H
theorem QC.mk {f np nt : Nat} {rs : List IRes} {body : ICode} {args : List Value} {v : Value} (hf : F f = some ⟨np,nt,rs,body⟩) (hl : args.length = np) (h : wpc F H.length body (ini args) H (fin rs fun w _ => w = v /\ scal w = true)) : QC F f args H v := by
 obtain ⟨x,e1,H1,h1,h2,w,h3,rfl,h4⟩ := h
 exact ⟨_,x,e1,H1,hf,hl,h1,h2,h3,h4⟩
theorem KC.mk {f np nt : Nat} {rs : List IRes} {body : ICode} {args : List Value} {Q : Value -> Heap -> Prop} (hf : F f = some ⟨np,nt,rs,body⟩) (hl : args.length = np) (h : wpc F H.length body (ini args) H (fin rs Q)) : ∃ v H1,KC F f args H v H1 /\ Q v H1 := by
 obtain ⟨x,e1,H1,h1,h2,w,h3,h4⟩ := h
 exact ⟨w,H1,⟨_,x,e1,hf,hl,h1,h2,h3⟩,h4⟩
theorem NC.mk {f np nt : Nat} {rs : List IRes} {body : ICode} {args : List Value} {Q : Value -> Heap -> Prop} (hf : F f = some ⟨np,nt,rs,body⟩) (hl : args.length = np) (h : wpc F lo body (ini args) H (fin rs Q)) : ∃ v H1,NC F lo f args H v H1 /\ Q v H1 := by
 obtain ⟨x,e1,H1,h1,h2,w,h3,h4⟩ := h
 exact ⟨w,H1,⟨_,x,e1,hf,hl,h1,h2,h3⟩,h4⟩
end
@[go_sem] theorem resV_t (n : Nat) (e : Env) (H : Heap) : resV [.t n] e H = some (e n) := rfl
def cellP (agg : Bool) (n : Nat) (H : Heap) (v : Value) : Option Value := match v with
 | .pointer (some a) => (getCells H a.block a.off n).bind (valOf agg)
 | _ => none
@[go_sem] theorem resV_cell (agg : Bool) (n t : Nat) (e : Env) (H : Heap) : resV [.cell agg n t] e H = cellP agg n H (e t) := rfl
@[go_sem] theorem cellP_ptr (agg : Bool) (n : Nat) (H : Heap) (b o : Nat) : cellP agg n H (ptr b o) = (getCells H b o n).bind (valOf agg) := rfl
attribute [go_sem] Option.bind_some
@[go_sem] theorem ev_t (e : Env) (n : Nat) : Opd.ev e (.t n) = e n := rfl
@[go_sem] theorem ev_c (e : Env) (v : Value) : Opd.ev e (.c v) = v := rfl
@[go_sem] theorem ev_f (e : Env) (n : Nat) : Opd.ev e (.f n) = .func (.func n) #[] #[] := rfl
attribute [go_sem] putE_get putE_none if_true if_false
@[go_sem] theorem pickP_t (a b : Value) (K : Value -> Prop) : pickP (.bool true) a b K = K a := rfl
@[go_sem] theorem pickP_f (a b : Value) (K : Value -> Prop) : pickP (.bool false) a b K = K b := rfl
@[go_sem] theorem iadP_eq (es b o n c : Nat) (k : IntKind) (j : Int) (K : Value -> Prop) : iadP es (.slice (some ⟨b,o,none⟩) n c) (.int k j) K = ((0 <= j /\ j < n) /\ K (ptr b (o + j.toNat * es))) := rfl
@[go_sem] theorem iadP_sli (es b o n : Nat) (k : IntKind) (j : Int) (K : Value -> Prop) : iadP es (sli b o n) (.int k j) K = ((0 <= j /\ j < n) /\ K (ptr b (o + j.toNat * es))) := rfl
@[go_sem] theorem lenP_eq (a : Option Addr) (n c : Nat) (K : Value -> Prop) : lenP (.slice a n c) K = K (.int .i64 n) := rfl
@[go_sem] theorem lenP_sli (b o n : Nat) (K : Value -> Prop) : lenP (sli b o n) K = K (.int .i64 n) := rfl
@[go_sem] theorem lenP_nil (K : Value -> Prop) : lenP nilS K = K (.int .i64 0) := rfl
@[go_sem] theorem fadP_ptr (b o off : Nat) (K : Value -> Prop) : fadP off (ptr b o) K = K (ptr b (o + off)) := rfl
@[go_sem] theorem mksP_eq (es et bytes : Nat) (z : List Value) (H : Heap) (k k' : IntKind) (n n' : Int) (K : Value -> Heap -> Prop) : mksP es et bytes z H (.int k n) (.int k' n') K =
  ((0 <= n /\ n' = n /\ n * bytes <= 140737488355328 /\ n <= 9223372036854775807) /\ K (sli H.length 0 n.toNat) (H ++ [⟨(List.replicate n.toNat z).flatten,es,et,true,true⟩])) := rfl
@[go_sem] theorem optP_some (v : Value) (K : Value -> Prop) : optP (some v) K = K v := rfl
@[go_sem] theorem loadP_ptr (H : Heap) (b o : Nat) (agg : Bool) (n : Nat) (K : Value -> Prop) : loadP H (ptr b o) agg n K = match getCells H b o n with
  | some cs => match valOf agg cs with
    | some v => K v
    | none => False
  | none => False := rfl
@[go_sem] theorem storeP_ptr (lo : Nat) (H : Heap) (b o : Nat) (n : Nat) (y : Value) (K : Heap -> Prop) : storeP lo H (ptr b o) n y K = match H[b]? with
  | some k => (lo <= b /\ k.solo = true /\ y.cells.toList.length = n /\ o + n <= k.cells.length /\ y.cells.toList.all one = true) /\ K (H.set b { k with cells := setL k.cells o y.cells.toList })
  | none => False := rfl
@[go_sem] theorem litP_some (es et len : Nat) (cs : List Value) (H : Heap) (K : Value -> Heap -> Prop) : litP es et len (some cs) H K = K (sli H.length 0 len) (H ++ [⟨cs,es,et,true,true⟩]) := rfl
@[go_sem] theorem binV_int (op : BinOp) (k : IntKind) (x y : Int) : binV op (.int k x) (.int k y) = binI op k x y := by simp [binV]
@[go_sem] theorem binI_add (k : IntKind) (x y : Int) : binI .add k x y = some (.int k (k.wrap (x + y))) := rfl
@[go_sem] theorem binI_sub (k : IntKind) (x y : Int) : binI .sub k x y = some (.int k (k.wrap (x - y))) := rfl
@[go_sem] theorem binI_mul (k : IntKind) (x y : Int) : binI .mul k x y = some (.int k (k.wrap (x * y))) := rfl
theorem binC (k : IntKind) (x y : Int) : binI .eql k x y = some (.bool (x == y)) /\ binI .neq k x y = some (.bool (x != y)) /\ binI .lss k x y = some (.bool (decide (x < y))) /\ binI .leq k x y = some (.bool (decide (x <= y))) /\ binI .gtr k x y = some (.bool (decide (y < x))) /\ binI .geq k x y = some (.bool (decide (y <= x))) := ⟨rfl,rfl,rfl,rfl,rfl,rfl⟩
attribute [go_sem_proc] Nat.reduceEqDiff Nat.reduceAdd Nat.reduceMul Nat.reduceSub Nat.reduceLeDiff Nat.reduceLT
attribute [go_sem_proc] reduceIte reduceCtorEq
@[go_sem] theorem unV_not (b : Bool) : unV .not (.bool b) = some (.bool (!b)) := rfl
@[go_sem] theorem unV_neg (k : IntKind) (n : Int) : unV .neg (.int k n) = some (.int k (k.wrap (0 - n))) := rfl
@[go_sem] theorem beqV_eq (a b : Bool) : beqV false (.bool a) (.bool b) = some (.bool (a == b)) := rfl
@[go_sem] theorem beqV_ne (a b : Bool) : beqV true (.bool a) (.bool b) = some (.bool (!(a == b))) := rfl
@[go_sem] theorem convV_int (k k' : IntKind) (n : Int) : convV k (.int k' n) = some (.int k (k.wrap n)) := rfl
@[go_sem] theorem valOf_agg (cs : List Value) : valOf true cs = some (.agg cs.toArray) := rfl
@[go_sem] theorem valOf_one (v : Value) : valOf false [v] = some v := rfl
@[go_sem] theorem extV_tup (l : List Value) (i : Nat) : extV (.tuple l.toArray) i = l[i]? := by simp [extV]
@[go_sem] theorem fldV_agg (agg : Bool) (off n : Nat) (cs : List Value) : fldV agg off n (.agg cs.toArray) = if off + n <= cs.length then valOf agg ((cs.drop off).take n) else none := by simp [fldV]
@[go_sem] theorem cells_agg (cs : List Value) : (Value.agg cs.toArray).cells.toList = cs := rfl
@[go_sem] theorem cells_int (k : IntKind) (n : Int) : (Value.int k n).cells.toList = [.int k n] := rfl
@[go_sem] theorem cells_bool (b : Bool) : (Value.bool b).cells.toList = [.bool b] := rfl
@[go_sem] theorem cells_sli (b o n : Nat) : (sli b o n).cells.toList = [sli b o n] := rfl
@[go_sem] theorem cells_nilS : nilS.cells.toList = [nilS] := rfl
@[go_sem] theorem cells_ptr (b o : Nat) : (ptr b o).cells.toList = [ptr b o] := rfl
@[go_sem] theorem nil_is : Value.slice none 0 0 = nilS := rfl
@[go_sem] theorem one_int (k : IntKind) (n : Int) : one (.int k n) = true := rfl
@[go_sem] theorem one_bool (b : Bool) : one (.bool b) = true := rfl
@[go_sem] theorem one_sli (b o n : Nat) : one (sli b o n) = true := rfl
@[go_sem] theorem one_nilS : one nilS = true := rfl
@[go_sem] theorem one_ptr (b o : Nat) : one (ptr b o) = true := rfl
@[go_sem] theorem ini_app (l : List Value) (i : Nat) : ini l i = l.getD i undef := rfl
attribute [go_sem] List.getD_cons_zero List.getD_cons_succ List.getD_nil
@[go_sem] theorem setL_nil (cs : List Value) (o : Nat) : setL cs o [] = cs := rfl
@[go_sem] theorem setL_cons (cs vs : List Value) (o : Nat) (v : Value) : setL cs o (v :: vs) = setL (cs.set o v) (o + 1) vs := rfl
attribute [go_sem] List.set_cons_zero List.set_cons_succ List.set_nil
@[go_sem] theorem fillL_nil (e : Env) (cs : List Value) : fillL e cs [] = some cs := rfl
@[go_sem] theorem fillL_cons (e : Env) (cs : List Value) (o n : Nat) (x : Opd) (r : List (Nat × Nat × Opd)) : fillL e cs ((o,n,x) :: r) =
  if (x.ev e).cells.toList.length = n /\ o + n <= cs.length /\ (x.ev e).cells.toList.all one = true then fillL e (setL cs o (x.ev e).cells.toList) r else none := rfl
attribute [go_sem] List.all_cons List.all_nil List.length_cons List.length_nil Bool.and_true Bool.true_and Bool.and_self and_self and_true true_and Nat.zero_add Nat.add_zero List.map_cons List.map_nil Option.map_some
attribute [go_sem] List.drop_zero List.drop_succ_cons List.take_succ_cons List.take_zero List.drop_nil List.take_nil List.getElem?_cons_zero List.getElem?_cons_succ Bool.not_true Bool.not_false
@[go_sem] theorem hl_app (H L : Heap) : (H ++ L).length = H.length + L.length := List.length_append
@[go_sem] theorem app_app (H L M : Heap) : H ++ L ++ M = H ++ (L ++ M) := List.append_assoc H L M
attribute [go_sem] List.cons_append List.nil_append List.append_nil
@[go_sem] theorem get_new (H L : Heap) (k : Nat) : (H ++ L)[H.length + k]? = L[k]? := by rw [List.getElem?_append_right (by omega)]; congr 1; omega
@[go_sem] theorem get_new0 (H L : Heap) : (H ++ L)[H.length]? = L[0]? := get_new H L 0
@[go_sem] theorem set_new (H L : Heap) (k : Nat) (x : Blk) : (H ++ L).set (H.length + k) x = H ++ L.set k x := by rw [List.set_append_right _ _ (by omega)]; congr 2; omega
@[go_sem] theorem set_new0 (H L : Heap) (x : Blk) : (H ++ L).set H.length x = H ++ L.set 0 x := set_new H L 0 x
def inBlk (k : Option Blk) (o n : Nat) : Option (List Value) := match k with
 | some k => if o + n <= k.cells.length then some ((k.cells.drop o).take n) else none
 | none => none
@[go_sem] theorem gc_new (H L : Heap) (k o n : Nat) : getCells (H ++ L) (H.length + k) o n = inBlk L[k]? o n := by unfold getCells; rw [get_new]; rfl
@[go_sem] theorem gc_new0 (H L : Heap) (o n : Nat) : getCells (H ++ L) H.length o n = inBlk L[0]? o n := by unfold getCells; rw [get_new0]; rfl
@[go_sem] theorem inBlk_some (cs : List Value) (es et : Nat) (a s : Bool) (o n : Nat) : inBlk (some ⟨cs,es,et,a,s⟩) o n = if o + n <= cs.length then some ((cs.drop o).take n) else none := rfl
theorem wrap_id {x : Int} (h1 : -9223372036854775808 <= x) (h2 : x <= 9223372036854775807) : IntKind.i64.wrap x = x := by rw [IntKind.wrap_i64]; omega
end Go.Proofs.YtbjeldblaclpnaaGreatI
end
section
set_option linter.unusedVariables false
set_option linter.unusedSimpArgs false
namespace Go.Proofs.YtbjeldblaclpnaaGreatI
open Go Go.RowKit
abbrev Vw := Nat -> Option (List Value)
def vw (lo : Nat) (H : Heap) : Vw := fun b => if lo <= b then (H[b]?).map (·.cells) else none
def Sub (V V' : Vw) : Prop := ∀ b cs,V b = some cs -> V' b = some cs
theorem Sub.refl (V : Vw) : Sub V V := fun _ _ h => h
theorem Sub.trans {V V' V'' : Vw} (h : Sub V V') (h' : Sub V' V'') : Sub V V'' := fun b cs k => h' b cs (h b cs k)
def rng (V : Vw) (b o n : Nat) : Option (List Value) := match V b with
 | some k => if o + n <= k.length then some ((k.drop o).take n) else none
 | none => none
theorem rng_sub {V V' : Vw} (h : Sub V V') {b o n : Nat} {cs : List Value} (k : rng V b o n = some cs) : rng V' b o n = some cs := by
 unfold rng at k ⊢
 cases hv : V b with
 | none => simp [hv] at k
 | some c => rw [hv] at k; rw [h b c hv]; exact k
theorem rng_gc {lo : Nat} {H : Heap} {b o n : Nat} {cs : List Value} (k : rng (vw lo H) b o n = some cs) : getCells H b o n = some cs := by
 unfold rng vw at k
 unfold getCells
 split at k
 ·rename_i c hc
  split at hc
  ·cases hb : H[b]? with
   | none => simp [hb] at hc
   | some kb => simp only [hb,Option.map_some,Option.some.injEq] at hc; subst hc; exact k
  ·cases hc
 ·cases k
theorem vw_grow {lo lo' : Nat} {H H1 : Heap} (hl : lo' <= lo) (h : ∀ b,lo <= b -> b < H.length -> H1[b]? = H[b]?) : Sub (vw lo H) (vw lo' H1) := by
 intro b cs k
 unfold vw at k ⊢
 split at k
 ·rename_i h1
  rw [if_pos (by omega)]
  cases hb : H[b]? with
  | none => simp [hb] at k
  | some kb => rw [h b h1 (List.getElem?_eq_some_iff.1 hb).1,hb]; simpa [hb] using k
 ·cases k
theorem vw_app (lo : Nat) (H L : Heap) : Sub (vw lo H) (vw lo (H ++ L)) := vw_grow (Nat.le_refl _) fun b _ h => List.getElem?_append_left h
structure Co (α : Type) where
 w : Nat
 rd : Vw -> List Value -> α -> Prop
 sm : α -> Prop
 mono : ∀ {V V' : Vw} {cs : List Value} {a : α},Sub V V' -> rd V cs a -> rd V' cs a
 len : ∀ {V : Vw} {cs : List Value} {a : α},rd V cs a -> cs.length = w
 ones : ∀ {V : Vw} {cs : List Value} {a : α},rd V cs a -> ∀ c,c ∈ cs -> one c = true
def Co.int : Co Int := ⟨1,fun _ cs n => cs = [.int .i64 n] /\ -9223372036854775808 <= n /\ n <= 9223372036854775807,fun _ => True,fun _ h => h,fun h => by rw [h.1]; rfl,fun h c hc => by rw [h.1] at hc; simp only [List.mem_singleton] at hc; subst hc; rfl⟩
def Co.bool : Co Bool := ⟨1,fun _ cs n => cs = [.bool n],fun _ => True,fun _ h => h,fun h => by rw [h]; rfl,fun h c hc => by rw [h] at hc; simp only [List.mem_singleton] at hc; subst hc; rfl⟩
def Co.pair {α β : Type} (A : Co α) (B : Co β) : Co (α × β) := ⟨A.w + B.w,fun V cs p => ∃ x y,cs = x ++ y /\ A.rd V x p.1 /\ B.rd V y p.2,fun p => A.sm p.1 /\ B.sm p.2,
 fun h ⟨x,y,h1,h2,h3⟩ => ⟨x,y,h1,A.mono h h2,B.mono h h3⟩,fun ⟨x,y,h1,h2,h3⟩ => by rw [h1,List.length_append,A.len h2,B.len h3],fun ⟨x,y,h1,h2,h3⟩ c hc => by rw [h1,List.mem_append] at hc; exact hc.elim (A.ones h2 c) (B.ones h3 c)⟩
def SlR {α : Type} (A : Co α) (V : Vw) (v : Value) (l : List α) : Prop :=
 l.length <= 9223372036854775807 /\ ∃ a,v = .slice a l.length l.length /\ (l = [] \/ ∃ b o,a = some ⟨b,o,none⟩ /\ ∀ i (h : i < l.length),∃ cs,rng V b (o + i * A.w) A.w = some cs /\ A.rd V cs l[i])
theorem SlR.mono {α : Type} {A : Co α} {V V' : Vw} {v : Value} {l : List α} (h : Sub V V') : SlR A V v l -> SlR A V' v l
 | ⟨h0,a,h1,h2⟩ => ⟨h0,a,h1,h2.imp id fun ⟨b,o,h3,h4⟩ => ⟨b,o,h3,fun i hi => let ⟨cs,h5,h6⟩ := h4 i hi; ⟨cs,rng_sub h h5,A.mono h h6⟩⟩⟩
def Co.sl {α : Type} (A : Co α) : Co (List α) := ⟨1,fun V cs l => ∃ v,cs = [v] /\ SlR A V v l,fun l => l.length <= 1048576 /\ ∀ a ∈ l,A.sm a,
 fun h ⟨v,h1,h2⟩ => ⟨v,h1,h2.mono h⟩,fun ⟨v,h1,_⟩ => by rw [h1]; rfl,fun ⟨v,h1,_,a,h2,_⟩ c hc => by rw [h1] at hc; simp only [List.mem_singleton] at hc; subst hc; rw [h2]; rfl⟩
theorem Co.rd_sl {α : Type} {A : Co α} {V : Vw} {v : Value} {l : List α} : (Co.sl A).rd V [v] l ↔ SlR A V v l := ⟨fun ⟨w,h,k⟩ => by simp only [List.cons.injEq,and_true] at h; subst h; exact k,fun h => ⟨v,rfl,h⟩⟩
def Rd {α : Type} (A : Co α) (agg : Bool) (V : Vw) (v : Value) (a : α) : Prop := ∃ cs,valOf agg cs = some v /\ A.rd V cs a
theorem Rd.mono {α : Type} {A : Co α} {agg : Bool} {V V' : Vw} {v : Value} {a : α} (h : Sub V V') : Rd A agg V v a -> Rd A agg V' v a := fun ⟨cs,h1,h2⟩ => ⟨cs,h1,A.mono h h2⟩
theorem Rd.cells {α : Type} {A : Co α} {agg : Bool} {V : Vw} {v : Value} {cs : List Value} {a : α} (h : valOf agg cs = some v) (h' : A.rd V cs a) : v.cells.toList = cs := by
 cases agg with
 | true => simp only [valOf,if_true,Option.some.injEq] at h; subst h; rfl
 | false =>
   simp only [valOf,Bool.false_eq_true,if_false] at h
   split at h
   ·simp only [Option.some.injEq] at h; subst h
    rw [cells_one (A.ones h' _ (by simp))]
   ·cases h
theorem wpOp_mono {F : Nat -> Option IFn} {lo : Nat} {o : IOp} {e : Env} {H : Heap} {K K' : Value -> Heap -> Prop} (h : wpOp F lo o e H K) (hk : ∀ v H,K v H -> K' v H) : wpOp F lo o e H K' := by
 unfold wpOp at h ⊢
 split at h
 ·obtain ⟨g,first,cap,hf,h⟩ := h
  refine ⟨g,first,cap,hf,?_⟩
  split at h
  ·obtain ⟨v,h1,h2⟩ := h; exact ⟨v,h1,hk _ _ h2⟩
  ·obtain ⟨v,H1,h1,h2⟩ := h; exact ⟨v,H1,h1,hk _ _ h2⟩
  ·obtain ⟨v,H1,h1,h2⟩ := h; exact ⟨v,H1,h1,hk _ _ h2⟩
 ·obtain ⟨v,H1,h1,h2⟩ := h; exact ⟨v,H1,h1,hk _ _ h2⟩
section
variable {F : Nat -> Option IFn} {α : Type} {A : Co α} {f : Nat}
end
end Go.Proofs.YtbjeldblaclpnaaGreatI
end
section
set_option linter.unusedVariables false
set_option linter.unusedSimpArgs false
namespace Go.Proofs.YtbjeldblaclpnaaGreatI
open Go Go.RowKit
attribute [go_sem] Int.toNat_natCast
section
variable {F : Nat -> Option IFn} {α : Type} {A : Co α} {f g w : Nat} {agg : Bool}
end
end Go.Proofs.YtbjeldblaclpnaaGreatI
end
section
set_option linter.unusedVariables false
set_option linter.unusedSimpArgs false
namespace Go.Proofs.YtbjeldblaclpnaaGreatI
open Go Go.RowKit
section
variable {F : Nat -> Option IFn} {α : Type} {A : Co α} {f g w nt : Nat} {agg : Bool} {b : ICode}
end
end Go.Proofs.YtbjeldblaclpnaaGreatI
end
section
set_option linter.unusedVariables false
set_option linter.unusedSimpArgs false
namespace Go.Proofs.YtbjeldblaclpnaaGreatI
open Go Go.RowKit
theorem vw_same (H M : Heap) (x y : Blk) : Sub (vw (H.length + 1) (H ++ x :: M)) (vw (H.length + 1) (H ++ y :: M)) := by
 intro b cs h
 unfold vw at h ⊢
 split at h
 ·rename_i hb
  rw [if_pos hb]
  rw [List.getElem?_append_right (by omega)] at h ⊢
  obtain ⟨k,hk⟩ : ∃ k,b - H.length = k + 1 := ⟨b - H.length - 1,by omega⟩
  rw [hk] at h ⊢
  simpa using h
 ·cases h
theorem setL_other {cs vs : List Value} {w i j : Nat} (hv : vs.length = w) (hl : i * w + w <= cs.length) (hj : j < i) : ((setL cs (i * w) vs).drop (j * w)).take w = (cs.drop (j * w)).take w := by
 have h1 : j * w + w <= i * w := by rw [<- Nat.succ_mul]; exact Nat.mul_le_mul_right _ hj
 rw [setL_eq _ _ _ (by omega),List.append_assoc,List.drop_append_of_le_length (by simp; omega),List.take_append_of_le_length (by simp; omega),List.drop_take,List.take_take,Nat.min_eq_left (by omega)]
theorem setL_at {cs vs : List Value} {w o : Nat} (hv : vs.length = w) (hl : o + w <= cs.length) : ((setL cs o vs).drop o).take w = vs := by
 rw [setL_eq _ _ _ (by omega),List.append_assoc,List.drop_append,List.drop_of_length_le (by simp; omega)]
 have : o - (cs.take o).length = 0 := by simp; omega
 rw [this,List.nil_append,List.drop_zero,List.take_append_of_le_length (by omega),List.take_of_length_le (by omega)]
section
variable {F : Nat -> Option IFn} {α : Type} {A : Co α} {f g w nt r et bytes : Nat} {agg : Bool} {z : List Value} {b : List IOper}
def Inv (A : Co α) (H : Heap) (w et : Nat) (l : List α) (i : Nat) (H' : Heap) : Prop :=
 ∃ dst M,H' = H ++ ⟨dst,w,et,true,true⟩ :: M /\ dst.length = l.length * w /\ ∀ j (h : j < l.length),j < i -> A.rd (vw (H.length + 1) H') ((dst.drop (j * w)).take w) l[j]
theorem Inv.step {H : Heap} {l : List α} {i : Nat} {dst cs : List Value} {M N : Heap} (hw : A.w = w) (hi : i < l.length) (hd : dst.length = l.length * w)
  (h : ∀ j (h : j < l.length),j < i -> A.rd (vw (H.length + 1) (H ++ ⟨dst,w,et,true,true⟩ :: M)) ((dst.drop (j * w)).take w) l[j])
  (hc : A.rd (vw (H.length + 1) (H ++ ⟨dst,w,et,true,true⟩ :: (M ++ N))) cs l[i]) : Inv A H w et l (i + 1) (H ++ ⟨setL dst (i * w) cs,w,et,true,true⟩ :: (M ++ N)) := by
 have hcl : cs.length = w := by rw [A.len hc,hw]
 have hl : i * w + w <= dst.length := by rw [hd,<- Nat.succ_mul]; exact Nat.mul_le_mul_right _ hi
 refine ⟨_,_,rfl,by rw [setL_length,hd],fun j hj hji => ?_⟩
 refine A.mono (vw_same H (M ++ N) ⟨dst,w,et,true,true⟩ _) ?_
 by_cases hij : j = i
 ·subst hij; rw [setL_at hcl hl]; exact hc
 ·rw [setL_other hcl hl (by omega)]
  refine A.mono ?_ (h j hj (by omega))
  have := vw_app (H.length + 1) (H ++ ⟨dst,w,et,true,true⟩ :: M) N
  rw [List.append_assoc,List.cons_append] at this
  exact this
end
end Go.Proofs.YtbjeldblaclpnaaGreatI
end
section
set_option linter.unusedVariables false
set_option linter.unusedSimpArgs false
namespace Go.Proofs.YtbjeldblaclpnaaGreatI
open Go Go.RowKit
attribute [go_sem] Nat.le_add_right Nat.le_refl
def Co.p2 : Co (Int × Int) := Co.pair Co.int Co.int
theorem SlR.shape {α : Type} {A : Co α} {V : Vw} {v : Value} {l : List α} (h : SlR A V v l) : ∃ a,v = .slice a l.length l.length := h.2.imp fun _ h => h.1
@[go_sem] theorem one_slice (a : Option Addr) (n c : Nat) : one (.slice a n c) = true := rfl
@[go_sem] theorem drop_new (H L : Heap) (k : Nat) : (H ++ L).drop (H.length + k) = L.drop k := by
 rw [List.drop_append,List.drop_of_length_le (by omega),List.nil_append]; congr 1; omega
theorem QC.mkE {F : Nat -> Option IFn} {H : Heap} {f np nt : Nat} {rs : List IRes} {body : ICode} {args : List Value} {Q : Value -> Prop} (hf : F f = some ⟨np,nt,rs,body⟩) (hl : args.length = np) (h : wpc F H.length body (ini args) H (fin rs fun w _ => Q w /\ scal w = true)) : ∃ v,QC F f args H v /\ Q v := by
 obtain ⟨x,e1,H1,h1,h2,w,h3,h4,h5⟩ := h
 exact ⟨w,⟨_,x,e1,H1,hf,hl,h1,h2,h3,h5⟩,h4⟩
end Go.Proofs.YtbjeldblaclpnaaGreatI
end
section
set_option linter.unusedVariables false
set_option linter.unusedSimpArgs false
namespace Go.Proofs.YtbjeldblaclpnaaGreatI
open Go Go.RowKit
def vws (lo : Nat) (H : Heap) : Vw := fun b => if lo <= b then (H[b]?).bind (fun k => if k.solo = true then some k.cells else none) else none
theorem vws_vw (lo : Nat) (H : Heap) : Sub (vws lo H) (vw lo H) := by
 intro b cs h
 unfold vws at h
 unfold vw
 split at h
 ·rename_i hb
  rw [if_pos hb]
  cases hk : H[b]? with
  | none => simp [hk] at h
  | some k =>
    simp only [hk,Option.bind_some] at h
    split at h
    ·simpa using h
    ·cases h
 ·cases h
theorem vws_grow {lo lo' : Nat} {H H1 : Heap} (hl : lo' <= lo) (h : ∀ b,lo <= b -> b < H.length -> H1[b]? = H[b]?) : Sub (vws lo H) (vws lo' H1) := by
 intro b cs k
 unfold vws at k ⊢
 split at k
 ·rename_i h1
  rw [if_pos (by omega)]
  cases hb : H[b]? with
  | none => simp [hb] at k
  | some kb => rw [h b h1 (List.getElem?_eq_some_iff.1 hb).1,hb]; simpa [hb] using k
 ·cases k
theorem vws_app (lo : Nat) (H L : Heap) : Sub (vws lo H) (vws lo (H ++ L)) := vws_grow (Nat.le_refl _) fun b _ h => List.getElem?_append_left h
theorem vws_same (H M : Heap) (x y : Blk) : Sub (vws (H.length + 1) (H ++ x :: M)) (vws (H.length + 1) (H ++ y :: M)) := by
 intro b cs h
 unfold vws at h ⊢
 split at h
 ·rename_i hb
  rw [if_pos hb]
  rw [List.getElem?_append_right (by omega)] at h ⊢
  obtain ⟨k,hk⟩ : ∃ k,b - H.length = k + 1 := ⟨b - H.length - 1,by omega⟩
  rw [hk] at h ⊢
  simpa using h
 ·cases h
section
variable {F : Nat -> Option IFn} {α : Type} {A : Co α} {f g w nt r et bytes : Nat} {agg : Bool} {z : List Value} {b : List IOper}
def InvS (A : Co α) (H : Heap) (w et : Nat) (l : List α) (i : Nat) (H' : Heap) : Prop :=
 ∃ dst M,H' = H ++ ⟨dst,w,et,true,true⟩ :: M /\ dst.length = l.length * w /\ ∀ j (h : j < l.length),j < i -> A.rd (vws (H.length + 1) H') ((dst.drop (j * w)).take w) l[j]
theorem InvS.step {H : Heap} {l : List α} {i : Nat} {dst cs : List Value} {M N : Heap} (hw : A.w = w) (hi : i < l.length) (hd : dst.length = l.length * w)
  (h : ∀ j (h : j < l.length),j < i -> A.rd (vws (H.length + 1) (H ++ ⟨dst,w,et,true,true⟩ :: M)) ((dst.drop (j * w)).take w) l[j])
  (hc : A.rd (vws (H.length + 1) (H ++ ⟨dst,w,et,true,true⟩ :: (M ++ N))) cs l[i]) : InvS A H w et l (i + 1) (H ++ ⟨setL dst (i * w) cs,w,et,true,true⟩ :: (M ++ N)) := by
 have hcl : cs.length = w := by rw [A.len hc,hw]
 have hl : i * w + w <= dst.length := by rw [hd,<- Nat.succ_mul]; exact Nat.mul_le_mul_right _ hi
 refine ⟨_,_,rfl,by rw [setL_length,hd],fun j hj hji => ?_⟩
 refine A.mono (vws_same H (M ++ N) ⟨dst,w,et,true,true⟩ _) ?_
 by_cases hij : j = i
 ·subst hij; rw [setL_at hcl hl]; exact hc
 ·rw [setL_other hcl hl (by omega)]
  refine A.mono ?_ (h j hj (by omega))
  have := vws_app (H.length + 1) (H ++ ⟨dst,w,et,true,true⟩ :: M) N
  rw [List.append_assoc,List.cons_append] at this
  exact this
end
end Go.Proofs.YtbjeldblaclpnaaGreatI
end
section
set_option linter.unusedVariables false
set_option linter.unusedSimpArgs false
namespace Go.Proofs.YtbjeldblaclpnaaGreatI
open Go Go.RowKit
def seqI (k : Int) : Nat -> List Value
 | 0 => []
 | n + 1 => .int .i64 k :: seqI (k + 1) n
theorem setL_get : ∀ (xs cs : List Value) (o i : Nat),o + xs.length <= cs.length -> (setL cs o xs)[i]? = if o <= i /\ i < o + xs.length then xs[i - o]? else cs[i]?
 | [],cs,o,i,_ => by rw [setL_nil,if_neg (by simp only [List.length_nil]; omega)]
 | x :: xs,cs,o,i,h => by
   simp only [List.length_cons] at h
   rw [setL_cons,setL_get xs _ _ _ (by rw [List.length_set]; omega)]
   by_cases h1 : o + 1 <= i /\ i < o + 1 + xs.length
   ·rw [if_pos h1,if_pos (by simp only [List.length_cons]; omega),show i - o = (i - (o + 1)) + 1 by omega,List.getElem?_cons_succ]
   ·rw [if_neg h1]
    by_cases h2 : i = o
    ·subst h2
     rw [if_pos (by simp only [List.length_cons]; omega),Nat.sub_self,List.getElem?_cons_zero,List.getElem?_set_self (by omega)]
    ·rw [if_neg (by simp only [List.length_cons]; omega),List.getElem?_set_ne (by omega)]
theorem NC.mkE {F : Nat -> Option IFn} {lo : Nat} {H : Heap} {f np nt : Nat} {rs : List IRes} {body : ICode} {args : List Value} {v : Value} {H1 : Heap} (hf : F f = some ⟨np,nt,rs,body⟩) (hl : args.length = np) (h : wpc F lo body (ini args) H (fin rs fun w H2 => w = v /\ H2 = H1)) : NC F lo f args H v H1 := by
 obtain ⟨x,e1,H1',h1,h2,w,h3,rfl,rfl⟩ := h
 exact ⟨_,x,e1,hf,hl,h1,h2,h3⟩
def markH (r w : Nat) (b : ICode) (nt : Nat) : IFn := ⟨2,nt,[.t 4],
 .seq (.reg none [⟨some 4,none,.mov (.c (.int .i64 0))⟩])
 (.seq (.seq (.reg none [⟨some 5,none,.mov (.c (.int .i64 0))⟩])
  (.block 0 (.loop (.seq (.seq (.reg none [⟨some 6,none,.mov (.t 5)⟩,⟨some 7,none,.mov (.t 0)⟩,⟨some 8,none,.len (.t 7)⟩,
     ⟨some 9,none,.bin .lss (.t 6) (.t 8)⟩])
    (.cond (.t 9) (.skip) (.exit 0)))
   (.seq (.block 1 b)
   (.reg none [⟨some 10,none,.mov (.t 5)⟩,⟨some 11,none,.bin .add (.t 10) (.c (.int .i64 1))⟩,⟨some 5,none,.mov (.t 11)⟩]))))))
 (.seq (.reg none [
   ⟨(some r),none,.mov (.t 1)⟩,
   ⟨some 4,none,.mov (.t r)⟩])
 (.ret)))⟩
end Go.Proofs.YtbjeldblaclpnaaGreatI
end
section
set_option linter.unusedVariables false
set_option linter.unusedSimpArgs false
namespace Go.Proofs.YtbjeldblaclpnaaGreatI
open Go Go.RowKit
def HeldR (H : Heap) (v : Value) (w n b o : Nat) (k : Int) : Prop := n <= 9223372036854775807 /\ ∃ a,v = .slice a n n /\ (n = 0 \/ a = some ⟨b,o,none⟩ /\ getCells H b o (n * w) = some (seqI k (n * w)))
theorem HeldR.mono {H H1 : Heap} {v : Value} {w n b o : Nat} {k : Int} (h : HeldR H v w n b o k) (hH : n = 0 \/ H1[b]? = H[b]?) : HeldR H1 v w n b o k := by
 obtain ⟨h1,a,h2,h3⟩ := h
 refine ⟨h1,a,h2,?_⟩
 rcases h3 with h3 | ⟨h3,h4⟩
 ·exact .inl h3
 rcases hH with hH | hH
 ·exact .inl hH
 refine .inr ⟨h3,?_⟩
 unfold getCells at h4 ⊢
 rw [hH]
 exact h4
end Go.Proofs.YtbjeldblaclpnaaGreatI
end
end
