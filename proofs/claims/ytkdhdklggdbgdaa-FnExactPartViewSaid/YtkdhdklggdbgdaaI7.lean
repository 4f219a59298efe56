/- The ideal machine's rules for proofs. -/
import Derived.Test.YtkdhdklggdbgdaaI6
set_option linter.unusedVariables false
set_option linter.unusedSimpArgs false
namespace Go.Proofs.YtkdhdklggdbgdaaI
open Go Go.RowKit

section
variable (F : Nat → Option IFn)

/-- A call that only tells a number. -/
def QC (f : Nat) (args : List Value) (H : Heap) (v : Value) : Prop :=
  ∃ fn x e1 H1, F f = some fn ∧ args.length = fn.np ∧ BS F H.length (.code fn.body) (ini args) H x e1 H1 ∧ (x = .n ∨ x = .r) ∧ resV fn.res e1 H1 = some v ∧ scal v = true
/-- A call that may make memory. -/
def KC (f : Nat) (args : List Value) (H : Heap) (v : Value) (H1 : Heap) : Prop :=
  ∃ fn x e1, F f = some fn ∧ args.length = fn.np ∧ BS F H.length (.code fn.body) (ini args) H x e1 H1 ∧ (x = .n ∨ x = .r) ∧ resV fn.res e1 H1 = some v
/-- A call that may write. -/
def NC (lo : Nat) (f : Nat) (args : List Value) (H : Heap) (v : Value) (H1 : Heap) : Prop :=
  ∃ fn x e1, F f = some fn ∧ args.length = fn.np ∧ BS F lo (.code fn.body) (ini args) H x e1 H1 ∧ (x = .n ∨ x = .r) ∧ resV fn.res e1 H1 = some v

def W (lo : Nat) (t : Task) (e : Env) (H : Heap) (K : X → Env → Heap → Prop) : Prop := ∃ x e1 H1, BS F lo t e H x e1 H1 ∧ K x e1 H1

def wpOp (lo : Nat) (o : IOp) (e : Env) (H : Heap) (K : Value → Heap → Prop) : Prop :=
  match o with
  | .call m f args => ∃ g first cap, f.ev e = .func (.func g) first cap ∧ (match m with
    | .q => ∃ v, QC F g (first.toList ++ args.map (·.ev e) ++ cap.toList) H v ∧ K v H
    | .k => ∃ v H1, KC F g (first.toList ++ args.map (·.ev e) ++ cap.toList) H v H1 ∧ K v H1
    | .n => ∃ v H1, NC F lo g (first.toList ++ args.map (·.ev e) ++ cap.toList) H v H1 ∧ K v H1)
  | o => ∃ v H1, iop lo o e H = some (v, H1) ∧ K v H1

def wpo (lo : Nat) : List IOper → Env → Heap → (Env → Heap → Prop) → Prop
  | [], e, H, K => K e H
  | o :: r, e, H, K => (o.runs e = true → wpOp F lo o.op e H fun v H1 => wpo lo r (putE e o.dst v) H1 K) ∧ (o.runs e = false → wpo lo r (putE e o.dst undef) H K)

def wpp (lo : Nat) : Nat → List IOper → Env → Heap → (Env → Heap → Prop) → Prop
  | 0, l, e, H, K => wpo F lo l e H K
  | _ + 1, [], e, H, K => False
  | p + 1, o :: r, e, H, K => (o.runs e = true → wpOp F H.length o.op e H fun v H1 => wpp lo p r (putE e o.dst v) H1 K) ∧ (o.runs e = false → wpp lo p r (putE e o.dst undef) H K)

/-- Behind a piece of code. -/
def thenX (x : X) (e : Env) (H : Heap) (K1 : Env → Heap → Prop) (K : X → Env → Heap → Prop) : Prop :=
  match x with
  | .n => K1 e H
  | x => K x e H

def wpc (lo : Nat) (c : ICode) (e : Env) (H : Heap) (K : X → Env → Heap → Prop) : Prop := W F lo (.code c) e H K
end

section
variable {F : Nat → Option IFn} {lo : Nat} {e : Env} {H : Heap}

theorem wpOp_sound {d : Option Nat} {o : IOp} {K : Value → Heap → Prop} (h : wpOp F lo o e H K) : ∃ v H1, BS F lo (.op d o) e H .n (putE e d v) H1 ∧ K v H1 := by
  unfold wpOp at h
  split at h
  · obtain ⟨g, first, cap, hf, h⟩ := h
    split at h
    · obtain ⟨v, ⟨fn, x, e1, H1, h1, h2, h3, h4, h5, h6⟩, hk⟩ := h
      exact ⟨v, H, BS.callQ hf h1 h2 h3 h4 h5 h6, hk⟩
    · obtain ⟨v, H1, ⟨fn, x, e1, h1, h2, h3, h4, h5⟩, hk⟩ := h
      exact ⟨v, H1, BS.callK hf h1 h2 h3 h4 h5, hk⟩
    · obtain ⟨v, H1, ⟨fn, x, e1, h1, h2, h3, h4, h5⟩, hk⟩ := h
      exact ⟨v, H1, BS.callN hf h1 h2 h3 h4 h5, hk⟩
  · obtain ⟨v, H1, hi, hk⟩ := h
    exact ⟨v, H1, BS.prim hi, hk⟩

theorem wpo_sound : ∀ {l : List IOper} {e : Env} {H : Heap} {K : Env → Heap → Prop}, wpo F lo l e H K → ∃ e1 H1, BS F lo (.ops l) e H .n e1 H1 ∧ K e1 H1
  | [], e, H, K, h => ⟨e, H, BS.nil, h⟩
  | o :: r, e, H, K, h => by
    cases hr : o.runs e with
    | true =>
      obtain ⟨v, H1, h1, h2⟩ := wpOp_sound (d := o.dst) (h.1 hr)
      obtain ⟨e2, H2, h3, h4⟩ := wpo_sound h2
      exact ⟨e2, H2, BS.cons hr h1 h3, h4⟩
    | false =>
      obtain ⟨e2, H2, h3, h4⟩ := wpo_sound (h.2 hr)
      exact ⟨e2, H2, BS.skp hr h3, h4⟩

theorem wpp_sound : ∀ {p : Nat} {l : List IOper} {e : Env} {H : Heap} {K : Env → Heap → Prop}, wpp F lo p l e H K → ∃ e1 H1, BS F lo (.pre p l) e H .n e1 H1 ∧ K e1 H1
  | 0, l, e, H, K, h => by
    obtain ⟨e2, H2, h3, h4⟩ := wpo_sound (h : wpo F lo l e H K)
    exact ⟨e2, H2, BS.pre0 h3, h4⟩
  | p + 1, [], e, H, K, h => h.elim
  | p + 1, o :: r, e, H, K, h => by
    cases hr : o.runs e with
    | true =>
      obtain ⟨v, H1, h1, h2⟩ := wpOp_sound (d := o.dst) (h.1 hr)
      obtain ⟨e2, H2, h3, h4⟩ := wpp_sound h2
      exact ⟨e2, H2, BS.preCons hr h1 h3, h4⟩
    | false =>
      obtain ⟨e2, H2, h3, h4⟩ := wpp_sound (h.2 hr)
      exact ⟨e2, H2, BS.preSkp hr h3, h4⟩

/-! ### Code -/
variable {K : X → Env → Heap → Prop}
theorem wpc_reg {l : List IOper} (h : wpo F lo l e H (K .n)) : wpc F lo (.reg none l) e H K :=
  let ⟨e1, H1, h1, h2⟩ := wpo_sound h; ⟨.n, e1, H1, BS.reg h1, h2⟩
theorem wpc_regD {p : Nat} {l : List IOper} (h : wpp F lo p l e H (K .n)) : wpc F lo (.reg (some p) l) e H K :=
  let ⟨e1, H1, h1, h2⟩ := wpp_sound h; ⟨.n, e1, H1, BS.regD h1, h2⟩
theorem wpc_skip (h : K .n e H) : wpc F lo .skip e H K := ⟨.n, e, H, BS.skip, h⟩
theorem wpc_ret (h : K .r e H) : wpc F lo .ret e H K := ⟨.r, e, H, BS.ret, h⟩
theorem wpc_exit {i : Nat} (h : K (.e i) e H) : wpc F lo (.exit i) e H K := ⟨.e i, e, H, BS.exit, h⟩
theorem wpc_seq {a b : ICode} (h : wpc F lo a e H fun x e1 H1 => thenX x e1 H1 (fun e2 H2 => wpc F lo b e2 H2 K) K) : wpc F lo (.seq a b) e H K := by
  obtain ⟨x, e1, H1, h1, h2⟩ := h
  cases x with
  | n => obtain ⟨x2, e2, H2, h3, h4⟩ := h2; exact ⟨x2, e2, H2, BS.seqN h1 h3, h4⟩
  | e i => exact ⟨_, e1, H1, BS.seqX (by simp) h1, h2⟩
  | r => exact ⟨_, e1, H1, BS.seqX (by simp) h1, h2⟩
theorem wpc_cond {c : Opd} {a b : ICode} {t : Bool} (hc : c.ev e = .bool t) (h : wpc F lo (if t then a else b) e H K) : wpc F lo (.cond c a b) e H K :=
  let ⟨x, e1, H1, h1, h2⟩ := h; ⟨x, e1, H1, BS.cond hc h1, h2⟩
theorem wpc_block {i : Nat} {c : ICode} (h : wpc F lo c e H fun x e1 H1 => K (x.out i) e1 H1) : wpc F lo (.block i c) e H K :=
  let ⟨x, e1, H1, h1, h2⟩ := h; ⟨_, e1, H1, BS.block h1, h2⟩
theorem wpc_loop {c : ICode} (h : W F lo (.lp c) e H K) : wpc F lo (.loop c) e H K :=
  let ⟨x, e1, H1, h1, h2⟩ := h; ⟨x, e1, H1, BS.loop h1, h2⟩
theorem lp_step {c : ICode} (h : wpc F lo c e H fun x e1 H1 => thenX x e1 H1 (fun e2 H2 => W F lo (.lp c) e2 H2 K) K) : W F lo (.lp c) e H K := by
  obtain ⟨x, e1, H1, h1, h2⟩ := h
  cases x with
  | n => obtain ⟨x2, e2, H2, h3, h4⟩ := h2; exact ⟨x2, e2, H2, BS.lpN h1 h3, h4⟩
  | e i => exact ⟨_, e1, H1, BS.lpX (by simp) h1, h2⟩
  | r => exact ⟨_, e1, H1, BS.lpX (by simp) h1, h2⟩
theorem wpc_mono {c : ICode} {K' : X → Env → Heap → Prop} (h : wpc F lo c e H K) (hk : ∀ x e H, K x e H → K' x e H) : wpc F lo c e H K' :=
  let ⟨x, e1, H1, h1, h2⟩ := h; ⟨x, e1, H1, h1, hk _ _ _ h2⟩

/-! ### The same as equations that simp walks by -/
theorem thenX_n (e : Env) (H : Heap) (K1 : Env → Heap → Prop) (K : X → Env → Heap → Prop) : thenX .n e H K1 K = K1 e H := rfl
theorem thenX_e (i : Nat) (e : Env) (H : Heap) (K1 : Env → Heap → Prop) (K : X → Env → Heap → Prop) : thenX (.e i) e H K1 K = K (.e i) e H := rfl
theorem thenX_r (e : Env) (H : Heap) (K1 : Env → Heap → Prop) (K : X → Env → Heap → Prop) : thenX .r e H K1 K = K .r e H := rfl
theorem out_n (i : Nat) : X.out i .n = .n := rfl
theorem out_r (i : Nat) : X.out i .r = .r := rfl
theorem out_e (i j : Nat) : X.out i (.e j) = if j = i then .n else .e j := rfl

/-- One step of the walk, backwards: what must hold ahead of it. -/
def Pre (F : Nat → Option IFn) (lo : Nat) (c : ICode) (e : Env) (H : Heap) (K : X → Env → Heap → Prop) : Prop := wpc F lo c e H K

variable {l : List IOper} {b : ICode}
theorem seq_reg (h : wpo F lo l e H fun e1 H1 => wpc F lo b e1 H1 K) : wpc F lo (.seq (.reg none l) b) e H K := wpc_seq (wpc_reg h)
theorem seq_regD {p : Nat} (h : wpp F lo p l e H fun e1 H1 => wpc F lo b e1 H1 K) : wpc F lo (.seq (.reg (some p) l) b) e H K := wpc_seq (wpc_regD h)
theorem seq_assoc {a c : ICode} (h : wpc F lo (.seq a (.seq b c)) e H K) : wpc F lo (.seq (.seq a b) c) e H K := by
  obtain ⟨x, e1, H1, h1, h2⟩ := h
  cases h1 with
  | seqN g1 g2 =>
    cases g2 with
    | seqN g3 g4 => exact ⟨x, e1, H1, BS.seqN (BS.seqN g1 g3) g4, h2⟩
    | seqX hx g3 => exact ⟨x, e1, H1, BS.seqX hx (BS.seqN g1 g3), h2⟩
  | seqX hx g1 => exact ⟨x, e1, H1, BS.seqX hx (BS.seqX hx g1), h2⟩
theorem seq_skip (h : wpc F lo b e H K) : wpc F lo (.seq .skip b) e H K := wpc_seq (wpc_skip h)
theorem seq_ret (h : K .r e H) : wpc F lo (.seq .ret b) e H K := wpc_seq (wpc_ret h)
theorem seq_exit {i : Nat} (h : K (.e i) e H) : wpc F lo (.seq (.exit i) b) e H K := wpc_seq (wpc_exit h)
theorem seq_cond {c : Opd} {x y : ICode} {t : Bool} (hc : c.ev e = .bool t) (h : wpc F lo (.seq (if t then x else y) b) e H K) : wpc F lo (.seq (.cond c x y) b) e H K := by
  obtain ⟨z, e1, H1, h1, h2⟩ := h
  cases h1 with
  | seqN g1 g2 => exact ⟨z, e1, H1, BS.seqN (BS.cond hc g1) g2, h2⟩
  | seqX hx g1 => exact ⟨z, e1, H1, BS.seqX hx (BS.cond hc g1), h2⟩
theorem seq_block {i : Nat} {c : ICode} (h : wpc F lo c e H fun x e1 H1 => thenX (x.out i) e1 H1 (fun e2 H2 => wpc F lo b e2 H2 K) K) : wpc F lo (.seq (.block i c) b) e H K := wpc_seq (wpc_block h)
theorem seq_loop {c : ICode} (h : W F lo (.lp c) e H fun x e1 H1 => thenX x e1 H1 (fun e2 H2 => wpc F lo b e2 H2 K) K) : wpc F lo (.seq (.loop c) b) e H K := wpc_seq (wpc_loop h)

/-! ### Operations -/
section
variable {d : Option Nat} {op : IOp} {r : List IOper} {K : Env → Heap → Prop} {p : Nat}
theorem wpo_cons (h : wpOp F lo op e H fun v H1 => wpo F lo r (putE e d v) H1 K) : wpo F lo (⟨d, none, op⟩ :: r) e H K := ⟨fun _ => h, fun h => by simp [IOper.runs] at h⟩
theorem wpo_yes {g : Nat} {w : Bool} (hg : e g = .bool w) (h : wpOp F lo op e H fun v H1 => wpo F lo r (putE e d v) H1 K) : wpo F lo (⟨d, some (g, w), op⟩ :: r) e H K := ⟨fun _ => h, fun h => by simp [IOper.runs, hg] at h⟩
theorem wpo_no {g : Nat} {w : Bool} (hg : e g = .bool (!w)) (h : wpo F lo r (putE e d undef) H K) : wpo F lo (⟨d, some (g, w), op⟩ :: r) e H K := ⟨fun h => by simp [IOper.runs, hg] at h, fun _ => h⟩
theorem wpp_cons (h : wpOp F H.length op e H fun v H1 => wpp F lo p r (putE e d v) H1 K) : wpp F lo (p + 1) (⟨d, none, op⟩ :: r) e H K := ⟨fun _ => h, fun h => by simp [IOper.runs] at h⟩
theorem wpp_yes {g : Nat} {w : Bool} (hg : e g = .bool w) (h : wpOp F H.length op e H fun v H1 => wpp F lo p r (putE e d v) H1 K) : wpp F lo (p + 1) (⟨d, some (g, w), op⟩ :: r) e H K := ⟨fun _ => h, fun h => by simp [IOper.runs, hg] at h⟩
theorem wpp_no {g : Nat} {w : Bool} (hg : e g = .bool (!w)) (h : wpp F lo p r (putE e d undef) H K) : wpp F lo (p + 1) (⟨d, some (g, w), op⟩ :: r) e H K := ⟨fun h => by simp [IOper.runs, hg] at h, fun _ => h⟩
end
end

theorem putE_get (e : Env) (d : Nat) (v : Value) (i : Nat) : putE e (some d) v i = if i = d then v else e i := rfl
theorem putE_none (e : Env) (v : Value) : putE e none v = e := rfl

end Go.Proofs.YtkdhdklggdbgdaaI
