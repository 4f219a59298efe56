/- Texts of this proof, merged: M4, M5. -/
import Derived.Test.YtkmghcglmjehcaaPg3
import Derived.ProofKit
import Derived.ChangeOld
import Derived.ChangeSlices
import Derived.Deep.Strs
import Derived.Below
section
/- Texts of this proof, merged: I7, I8, I9, I10, I11, I12, I13, I20, I21, I22. -/
section
/- The ideal machine's rules for proofs. -/
set_option linter.unusedVariables false
set_option linter.unusedSimpArgs false
namespace Go.Proofs.YtkmghcglmjehcaaI
open Go Go.RowKit

section
variable (F : Nat → Option IFn)

/-- A call that only tells a number. -/
def QC (f : Nat) (args : List Value) (H : Heap) (v : Value) : Prop :=
  ∃ fn x e1 H1, F f = some fn ∧ args.length = fn.np ∧ BS F H.length (.code fn.body) (ini args) H x e1 H1 ∧ (x = .n ∨ x = .r) ∧ resV fn.res e1 H1 = some v ∧ scal v = true
/-- A call that may make memory. -/
def KC (f : Nat) (args : List Value) (H : Heap) (v : Value) (H1 : Heap) : Prop :=
  ∃ fn x e1, F f = some fn ∧ args.length = fn.np ∧ BS F H.length (.code fn.body) (ini args) H x e1 H1 ∧ (x = .n ∨ x = .r) ∧ resV fn.res e1 H1 = some v
/-- A call that may write. -/
def NC (lo : Nat) (f : Nat) (args : List Value) (H : Heap) (v : Value) (H1 : Heap) : Prop :=
  ∃ fn x e1, F f = some fn ∧ args.length = fn.np ∧ BS F lo (.code fn.body) (ini args) H x e1 H1 ∧ (x = .n ∨ x = .r) ∧ resV fn.res e1 H1 = some v

def W (lo : Nat) (t : Task) (e : Env) (H : Heap) (K : X → Env → Heap → Prop) : Prop := ∃ x e1 H1, BS F lo t e H x e1 H1 ∧ K x e1 H1

def wpOp (lo : Nat) (o : IOp) (e : Env) (H : Heap) (K : Value → Heap → Prop) : Prop :=
  match o with
  | .call m f args => ∃ g first cap, f.ev e = .func (.func g) first cap ∧ (match m with
    | .q => ∃ v, QC F g (first.toList ++ args.map (·.ev e) ++ cap.toList) H v ∧ K v H
    | .k => ∃ v H1, KC F g (first.toList ++ args.map (·.ev e) ++ cap.toList) H v H1 ∧ K v H1
    | .n => ∃ v H1, NC F lo g (first.toList ++ args.map (·.ev e) ++ cap.toList) H v H1 ∧ K v H1)
  | o => ∃ v H1, iop lo o e H = some (v, H1) ∧ K v H1

def wpo (lo : Nat) : List IOper → Env → Heap → (Env → Heap → Prop) → Prop
  | [], e, H, K => K e H
  | o :: r, e, H, K => (o.runs e = true → wpOp F lo o.op e H fun v H1 => wpo lo r (putE e o.dst v) H1 K) ∧ (o.runs e = false → wpo lo r (putE e o.dst undef) H K)

def wpp (lo : Nat) : Nat → List IOper → Env → Heap → (Env → Heap → Prop) → Prop
  | 0, l, e, H, K => wpo F lo l e H K
  | _ + 1, [], e, H, K => False
  | p + 1, o :: r, e, H, K => (o.runs e = true → wpOp F H.length o.op e H fun v H1 => wpp lo p r (putE e o.dst v) H1 K) ∧ (o.runs e = false → wpp lo p r (putE e o.dst undef) H K)

def wpw (lo : Nat) : Nat → List IOper → Env → Heap → (Env → Heap → Prop) → Prop
  | 0, o :: r, e, H, K => o.guard = none ∧ wpo F lo (o :: r) e H K
  | p + 1, o :: r, e, H, K => (o.runs e = true → wpOp F H.length o.op e H fun v H1 => wpw lo p r (putE e o.dst v) H1 K) ∧ (o.runs e = false → wpw lo p r (putE e o.dst undef) H K)
  | _, [], e, H, K => False

/-- Behind a piece of code. -/
def thenX (x : X) (e : Env) (H : Heap) (K1 : Env → Heap → Prop) (K : X → Env → Heap → Prop) : Prop :=
  match x with
  | .n => K1 e H
  | x => K x e H

def wpc (lo : Nat) (c : ICode) (e : Env) (H : Heap) (K : X → Env → Heap → Prop) : Prop := W F lo (.code c) e H K
end

section
variable {F : Nat → Option IFn} {lo : Nat} {e : Env} {H : Heap}

theorem wpOp_sound {d : Option Nat} {o : IOp} {K : Value → Heap → Prop} (h : wpOp F lo o e H K) : ∃ v H1, BS F lo (.op d o) e H .n (putE e d v) H1 ∧ K v H1 := by
  unfold wpOp at h
  split at h
  · obtain ⟨g, first, cap, hf, h⟩ := h
    split at h
    · obtain ⟨v, ⟨fn, x, e1, H1, h1, h2, h3, h4, h5, h6⟩, hk⟩ := h
      exact ⟨v, H, BS.callQ hf h1 h2 h3 h4 h5 h6, hk⟩
    · obtain ⟨v, H1, ⟨fn, x, e1, h1, h2, h3, h4, h5⟩, hk⟩ := h
      exact ⟨v, H1, BS.callK hf h1 h2 h3 h4 h5, hk⟩
    · obtain ⟨v, H1, ⟨fn, x, e1, h1, h2, h3, h4, h5⟩, hk⟩ := h
      exact ⟨v, H1, BS.callN hf h1 h2 h3 h4 h5, hk⟩
  · obtain ⟨v, H1, hi, hk⟩ := h
    exact ⟨v, H1, BS.prim hi, hk⟩

theorem wpo_sound : ∀ {l : List IOper} {e : Env} {H : Heap} {K : Env → Heap → Prop}, wpo F lo l e H K → ∃ e1 H1, BS F lo (.ops l) e H .n e1 H1 ∧ K e1 H1
  | [], e, H, K, h => ⟨e, H, BS.nil, h⟩
  | o :: r, e, H, K, h => by
    cases hr : o.runs e with
    | true =>
      obtain ⟨v, H1, h1, h2⟩ := wpOp_sound (d := o.dst) (h.1 hr)
      obtain ⟨e2, H2, h3, h4⟩ := wpo_sound h2
      exact ⟨e2, H2, BS.cons hr h1 h3, h4⟩
    | false =>
      obtain ⟨e2, H2, h3, h4⟩ := wpo_sound (h.2 hr)
      exact ⟨e2, H2, BS.skp hr h3, h4⟩

theorem wpp_sound : ∀ {p : Nat} {l : List IOper} {e : Env} {H : Heap} {K : Env → Heap → Prop}, wpp F lo p l e H K → ∃ e1 H1, BS F lo (.pre p l) e H .n e1 H1 ∧ K e1 H1
  | 0, l, e, H, K, h => by
    obtain ⟨e2, H2, h3, h4⟩ := wpo_sound (h : wpo F lo l e H K)
    exact ⟨e2, H2, BS.pre0 h3, h4⟩
  | p + 1, [], e, H, K, h => h.elim
  | p + 1, o :: r, e, H, K, h => by
    cases hr : o.runs e with
    | true =>
      obtain ⟨v, H1, h1, h2⟩ := wpOp_sound (d := o.dst) (h.1 hr)
      obtain ⟨e2, H2, h3, h4⟩ := wpp_sound h2
      exact ⟨e2, H2, BS.preCons hr h1 h3, h4⟩
    | false =>
      obtain ⟨e2, H2, h3, h4⟩ := wpp_sound (h.2 hr)
      exact ⟨e2, H2, BS.preSkp hr h3, h4⟩

theorem wpw_sound : ∀ {p : Nat} {l : List IOper} {e : Env} {H : Heap} {K : Env → Heap → Prop}, wpw F lo p l e H K → ∃ e1 H1, BS F lo (.prw p l) e H .n e1 H1 ∧ K e1 H1
  | 0, [], e, H, K, h => h.elim
  | 0, o :: r, e, H, K, h => by
    obtain ⟨hg, h⟩ := h
    have hr : o.runs e = true := by rw [IOper.runs, hg]
    obtain ⟨v, H1, h1, h2⟩ := wpOp_sound (d := o.dst) (h.1 hr)
    obtain ⟨e2, H2, h3, h4⟩ := wpo_sound h2
    exact ⟨e2, H2, BS.pw0 hr h1 h3, h4⟩
  | p + 1, [], e, H, K, h => h.elim
  | p + 1, o :: r, e, H, K, h => by
    cases hr : o.runs e with
    | true =>
      obtain ⟨v, H1, h1, h2⟩ := wpOp_sound (d := o.dst) (h.1 hr)
      obtain ⟨e2, H2, h3, h4⟩ := wpw_sound h2
      exact ⟨e2, H2, BS.pwCons hr h1 h3, h4⟩
    | false =>
      obtain ⟨e2, H2, h3, h4⟩ := wpw_sound (h.2 hr)
      exact ⟨e2, H2, BS.pwSkp hr h3, h4⟩

/-! ### Code -/
variable {K : X → Env → Heap → Prop}
theorem wpc_reg {l : List IOper} (h : wpo F lo l e H (K .n)) : wpc F lo (.reg none l) e H K :=
  let ⟨e1, H1, h1, h2⟩ := wpo_sound h; ⟨.n, e1, H1, BS.reg h1, h2⟩
theorem wpc_regD {p : Nat} {l : List IOper} (h : wpp F lo p l e H (K .n)) : wpc F lo (.reg (some p) l) e H K :=
  let ⟨e1, H1, h1, h2⟩ := wpp_sound h; ⟨.n, e1, H1, BS.regD h1, h2⟩
theorem wpc_regW {p : Nat} {l : List IOper} (h : wpw F lo p l e H (K .n)) : wpc F lo (.regW p l) e H K :=
  let ⟨e1, H1, h1, h2⟩ := wpw_sound h; ⟨.n, e1, H1, BS.regW h1, h2⟩
theorem wpc_skip (h : K .n e H) : wpc F lo .skip e H K := ⟨.n, e, H, BS.skip, h⟩
theorem wpc_ret (h : K .r e H) : wpc F lo .ret e H K := ⟨.r, e, H, BS.ret, h⟩
theorem wpc_exit {i : Nat} (h : K (.e i) e H) : wpc F lo (.exit i) e H K := ⟨.e i, e, H, BS.exit, h⟩
theorem wpc_seq {a b : ICode} (h : wpc F lo a e H fun x e1 H1 => thenX x e1 H1 (fun e2 H2 => wpc F lo b e2 H2 K) K) : wpc F lo (.seq a b) e H K := by
  obtain ⟨x, e1, H1, h1, h2⟩ := h
  cases x with
  | n => obtain ⟨x2, e2, H2, h3, h4⟩ := h2; exact ⟨x2, e2, H2, BS.seqN h1 h3, h4⟩
  | e i => exact ⟨_, e1, H1, BS.seqX (by simp) h1, h2⟩
  | r => exact ⟨_, e1, H1, BS.seqX (by simp) h1, h2⟩
theorem wpc_cond {c : Opd} {a b : ICode} {t : Bool} (hc : c.ev e = .bool t) (h : wpc F lo (if t then a else b) e H K) : wpc F lo (.cond c a b) e H K :=
  let ⟨x, e1, H1, h1, h2⟩ := h; ⟨x, e1, H1, BS.cond hc h1, h2⟩
theorem wpc_block {i : Nat} {c : ICode} (h : wpc F lo c e H fun x e1 H1 => K (x.out i) e1 H1) : wpc F lo (.block i c) e H K :=
  let ⟨x, e1, H1, h1, h2⟩ := h; ⟨_, e1, H1, BS.block h1, h2⟩
theorem wpc_loop {c : ICode} (h : W F lo (.lp c) e H K) : wpc F lo (.loop c) e H K :=
  let ⟨x, e1, H1, h1, h2⟩ := h; ⟨x, e1, H1, BS.loop h1, h2⟩
theorem lp_step {c : ICode} (h : wpc F lo c e H fun x e1 H1 => thenX x e1 H1 (fun e2 H2 => W F lo (.lp c) e2 H2 K) K) : W F lo (.lp c) e H K := by
  obtain ⟨x, e1, H1, h1, h2⟩ := h
  cases x with
  | n => obtain ⟨x2, e2, H2, h3, h4⟩ := h2; exact ⟨x2, e2, H2, BS.lpN h1 h3, h4⟩
  | e i => exact ⟨_, e1, H1, BS.lpX (by simp) h1, h2⟩
  | r => exact ⟨_, e1, H1, BS.lpX (by simp) h1, h2⟩
theorem wpc_mono {c : ICode} {K' : X → Env → Heap → Prop} (h : wpc F lo c e H K) (hk : ∀ x e H, K x e H → K' x e H) : wpc F lo c e H K' :=
  let ⟨x, e1, H1, h1, h2⟩ := h; ⟨x, e1, H1, h1, hk _ _ _ h2⟩

/-! ### The same as equations that simp walks by -/
theorem thenX_n (e : Env) (H : Heap) (K1 : Env → Heap → Prop) (K : X → Env → Heap → Prop) : thenX .n e H K1 K = K1 e H := rfl
theorem thenX_e (i : Nat) (e : Env) (H : Heap) (K1 : Env → Heap → Prop) (K : X → Env → Heap → Prop) : thenX (.e i) e H K1 K = K (.e i) e H := rfl
theorem thenX_r (e : Env) (H : Heap) (K1 : Env → Heap → Prop) (K : X → Env → Heap → Prop) : thenX .r e H K1 K = K .r e H := rfl
theorem out_n (i : Nat) : X.out i .n = .n := rfl
theorem out_r (i : Nat) : X.out i .r = .r := rfl
theorem out_e (i j : Nat) : X.out i (.e j) = if j = i then .n else .e j := rfl

variable {l : List IOper} {b : ICode}
theorem seq_reg (h : wpo F lo l e H fun e1 H1 => wpc F lo b e1 H1 K) : wpc F lo (.seq (.reg none l) b) e H K := wpc_seq (wpc_reg h)
theorem seq_regW {p : Nat} (h : wpw F lo p l e H fun e1 H1 => wpc F lo b e1 H1 K) : wpc F lo (.seq (.regW p l) b) e H K := wpc_seq (wpc_regW h)
theorem seq_regD {p : Nat} (h : wpp F lo p l e H fun e1 H1 => wpc F lo b e1 H1 K) : wpc F lo (.seq (.reg (some p) l) b) e H K := wpc_seq (wpc_regD h)
theorem seq_assoc {a c : ICode} (h : wpc F lo (.seq a (.seq b c)) e H K) : wpc F lo (.seq (.seq a b) c) e H K := by
  obtain ⟨x, e1, H1, h1, h2⟩ := h
  cases h1 with
  | seqN g1 g2 =>
    cases g2 with
    | seqN g3 g4 => exact ⟨x, e1, H1, BS.seqN (BS.seqN g1 g3) g4, h2⟩
    | seqX hx g3 => exact ⟨x, e1, H1, BS.seqX hx (BS.seqN g1 g3), h2⟩
  | seqX hx g1 => exact ⟨x, e1, H1, BS.seqX hx (BS.seqX hx g1), h2⟩
theorem seq_skip (h : wpc F lo b e H K) : wpc F lo (.seq .skip b) e H K := wpc_seq (wpc_skip h)
theorem seq_ret (h : K .r e H) : wpc F lo (.seq .ret b) e H K := wpc_seq (wpc_ret h)
theorem seq_exit {i : Nat} (h : K (.e i) e H) : wpc F lo (.seq (.exit i) b) e H K := wpc_seq (wpc_exit h)
theorem seq_cond {c : Opd} {x y : ICode} {t : Bool} (hc : c.ev e = .bool t) (h : wpc F lo (.seq (if t then x else y) b) e H K) : wpc F lo (.seq (.cond c x y) b) e H K := by
  obtain ⟨z, e1, H1, h1, h2⟩ := h
  cases h1 with
  | seqN g1 g2 => exact ⟨z, e1, H1, BS.seqN (BS.cond hc g1) g2, h2⟩
  | seqX hx g1 => exact ⟨z, e1, H1, BS.seqX hx (BS.cond hc g1), h2⟩
theorem seq_block {i : Nat} {c : ICode} (h : wpc F lo c e H fun x e1 H1 => thenX (x.out i) e1 H1 (fun e2 H2 => wpc F lo b e2 H2 K) K) : wpc F lo (.seq (.block i c) b) e H K := wpc_seq (wpc_block h)
/-! ### Operations -/
section
variable {d : Option Nat} {op : IOp} {r : List IOper} {K : Env → Heap → Prop} {p : Nat}
theorem wpo_cons (h : wpOp F lo op e H fun v H1 => wpo F lo r (putE e d v) H1 K) : wpo F lo (⟨d, none, op⟩ :: r) e H K := ⟨fun _ => h, fun h => by simp [IOper.runs] at h⟩
theorem wpo_yes {g : Nat} {w : Bool} (hg : e g = .bool w) (h : wpOp F lo op e H fun v H1 => wpo F lo r (putE e d v) H1 K) : wpo F lo (⟨d, some (g, w), op⟩ :: r) e H K := ⟨fun _ => h, fun h => by simp [IOper.runs, hg] at h⟩
theorem wpo_no {g : Nat} {w : Bool} (hg : e g = .bool (!w)) (h : wpo F lo r (putE e d undef) H K) : wpo F lo (⟨d, some (g, w), op⟩ :: r) e H K := ⟨fun h => by simp [IOper.runs, hg] at h, fun _ => h⟩
theorem wpp_cons (h : wpOp F H.length op e H fun v H1 => wpp F lo p r (putE e d v) H1 K) : wpp F lo (p + 1) (⟨d, none, op⟩ :: r) e H K := ⟨fun _ => h, fun h => by simp [IOper.runs] at h⟩
theorem wpw_cons (h : wpOp F H.length op e H fun v H1 => wpw F lo p r (putE e d v) H1 K) : wpw F lo (p + 1) (⟨d, none, op⟩ :: r) e H K := ⟨fun _ => h, fun h => by simp [IOper.runs] at h⟩
theorem wpp_yes {g : Nat} {w : Bool} (hg : e g = .bool w) (h : wpOp F H.length op e H fun v H1 => wpp F lo p r (putE e d v) H1 K) : wpp F lo (p + 1) (⟨d, some (g, w), op⟩ :: r) e H K := ⟨fun _ => h, fun h => by simp [IOper.runs, hg] at h⟩
theorem wpp_no {g : Nat} {w : Bool} (hg : e g = .bool (!w)) (h : wpp F lo p r (putE e d undef) H K) : wpp F lo (p + 1) (⟨d, some (g, w), op⟩ :: r) e H K := ⟨fun h => by simp [IOper.runs, hg] at h, fun _ => h⟩
end
end

theorem putE_get (e : Env) (d : Nat) (v : Value) (i : Nat) : putE e (some d) v i = if i = d then v else e i := rfl
theorem putE_none (e : Env) (v : Value) : putE e none v = e := rfl

end Go.Proofs.YtkmghcglmjehcaaI
end
section
/- The ideal machine's rules as equations that simp walks by. -/
set_option linter.unusedVariables false
set_option linter.unusedSimpArgs false
namespace Go.Proofs.YtkmghcglmjehcaaI
open Go Go.RowKit

section
variable (F : Nat → Option IFn) (lo : Nat) (e : Env) (H : Heap)

/-- What is done behind an operation of a region. -/
def Kc (r : List IOper) (d : Option Nat) (e : Env) (K : Env → Heap → Prop) (v : Value) (H1 : Heap) : Prop := wpo F lo r (putE e d v) H1 K
def Kp (p : Nat) (r : List IOper) (d : Option Nat) (e : Env) (K : Env → Heap → Prop) (v : Value) (H1 : Heap) : Prop := wpp F lo p r (putE e d v) H1 K
def Kw (p : Nat) (r : List IOper) (d : Option Nat) (e : Env) (K : Env → Heap → Prop) (v : Value) (H1 : Heap) : Prop := wpw F lo p r (putE e d v) H1 K
@[go_sem] theorem Kw_app (p : Nat) (r : List IOper) (d : Option Nat) (K : Env → Heap → Prop) (v : Value) (H1 : Heap) : Kw F lo p r d e K v H1 = wpw F lo p r (putE e d v) H1 K := rfl
@[go_sem] theorem Kc_app (r : List IOper) (d : Option Nat) (K : Env → Heap → Prop) (v : Value) (H1 : Heap) : Kc F lo r d e K v H1 = wpo F lo r (putE e d v) H1 K := rfl
@[go_sem] theorem Kp_app (p : Nat) (r : List IOper) (d : Option Nat) (K : Env → Heap → Prop) (v : Value) (H1 : Heap) : Kp F lo p r d e K v H1 = wpp F lo p r (putE e d v) H1 K := rfl

@[go_sem] theorem wpo_nil (K : Env → Heap → Prop) : wpo F lo [] e H K = K e H := rfl
@[go_sem] theorem wpo_one (d : Option Nat) (op : IOp) (r : List IOper) (K : Env → Heap → Prop) : wpo F lo (⟨d, none, op⟩ :: r) e H K = wpOp F lo op e H (Kc F lo r d e K) :=
  propext ⟨fun h => h.1 rfl, wpo_cons⟩
@[go_sem] theorem wpo_on (d : Option Nat) (op : IOp) (r : List IOper) (K : Env → Heap → Prop) (g : Nat) (w : Bool) (hg : e g = .bool w) : wpo F lo (⟨d, some (g, w), op⟩ :: r) e H K = wpOp F lo op e H (Kc F lo r d e K) :=
  propext ⟨fun h => h.1 (by simp [IOper.runs, hg]), wpo_yes hg⟩
@[go_sem] theorem wpo_off (d : Option Nat) (op : IOp) (r : List IOper) (K : Env → Heap → Prop) (g : Nat) (w : Bool) (hg : e g = .bool (!w)) : wpo F lo (⟨d, some (g, w), op⟩ :: r) e H K = wpo F lo r (putE e d undef) H K :=
  propext ⟨fun h => h.2 (by simp [IOper.runs, hg]), wpo_no hg⟩
@[go_sem] theorem wpw_nil (d : Option Nat) (op : IOp) (r : List IOper) (K : Env → Heap → Prop) : wpw F lo 0 (⟨d, none, op⟩ :: r) e H K = wpo F lo (⟨d, none, op⟩ :: r) e H K :=
  propext ⟨fun h => h.2, fun h => ⟨rfl, h⟩⟩
@[go_sem] theorem wpw_one (p : Nat) (d : Option Nat) (op : IOp) (r : List IOper) (K : Env → Heap → Prop) : wpw F lo (p + 1) (⟨d, none, op⟩ :: r) e H K = wpOp F H.length op e H (Kw F lo p r d e K) :=
  propext ⟨fun h => h.1 rfl, wpw_cons⟩
@[go_sem] theorem wpp_nil (l : List IOper) (K : Env → Heap → Prop) : wpp F lo 0 l e H K = wpo F lo l e H K := rfl
@[go_sem] theorem wpp_one (p : Nat) (d : Option Nat) (op : IOp) (r : List IOper) (K : Env → Heap → Prop) : wpp F lo (p + 1) (⟨d, none, op⟩ :: r) e H K = wpOp F H.length op e H (Kp F lo p r d e K) :=
  propext ⟨fun h => h.1 rfl, wpp_cons⟩
@[go_sem] theorem wpp_on (p : Nat) (d : Option Nat) (op : IOp) (r : List IOper) (K : Env → Heap → Prop) (g : Nat) (w : Bool) (hg : e g = .bool w) : wpp F lo (p + 1) (⟨d, some (g, w), op⟩ :: r) e H K = wpOp F H.length op e H (Kp F lo p r d e K) :=
  propext ⟨fun h => h.1 (by simp [IOper.runs, hg]), wpp_yes hg⟩
@[go_sem] theorem wpp_off (p : Nat) (d : Option Nat) (op : IOp) (r : List IOper) (K : Env → Heap → Prop) (g : Nat) (w : Bool) (hg : e g = .bool (!w)) : wpp F lo (p + 1) (⟨d, some (g, w), op⟩ :: r) e H K = wpp F lo p r (putE e d undef) H K :=
  propext ⟨fun h => h.2 (by simp [IOper.runs, hg]), wpp_no hg⟩

/-! ### Operations: what they ask, and what they tell -/
variable (K : Value → Heap → Prop)
def pickP (c a b : Value) (K : Value → Prop) : Prop := match c with
  | .bool t => K (if t then a else b)
  | _ => False
def loadP (H : Heap) (v : Value) (agg : Bool) (n : Nat) (K : Value → Prop) : Prop := match v with
  | .pointer (some a) => match getCells H a.block a.off n with
    | some cs => match valOf agg cs with
      | some v => K v
      | none => False
    | none => False
  | _ => False
def storeP (lo : Nat) (H : Heap) (v : Value) (n : Nat) (y : Value) (K : Heap → Prop) : Prop := match v with
  | .pointer (some a) => match H[a.block]? with
    | some k => (lo ≤ a.block ∧ k.solo = true ∧ y.cells.toList.length = n ∧ a.off + n ≤ k.cells.length ∧ y.cells.toList.all one = true) ∧ K (H.set a.block { k with cells := setL k.cells a.off y.cells.toList })
    | none => False
  | _ => False
def optP (o : Option Value) (K : Value → Prop) : Prop := match o with
  | some v => K v
  | none => False
def iadP (es : Nat) (v w : Value) (K : Value → Prop) : Prop := match v, w with
  | .slice (some a) n _, .int _ j => (0 ≤ j ∧ j < n) ∧ K (ptr a.block (a.off + j.toNat * es))
  | _, _ => False
def lenP (v : Value) (K : Value → Prop) : Prop := match v with
  | .slice _ n _ => K (.int .i64 n)
  | _ => False
def fadP (off : Nat) (v : Value) (K : Value → Prop) : Prop := match v with
  | .pointer (some a) => K (ptr a.block (a.off + off))
  | _ => False
def mksP (es et bytes : Nat) (z : List Value) (H : Heap) (v w : Value) (K : Value → Heap → Prop) : Prop := match v, w with
  | .int _ n, .int _ n' => (0 ≤ n ∧ n' = n ∧ n * bytes ≤ 140737488355328 ∧ n ≤ 9223372036854775807) ∧ K (sli H.length 0 n.toNat) (H ++ [⟨(List.replicate n.toNat z).flatten, es, et, true, true⟩])
  | _, _ => False

@[simp] theorem exK {a : Value} {b : Heap} {K : Value → Heap → Prop} : (∃ v H1, (a = v ∧ b = H1) ∧ K v H1) ↔ K a b := ⟨fun ⟨_, _, ⟨h, h'⟩, k⟩ => by subst h; subst h'; exact k, fun k => ⟨_, _, ⟨rfl, rfl⟩, k⟩⟩
theorem prim_eq {o : IOp} (ho : ∀ m f args, o ≠ .call m f args) : wpOp F lo o e H K = ∃ v H1, iop lo o e H = some (v, H1) ∧ K v H1 := by
  cases o <;> first | rfl | (exfalso; exact ho _ _ _ rfl)

theorem viaO {o : IOp} (ho : ∀ m f args, o ≠ .call m f args) {w : Option Value} (hi : iop lo o e H = w.map fun v => (v, H)) : wpOp F lo o e H K = optP w (fun v => K v H) := by
  rw [prim_eq _ _ _ _ _ ho, hi]
  cases w <;> simp [optP]

@[go_sem] theorem op_mov (x : Opd) : wpOp F lo (.mov x) e H K = K (x.ev e) H := propext ⟨fun ⟨_, _, h, k⟩ => by simp only [iop, Option.some.injEq, Prod.mk.injEq] at h; obtain ⟨rfl, rfl⟩ := h; exact k, fun k => ⟨_, _, rfl, k⟩⟩
@[go_sem] theorem op_pick (c a b : Opd) : wpOp F lo (.pick c a b) e H K = pickP (c.ev e) (a.ev e) (b.ev e) (fun v => K v H) := by
  rw [prim_eq _ _ _ _ _ (by simp)]
  simp only [iop]
  cases c.ev e <;> simp [pickP]
@[go_sem] theorem op_new (z : List Value) : wpOp F lo (.new z) e H K = K (ptr H.length 0) (H ++ [⟨z, 0, 0, false, true⟩]) := by
  rw [prim_eq _ _ _ _ _ (by simp)]; simp [iop]
@[go_sem] theorem op_box (x : Opd) : wpOp F lo (.box x) e H K = ((x.ev e).cells.toList.all one = true ∧ K (ptr H.length 0) (H ++ [⟨(x.ev e).cells.toList, 0, 0, false, true⟩])) := by
  rw [prim_eq _ _ _ _ _ (by simp)]
  simp only [iop]
  split
  · rename_i h; simp [h]
  · rename_i h; simp [h]
@[go_sem] theorem op_build (z : List Value) (ps : List (Nat × Nat × Opd)) : wpOp F lo (.build z ps) e H K = optP ((fillL e z ps).map fun cs => .agg cs.toArray) (fun v => K v H) := by
  rw [prim_eq _ _ _ _ _ (by simp)]
  simp only [iop]
  cases fillL e z ps <;> simp [optP]
def litP (es et len : Nat) (o : Option (List Value)) (H : Heap) (K : Value → Heap → Prop) : Prop := match o with
  | some cs => K (sli H.length 0 len) (H ++ [⟨cs, es, et, true, true⟩])
  | none => False
@[go_sem] theorem op_lit (es et len : Nat) (z : List Value) (ps : List (Nat × Nat × Opd)) : wpOp F lo (.lit es et len z ps) e H K = litP es et len (fillL e z ps) H K := by
  rw [prim_eq _ _ _ _ _ (by simp)]
  simp only [iop]
  cases fillL e z ps <;> simp [litP]
@[go_sem] theorem op_load (agg : Bool) (n : Nat) (x : Opd) : wpOp F lo (.load agg n x) e H K = loadP H (x.ev e) agg n (fun v => K v H) := by
  rw [prim_eq _ _ _ _ _ (by simp)]
  simp only [iop]
  cases x.ev e with
  | pointer a => cases a with
    | none => simp [loadP]
    | some a =>
      simp only [loadP]
      cases getCells H a.block a.off n with
      | none => simp
      | some cs => simp only [Option.bind_some]; cases valOf agg cs <;> simp
  | _ => simp [loadP]
@[go_sem] theorem op_store (n : Nat) (x y : Opd) : wpOp F lo (.store n x y) e H K = storeP lo H (x.ev e) n (y.ev e) (fun H1 => K undef H1) := by
  rw [prim_eq _ _ _ _ _ (by simp)]
  simp only [iop]
  cases x.ev e with
  | pointer a => cases a with
    | none => simp [storeP]
    | some a =>
      simp only [storeP]
      cases H[a.block]? with
      | none => simp
      | some k =>
        simp only
        split
        · rename_i h; simp only [Option.some.injEq, Prod.mk.injEq]; exact propext ⟨fun ⟨_, _, ⟨h1, h2⟩, k⟩ => by subst h1; subst h2; exact ⟨h, k⟩, fun k => ⟨_, _, ⟨rfl, rfl⟩, k.2⟩⟩
        · rename_i h; exact propext ⟨fun ⟨_, _, h', _⟩ => (by cases h'), fun h' => absurd h'.1 h⟩
  | _ => simp [storeP]
@[go_sem] theorem op_bin (op : BinOp) (x y : Opd) : wpOp F lo (.bin op x y) e H K = optP (binV op (x.ev e) (y.ev e)) (fun v => K v H) := by
  rw [prim_eq _ _ _ _ _ (by simp)]
  simp only [iop]
  cases binV op (x.ev e) (y.ev e) <;> simp [optP]
def beqV (ne : Bool) (x y : Value) : Option Value := match x, y with
  | .bool a, .bool b => some (.bool (if ne then !(a == b) else a == b))
  | _, _ => none
@[go_sem] theorem op_beq (ne : Bool) (x y : Opd) : wpOp F lo (.beq ne x y) e H K = optP (beqV ne (x.ev e) (y.ev e)) (fun v => K v H) := by
  rw [prim_eq _ _ _ _ _ (by simp)]
  simp only [iop]
  cases x.ev e <;> cases y.ev e <;> simp [optP, beqV]
def eqsV (ne : Bool) (n : Nat) (x y : Value) : Option Value := match x, y with
  | .agg a, .agg b => if a.toList.length = n ∧ b.toList.length = n then (eqCells a.toList b.toList).map fun t => .bool (if ne then !t else t) else none
  | _, _ => none
@[go_sem] theorem op_eqs (ne : Bool) (n : Nat) (x y : Opd) : wpOp F lo (.eqs ne n x y) e H K = optP (eqsV ne n (x.ev e) (y.ev e)) (fun v => K v H) := by
  refine viaO _ _ _ _ _ (by simp) ?_
  simp only [iop]
  generalize x.ev e = a
  generalize y.ev e = b
  cases a <;> cases b <;> try rfl
  simp only [eqsV]
  split
  · rename_i a b h; cases eqCells a.toList b.toList <;> rfl
  · rfl
@[go_sem] theorem op_un (op : UnOp) (x : Opd) : wpOp F lo (.un op x) e H K = optP (unV op (x.ev e)) (fun v => K v H) := by
  rw [prim_eq _ _ _ _ _ (by simp)]
  simp only [iop]
  cases unV op (x.ev e) <;> simp [optP]
def convV (k : IntKind) (x : Value) : Option Value := match x with
  | .int _ n => some (.int k (k.wrap n))
  | _ => none
@[go_sem] theorem op_conv (k : IntKind) (x : Opd) : wpOp F lo (.conv k x) e H K = optP (convV k (x.ev e)) (fun v => K v H) := by
  rw [prim_eq _ _ _ _ _ (by simp)]
  simp only [iop]
  cases x.ev e <;> simp [optP, convV]
@[go_sem] theorem op_mks (es et bytes : Nat) (z : List Value) (l c : Opd) : wpOp F lo (.mks es et bytes z l c) e H K = mksP es et bytes z H (l.ev e) (c.ev e) K := by
  rw [prim_eq _ _ _ _ _ (by simp)]
  simp only [iop]
  generalize l.ev e = a
  generalize c.ev e = b
  cases a <;> cases b <;> try (simp [mksP]; done)
  simp only [mksP]
  split
  · rename_i h; simp only [Option.some.injEq, Prod.mk.injEq]; exact propext ⟨fun ⟨_, _, ⟨h1, h2⟩, k⟩ => by subst h1; subst h2; exact ⟨h, k⟩, fun k => ⟨_, _, ⟨rfl, rfl⟩, k.2⟩⟩
  · rename_i h; exact propext ⟨fun ⟨_, _, h', _⟩ => (by cases h'), fun h' => absurd h'.1 h⟩
def subV (es : Nat) (v : Value) (e : Env) (lo hi : Option Opd) : Option Value := match v with
  | .slice a n _ => match subB n e n hi with
    | some h' => match subB h' e 0 lo with
      | some l' => some (.slice (a.map fun a => ⟨a.block, a.off + l' * es, none⟩) (h' - l') (h' - l'))
      | none => none
    | none => none
  | _ => none
@[go_sem] theorem op_sub (es : Nat) (x : Opd) (l h : Option Opd) : wpOp F lo (.sub es x l h) e H K = optP (subV es (x.ev e) e l h) (fun v => K v H) := by
  refine viaO _ _ _ _ _ (by simp) ?_
  simp only [iop]
  generalize x.ev e = a
  cases a <;> try rfl
  rename_i a n c
  simp only [subV]
  cases subB n e n h with
  | none => rfl
  | some h' => simp only; cases subB h' e 0 l <;> rfl
@[go_sem] theorem op_fad (off : Nat) (x : Opd) : wpOp F lo (.fad off x) e H K = fadP off (x.ev e) (fun v => K v H) := by
  rw [prim_eq _ _ _ _ _ (by simp)]
  simp only [iop]
  cases x.ev e with
  | pointer a => cases a <;> simp [fadP]
  | _ => simp [fadP]
def fldV (agg : Bool) (off n : Nat) (v : Value) : Option Value := match v with
  | .agg cs => if off + n ≤ cs.toList.length then valOf agg ((cs.toList.drop off).take n) else none
  | _ => none
@[go_sem] theorem op_fld (agg : Bool) (off n : Nat) (x : Opd) : wpOp F lo (.fld agg off n x) e H K = optP (fldV agg off n (x.ev e)) (fun v => K v H) := by
  refine viaO _ _ _ _ _ (by simp) ?_
  simp only [iop]
  generalize x.ev e = a
  cases a <;> try rfl
  rename_i cs
  simp only [fldV]
  split
  · cases valOf agg ((cs.toList.drop off).take n) <;> rfl
  · rfl
@[go_sem] theorem op_iad (es : Nat) (x i : Opd) : wpOp F lo (.iad es x i) e H K = iadP es (x.ev e) (i.ev e) (fun v => K v H) := by
  rw [prim_eq _ _ _ _ _ (by simp)]
  simp only [iop]
  generalize x.ev e = a
  generalize i.ev e = b
  cases a <;> try (simp [iadP]; done)
  rename_i a n c
  cases a with
  | none => simp [iadP]
  | some a =>
    cases b <;> try (simp [iadP]; done)
    simp only [iadP]
    split
    · rename_i h; simp only [Option.some.injEq, Prod.mk.injEq]; exact propext ⟨fun ⟨_, _, ⟨h1, h2⟩, k⟩ => by subst h1; subst h2; exact ⟨h, k⟩, fun k => ⟨_, _, ⟨rfl, rfl⟩, k.2⟩⟩
    · rename_i h; exact propext ⟨fun ⟨_, _, h', _⟩ => (by cases h'), fun h' => absurd h'.1 h⟩
def extV (v : Value) (i : Nat) : Option Value := match v with
  | .tuple vs => vs.toList[i]?
  | _ => none
@[go_sem] theorem op_ext (x : Opd) (i : Nat) : wpOp F lo (.ext x i) e H K = optP (extV (x.ev e) i) (fun v => K v H) := by
  refine viaO _ _ _ _ _ (by simp) ?_
  simp only [iop]
  generalize x.ev e = a
  cases a <;> rfl
@[go_sem] theorem op_mkf (fn : Nat) (xs ys : List Opd) : wpOp F lo (.mkf fn xs ys) e H K = (((xs.map (·.ev e)).all sim0 = true ∧ (ys.map (·.ev e)).all sim0 = true) ∧ K (.func (.func fn) (xs.map (·.ev e)).toArray (ys.map (·.ev e)).toArray) H) := by
  rw [prim_eq _ _ _ _ _ (by simp)]
  simp only [iop]
  split
  · rename_i h; simp only [Option.some.injEq, Prod.mk.injEq, h, and_self, true_and]
    exact propext ⟨fun ⟨_, _, ⟨rfl, rfl⟩, k⟩ => k, fun k => ⟨_, _, ⟨rfl, rfl⟩, k⟩⟩
  · rename_i h; exact propext ⟨fun ⟨_, _, hh, _⟩ => (by cases hh), fun ⟨hh, _⟩ => absurd hh h⟩
@[go_sem] theorem op_len (x : Opd) : wpOp F lo (.len x) e H K = lenP (x.ev e) (fun v => K v H) := by
  rw [prim_eq _ _ _ _ _ (by simp)]
  simp only [iop]
  cases x.ev e <;> simp [lenP]
def maxV (x y : Value) : Option Value := match x, y with
  | .int k a, .int _ b => some (.int k (if b > a then b else a))
  | _, _ => none
@[go_sem] theorem op_max2 (x y : Opd) : wpOp F lo (.max2 x y) e H K = optP (maxV (x.ev e) (y.ev e)) (fun v => K v H) := by
  refine viaO _ _ _ _ _ (by simp) ?_
  simp only [iop]
  generalize x.ev e = a
  generalize y.ev e = b
  cases a <;> cases b <;> rfl
def nilckV (x : Value) : Option Value := match x with
  | .pointer (some a) => some (.pointer (some a))
  | .func (.func g) first cap => some (.func (.func g) first cap)
  | _ => none
@[go_sem] theorem op_nilck (x : Opd) : wpOp F lo (.nilck x) e H K = optP (nilckV (x.ev e)) (fun v => K v H) := by
  refine viaO _ _ _ _ _ (by simp) ?_
  simp only [iop]
  generalize x.ev e = a
  cases a <;> try rfl
  · rename_i a; cases a <;> rfl
  · rename_i f _ _; cases f <;> rfl
/-! append -/
theorem op_app_zero {es et bytes : Nat} {kill : Bool} {x y : Opd} {b : Option Addr} {n c : Nat} {a : Option Addr} {c' : Nat} (hx : x.ev e = .slice b n c) (hy : y.ev e = .slice a 0 c')
    (k : K (.slice b n c) H) : wpOp F lo (.app es et bytes kill x y) e H K := ⟨_, _, by simp only [iop, hx, hy]; rfl, k⟩
theorem op_app_nil {es et bytes : Nat} {kill : Bool} {x y : Opd} {n c : Nat} {a : Addr} {m c' : Nat} {ys : List Value} (hx : x.ev e = .slice none n c) (hy : y.ev e = .slice (some a) m c') (hm : m ≠ 0)
    (hg : getCells H a.block a.off (m * es) = some ys) (h1 : m * bytes ≤ 140737488355328) (h2 : m ≤ 9223372036854775807)
    (k : K (sli H.length 0 m) (H ++ [⟨ys, es, et, true, true⟩])) : wpOp F lo (.app es et bytes kill x y) e H K :=
  ⟨_, _, by simp only [iop, hx, hy]; rw [if_neg hm]; simp only [hg]; rw [if_pos ⟨h1, h2⟩], k⟩
theorem op_app {es et bytes : Nat} {kill : Bool} {x y : Opd} {b : Addr} {n c : Nat} {a : Addr} {m c' : Nat} {ys : List Value} {kb : Blk} (hx : x.ev e = .slice (some b) n c) (hy : y.ev e = .slice (some a) m c') (hm : m ≠ 0)
    (hg : getCells H a.block a.off (m * es) = some ys) (hk : H[b.block]? = some kb) (h : lo ≤ b.block ∧ b.off = 0 ∧ kb.app = true ∧ kb.es = es ∧ kb.et = et ∧ kb.cells.length = n * es ∧ (n + m) * bytes ≤ 140737488355328 ∧ n + m ≤ 9223372036854775807)
    (k : K (sli H.length 0 (n + m)) (H.set b.block { kb with app := false, solo := kb.solo && n == 0, cells := if kill then [] else kb.cells } ++ [⟨kb.cells ++ ys, es, et, true, kb.solo && (n == 0 || kill)⟩])) :
    wpOp F lo (.app es et bytes kill x y) e H K :=
  ⟨_, _, by simp only [iop, hx, hy]; rw [if_neg hm]; simp only [hg, hk]; rw [if_pos h], k⟩

/-! calls -/
variable {F lo e H K}
theorem op_callQ {g : Nat} {args : List Opd} {v : Value} (h : QC F g (args.map (·.ev e)) H v) (k : K v H) : wpOp F lo (.call .q (.f g) args) e H K :=
  ⟨g, #[], #[], rfl, v, by simpa using h, k⟩
theorem op_callK {g : Nat} {args : List Opd} {v : Value} {H1 : Heap} (h : KC F g (args.map (·.ev e)) H v H1) (k : K v H1) : wpOp F lo (.call .k (.f g) args) e H K :=
  ⟨g, #[], #[], rfl, v, H1, by simpa using h, k⟩
theorem op_callN {g : Nat} {args : List Opd} {v : Value} {H1 : Heap} (h : NC F lo g (args.map (·.ev e)) H v H1) (k : K v H1) : wpOp F lo (.call .n (.f g) args) e H K :=
  ⟨g, #[], #[], rfl, v, H1, by simpa using h, k⟩
theorem op_callQc {g t : Nat} {first cap : Array Value} {args : List Opd} {v : Value} (hf : e t = .func (.func g) first cap) (h : QC F g (first.toList ++ args.map (·.ev e) ++ cap.toList) H v) (k : K v H) : wpOp F lo (.call .q (.t t) args) e H K :=
  ⟨g, first, cap, hf, v, h, k⟩
/-! functions -/
def fin (rs : List IRes) (Q : Value → Heap → Prop) (x : X) (e : Env) (H : Heap) : Prop := (x = .n ∨ x = .r) ∧ ∃ v, resV rs e H = some v ∧ Q v H
theorem QC.mk {f np nt : Nat} {rs : List IRes} {body : ICode} {args : List Value} {v : Value} (hf : F f = some ⟨np, nt, rs, body⟩) (hl : args.length = np) (h : wpc F H.length body (ini args) H (fin rs fun w _ => w = v ∧ scal w = true)) : QC F f args H v := by
  obtain ⟨x, e1, H1, h1, h2, w, h3, rfl, h4⟩ := h
  exact ⟨_, x, e1, H1, hf, hl, h1, h2, h3, h4⟩
theorem KC.mk {f np nt : Nat} {rs : List IRes} {body : ICode} {args : List Value} {Q : Value → Heap → Prop} (hf : F f = some ⟨np, nt, rs, body⟩) (hl : args.length = np) (h : wpc F H.length body (ini args) H (fin rs Q)) : ∃ v H1, KC F f args H v H1 ∧ Q v H1 := by
  obtain ⟨x, e1, H1, h1, h2, w, h3, h4⟩ := h
  exact ⟨w, H1, ⟨_, x, e1, hf, hl, h1, h2, h3⟩, h4⟩
theorem NC.mk {f np nt : Nat} {rs : List IRes} {body : ICode} {args : List Value} {Q : Value → Heap → Prop} (hf : F f = some ⟨np, nt, rs, body⟩) (hl : args.length = np) (h : wpc F lo body (ini args) H (fin rs Q)) : ∃ v H1, NC F lo f args H v H1 ∧ Q v H1 := by
  obtain ⟨x, e1, H1, h1, h2, w, h3, h4⟩ := h
  exact ⟨w, H1, ⟨_, x, e1, hf, hl, h1, h2, h3⟩, h4⟩
end

@[go_sem] theorem resV_t (n : Nat) (e : Env) (H : Heap) : resV [.t n] e H = some (e n) := rfl
def cellP (agg : Bool) (n : Nat) (H : Heap) (v : Value) : Option Value := match v with
  | .pointer (some a) => (getCells H a.block a.off n).bind (valOf agg)
  | _ => none
@[go_sem] theorem resV_cell (agg : Bool) (n t : Nat) (e : Env) (H : Heap) : resV [.cell agg n t] e H = cellP agg n H (e t) := rfl
@[go_sem] theorem cellP_ptr (agg : Bool) (n : Nat) (H : Heap) (b o : Nat) : cellP agg n H (ptr b o) = (getCells H b o n).bind (valOf agg) := rfl
attribute [go_sem] Option.bind_some
/-! ### What simp reckons with -/
@[go_sem] theorem ev_t (e : Env) (n : Nat) : Opd.ev e (.t n) = e n := rfl
@[go_sem] theorem ev_c (e : Env) (v : Value) : Opd.ev e (.c v) = v := rfl
@[go_sem] theorem ev_f (e : Env) (n : Nat) : Opd.ev e (.f n) = .func (.func n) #[] #[] := rfl
attribute [go_sem] putE_get putE_none if_true if_false
@[go_sem] theorem pickP_t (a b : Value) (K : Value → Prop) : pickP (.bool true) a b K = K a := rfl
@[go_sem] theorem pickP_f (a b : Value) (K : Value → Prop) : pickP (.bool false) a b K = K b := rfl
@[go_sem] theorem iadP_eq (es b o n c : Nat) (k : IntKind) (j : Int) (K : Value → Prop) : iadP es (.slice (some ⟨b, o, none⟩) n c) (.int k j) K = ((0 ≤ j ∧ j < n) ∧ K (ptr b (o + j.toNat * es))) := rfl
@[go_sem] theorem iadP_sli (es b o n : Nat) (k : IntKind) (j : Int) (K : Value → Prop) : iadP es (sli b o n) (.int k j) K = ((0 ≤ j ∧ j < n) ∧ K (ptr b (o + j.toNat * es))) := rfl
@[go_sem] theorem lenP_eq (a : Option Addr) (n c : Nat) (K : Value → Prop) : lenP (.slice a n c) K = K (.int .i64 n) := rfl
@[go_sem] theorem lenP_sli (b o n : Nat) (K : Value → Prop) : lenP (sli b o n) K = K (.int .i64 n) := rfl
@[go_sem] theorem lenP_nil (K : Value → Prop) : lenP nilS K = K (.int .i64 0) := rfl
@[go_sem] theorem fadP_ptr (b o off : Nat) (K : Value → Prop) : fadP off (ptr b o) K = K (ptr b (o + off)) := rfl
@[go_sem] theorem mksP_eq (es et bytes : Nat) (z : List Value) (H : Heap) (k k' : IntKind) (n n' : Int) (K : Value → Heap → Prop) : mksP es et bytes z H (.int k n) (.int k' n') K =
    ((0 ≤ n ∧ n' = n ∧ n * bytes ≤ 140737488355328 ∧ n ≤ 9223372036854775807) ∧ K (sli H.length 0 n.toNat) (H ++ [⟨(List.replicate n.toNat z).flatten, es, et, true, true⟩])) := rfl
@[go_sem] theorem optP_some (v : Value) (K : Value → Prop) : optP (some v) K = K v := rfl
@[go_sem] theorem loadP_ptr (H : Heap) (b o : Nat) (agg : Bool) (n : Nat) (K : Value → Prop) : loadP H (ptr b o) agg n K = match getCells H b o n with
    | some cs => match valOf agg cs with
      | some v => K v
      | none => False
    | none => False := rfl
@[go_sem] theorem storeP_ptr (lo : Nat) (H : Heap) (b o : Nat) (n : Nat) (y : Value) (K : Heap → Prop) : storeP lo H (ptr b o) n y K = match H[b]? with
    | some k => (lo ≤ b ∧ k.solo = true ∧ y.cells.toList.length = n ∧ o + n ≤ k.cells.length ∧ y.cells.toList.all one = true) ∧ K (H.set b { k with cells := setL k.cells o y.cells.toList })
    | none => False := rfl
@[go_sem] theorem litP_some (es et len : Nat) (cs : List Value) (H : Heap) (K : Value → Heap → Prop) : litP es et len (some cs) H K = K (sli H.length 0 len) (H ++ [⟨cs, es, et, true, true⟩]) := rfl
@[go_sem] theorem binV_int (op : BinOp) (k : IntKind) (x y : Int) : binV op (.int k x) (.int k y) = binI op k x y := by simp [binV]
@[go_sem] theorem binI_add (k : IntKind) (x y : Int) : binI .add k x y = some (.int k (k.wrap (x + y))) := rfl
@[go_sem] theorem binI_sub (k : IntKind) (x y : Int) : binI .sub k x y = some (.int k (k.wrap (x - y))) := rfl
@[go_sem] theorem binI_mul (k : IntKind) (x y : Int) : binI .mul k x y = some (.int k (k.wrap (x * y))) := rfl
theorem binC (k : IntKind) (x y : Int) : binI .eql k x y = some (.bool (x == y)) ∧ binI .neq k x y = some (.bool (x != y)) ∧ binI .lss k x y = some (.bool (decide (x < y))) ∧ binI .leq k x y = some (.bool (decide (x ≤ y))) ∧ binI .gtr k x y = some (.bool (decide (y < x))) ∧ binI .geq k x y = some (.bool (decide (y ≤ x))) := ⟨rfl, rfl, rfl, rfl, rfl, rfl⟩
attribute [go_sem_proc] Nat.reduceEqDiff Nat.reduceAdd Nat.reduceMul Nat.reduceSub Nat.reduceLeDiff Nat.reduceLT
attribute [go_sem_proc] reduceIte reduceCtorEq
@[go_sem] theorem unV_not (b : Bool) : unV .not (.bool b) = some (.bool (!b)) := rfl
@[go_sem] theorem unV_neg (k : IntKind) (n : Int) : unV .neg (.int k n) = some (.int k (k.wrap (0 - n))) := rfl
@[go_sem] theorem beqV_eq (a b : Bool) : beqV false (.bool a) (.bool b) = some (.bool (a == b)) := rfl
@[go_sem] theorem beqV_ne (a b : Bool) : beqV true (.bool a) (.bool b) = some (.bool (!(a == b))) := rfl
@[go_sem] theorem convV_int (k k' : IntKind) (n : Int) : convV k (.int k' n) = some (.int k (k.wrap n)) := rfl
@[go_sem] theorem valOf_agg (cs : List Value) : valOf true cs = some (.agg cs.toArray) := rfl
@[go_sem] theorem valOf_one (v : Value) : valOf false [v] = some v := rfl
@[go_sem] theorem extV_tup (l : List Value) (i : Nat) : extV (.tuple l.toArray) i = l[i]? := by simp [extV]
@[go_sem] theorem fldV_agg (agg : Bool) (off n : Nat) (cs : List Value) : fldV agg off n (.agg cs.toArray) = if off + n ≤ cs.length then valOf agg ((cs.drop off).take n) else none := by simp [fldV]
@[go_sem] theorem cells_agg (cs : List Value) : (Value.agg cs.toArray).cells.toList = cs := rfl
@[go_sem] theorem cells_int (k : IntKind) (n : Int) : (Value.int k n).cells.toList = [.int k n] := rfl
@[go_sem] theorem cells_bool (b : Bool) : (Value.bool b).cells.toList = [.bool b] := rfl
@[go_sem] theorem cells_sli (b o n : Nat) : (sli b o n).cells.toList = [sli b o n] := rfl
@[go_sem] theorem cells_nilS : nilS.cells.toList = [nilS] := rfl
@[go_sem] theorem cells_ptr (b o : Nat) : (ptr b o).cells.toList = [ptr b o] := rfl
@[go_sem] theorem nil_is : Value.slice none 0 0 = nilS := rfl
@[go_sem] theorem one_int (k : IntKind) (n : Int) : one (.int k n) = true := rfl
@[go_sem] theorem one_bool (b : Bool) : one (.bool b) = true := rfl
@[go_sem] theorem one_sli (b o n : Nat) : one (sli b o n) = true := rfl
@[go_sem] theorem one_nilS : one nilS = true := rfl
@[go_sem] theorem one_ptr (b o : Nat) : one (ptr b o) = true := rfl
@[go_sem] theorem ini_app (l : List Value) (i : Nat) : ini l i = l.getD i undef := rfl
attribute [go_sem] List.getD_cons_zero List.getD_cons_succ List.getD_nil
@[go_sem] theorem setL_nil (cs : List Value) (o : Nat) : setL cs o [] = cs := rfl
@[go_sem] theorem setL_cons (cs vs : List Value) (o : Nat) (v : Value) : setL cs o (v :: vs) = setL (cs.set o v) (o + 1) vs := rfl
attribute [go_sem] List.set_cons_zero List.set_cons_succ List.set_nil
@[go_sem] theorem fillL_nil (e : Env) (cs : List Value) : fillL e cs [] = some cs := rfl
@[go_sem] theorem fillL_cons (e : Env) (cs : List Value) (o n : Nat) (x : Opd) (r : List (Nat × Nat × Opd)) : fillL e cs ((o, n, x) :: r) =
    if (x.ev e).cells.toList.length = n ∧ o + n ≤ cs.length ∧ (x.ev e).cells.toList.all one = true then fillL e (setL cs o (x.ev e).cells.toList) r else none := rfl
attribute [go_sem] List.all_cons List.all_nil List.length_cons List.length_nil Bool.and_true Bool.true_and Bool.and_self and_self and_true true_and Nat.zero_add Nat.add_zero List.map_cons List.map_nil Option.map_some
attribute [go_sem] List.drop_zero List.drop_succ_cons List.take_succ_cons List.take_zero List.drop_nil List.take_nil List.getElem?_cons_zero List.getElem?_cons_succ Bool.not_true Bool.not_false

/-! heaps: what came in, and the blocks made since -/
@[go_sem] theorem hl_app (H L : Heap) : (H ++ L).length = H.length + L.length := List.length_append
@[go_sem] theorem app_app (H L M : Heap) : H ++ L ++ M = H ++ (L ++ M) := List.append_assoc H L M
attribute [go_sem] List.cons_append List.nil_append List.append_nil
@[go_sem] theorem get_new (H L : Heap) (k : Nat) : (H ++ L)[H.length + k]? = L[k]? := by rw [List.getElem?_append_right (by omega)]; congr 1; omega
@[go_sem] theorem get_new0 (H L : Heap) : (H ++ L)[H.length]? = L[0]? := get_new H L 0
@[go_sem] theorem set_new (H L : Heap) (k : Nat) (x : Blk) : (H ++ L).set (H.length + k) x = H ++ L.set k x := by rw [List.set_append_right _ _ (by omega)]; congr 2; omega
@[go_sem] theorem set_new0 (H L : Heap) (x : Blk) : (H ++ L).set H.length x = H ++ L.set 0 x := set_new H L 0 x
def inBlk (k : Option Blk) (o n : Nat) : Option (List Value) := match k with
  | some k => if o + n ≤ k.cells.length then some ((k.cells.drop o).take n) else none
  | none => none
@[go_sem] theorem gc_new (H L : Heap) (k o n : Nat) : getCells (H ++ L) (H.length + k) o n = inBlk L[k]? o n := by unfold getCells; rw [get_new]; rfl
@[go_sem] theorem gc_new0 (H L : Heap) (o n : Nat) : getCells (H ++ L) H.length o n = inBlk L[0]? o n := by unfold getCells; rw [get_new0]; rfl
@[go_sem] theorem inBlk_some (cs : List Value) (es et : Nat) (a s : Bool) (o n : Nat) : inBlk (some ⟨cs, es, et, a, s⟩) o n = if o + n ≤ cs.length then some ((cs.drop o).take n) else none := rfl

theorem wrap_id {x : Int} (h1 : -9223372036854775808 ≤ x) (h2 : x ≤ 9223372036854775807) : IntKind.i64.wrap x = x := by rw [IntKind.wrap_i64]; omega
end Go.Proofs.YtkmghcglmjehcaaI
end
section
/- Codecs: how plain Lean values lie on the ideal heap; and the schemas of the laws' size functions. -/
set_option linter.unusedVariables false
set_option linter.unusedSimpArgs false
namespace Go.Proofs.YtkmghcglmjehcaaI
open Go Go.RowKit

/-- What a reader sees of a heap. -/
abbrev Vw := Nat → Option (List Value)
def vw (lo : Nat) (H : Heap) : Vw := fun b => if lo ≤ b then (H[b]?).map (·.cells) else none
def Sub (V V' : Vw) : Prop := ∀ b cs, V b = some cs → V' b = some cs
theorem Sub.trans {V V' V'' : Vw} (h : Sub V V') (h' : Sub V' V'') : Sub V V'' := fun b cs k => h' b cs (h b cs k)
def rng (V : Vw) (b o n : Nat) : Option (List Value) := match V b with
  | some k => if o + n ≤ k.length then some ((k.drop o).take n) else none
  | none => none
theorem rng_sub {V V' : Vw} (h : Sub V V') {b o n : Nat} {cs : List Value} (k : rng V b o n = some cs) : rng V' b o n = some cs := by
  unfold rng at k ⊢
  cases hv : V b with
  | none => simp [hv] at k
  | some c => rw [hv] at k; rw [h b c hv]; exact k
theorem rng_gc {lo : Nat} {H : Heap} {b o n : Nat} {cs : List Value} (k : rng (vw lo H) b o n = some cs) : getCells H b o n = some cs := by
  unfold rng vw at k
  unfold getCells
  split at k
  · rename_i c hc
    split at hc
    · cases hb : H[b]? with
      | none => simp [hb] at hc
      | some kb => simp only [hb, Option.map_some, Option.some.injEq] at hc; subst hc; exact k
    · cases hc
  · cases k
theorem vw_grow {lo lo' : Nat} {H H1 : Heap} (hl : lo' ≤ lo) (h : ∀ b, lo ≤ b → b < H.length → H1[b]? = H[b]?) : Sub (vw lo H) (vw lo' H1) := by
  intro b cs k
  unfold vw at k ⊢
  split at k
  · rename_i h1
    rw [if_pos (by omega)]
    cases hb : H[b]? with
    | none => simp [hb] at k
    | some kb => rw [h b h1 (List.getElem?_eq_some_iff.1 hb).1, hb]; simpa [hb] using k
  · cases k
theorem vw_app (lo : Nat) (H L : Heap) : Sub (vw lo H) (vw lo (H ++ L)) := vw_grow (Nat.le_refl _) fun b _ h => List.getElem?_append_left h

/-- How values of one type lie. -/
structure Co (α : Type) where
  w : Nat
  rd : Vw → List Value → α → Prop
  sm : α → Prop
  mono : ∀ {V V' : Vw} {cs : List Value} {a : α}, Sub V V' → rd V cs a → rd V' cs a
  len : ∀ {V : Vw} {cs : List Value} {a : α}, rd V cs a → cs.length = w
  ones : ∀ {V : Vw} {cs : List Value} {a : α}, rd V cs a → ∀ c, c ∈ cs → one c = true
def Co.int : Co Int := ⟨1, fun _ cs n => cs = [.int .i64 n] ∧ -9223372036854775808 ≤ n ∧ n ≤ 9223372036854775807, fun _ => True, fun _ h => h, fun h => by rw [h.1]; rfl, fun h c hc => by rw [h.1] at hc; simp only [List.mem_singleton] at hc; subst hc; rfl⟩
def Co.bool : Co Bool := ⟨1, fun _ cs n => cs = [.bool n], fun _ => True, fun _ h => h, fun h => by rw [h]; rfl, fun h c hc => by rw [h] at hc; simp only [List.mem_singleton] at hc; subst hc; rfl⟩
def Co.pair {α β : Type} (A : Co α) (B : Co β) : Co (α × β) := ⟨A.w + B.w, fun V cs p => ∃ x y, cs = x ++ y ∧ A.rd V x p.1 ∧ B.rd V y p.2, fun p => A.sm p.1 ∧ B.sm p.2,
  fun h ⟨x, y, h1, h2, h3⟩ => ⟨x, y, h1, A.mono h h2, B.mono h h3⟩, fun ⟨x, y, h1, h2, h3⟩ => by rw [h1, List.length_append, A.len h2, B.len h3], fun ⟨x, y, h1, h2, h3⟩ c hc => by rw [h1, List.mem_append] at hc; exact hc.elim (A.ones h2 c) (B.ones h3 c)⟩
def SlR {α : Type} (A : Co α) (V : Vw) (v : Value) (l : List α) : Prop :=
  l.length ≤ 9223372036854775807 ∧ ∃ a, v = .slice a l.length l.length ∧ (l = [] ∨ ∃ b o, a = some ⟨b, o, none⟩ ∧ ∀ i (h : i < l.length), ∃ cs, rng V b (o + i * A.w) A.w = some cs ∧ A.rd V cs l[i])
theorem SlR.mono {α : Type} {A : Co α} {V V' : Vw} {v : Value} {l : List α} (h : Sub V V') : SlR A V v l → SlR A V' v l
  | ⟨h0, a, h1, h2⟩ => ⟨h0, a, h1, h2.imp id fun ⟨b, o, h3, h4⟩ => ⟨b, o, h3, fun i hi => let ⟨cs, h5, h6⟩ := h4 i hi; ⟨cs, rng_sub h h5, A.mono h h6⟩⟩⟩
def Co.sl {α : Type} (A : Co α) : Co (List α) := ⟨1, fun V cs l => ∃ v, cs = [v] ∧ SlR A V v l, fun l => l.length ≤ 1048576 ∧ ∀ a ∈ l, A.sm a,
  fun h ⟨v, h1, h2⟩ => ⟨v, h1, h2.mono h⟩, fun ⟨v, h1, _⟩ => by rw [h1]; rfl, fun ⟨v, h1, _, a, h2, _⟩ c hc => by rw [h1] at hc; simp only [List.mem_singleton] at hc; subst hc; rw [h2]; rfl⟩
theorem Co.rd_sl {α : Type} {A : Co α} {V : Vw} {v : Value} {l : List α} : (Co.sl A).rd V [v] l ↔ SlR A V v l := ⟨fun ⟨w, h, k⟩ => by simp only [List.cons.injEq, and_true] at h; subst h; exact k, fun h => ⟨v, rfl, h⟩⟩

/-- One argument: a struct comes as one value, a slice as itself. -/
def Rd {α : Type} (A : Co α) (agg : Bool) (V : Vw) (v : Value) (a : α) : Prop := ∃ cs, valOf agg cs = some v ∧ A.rd V cs a
theorem Rd.mono {α : Type} {A : Co α} {agg : Bool} {V V' : Vw} {v : Value} {a : α} (h : Sub V V') : Rd A agg V v a → Rd A agg V' v a := fun ⟨cs, h1, h2⟩ => ⟨cs, h1, A.mono h h2⟩

theorem Rd.cells {α : Type} {A : Co α} {agg : Bool} {V : Vw} {v : Value} {cs : List Value} {a : α} (h : valOf agg cs = some v) (h' : A.rd V cs a) : v.cells.toList = cs := by
  cases agg with
  | true => simp only [valOf, if_true, Option.some.injEq] at h; subst h; rfl
  | false =>
    simp only [valOf, Bool.false_eq_true, if_false] at h
    split at h
    · simp only [Option.some.injEq] at h; subst h
      rw [cells_one (A.ones h' _ (by simp))]
    · cases h
theorem wpOp_mono {F : Nat → Option IFn} {lo : Nat} {o : IOp} {e : Env} {H : Heap} {K K' : Value → Heap → Prop} (h : wpOp F lo o e H K) (hk : ∀ v H, K v H → K' v H) : wpOp F lo o e H K' := by
  unfold wpOp at h ⊢
  split at h
  · obtain ⟨g, first, cap, hf, h⟩ := h
    refine ⟨g, first, cap, hf, ?_⟩
    split at h
    · obtain ⟨v, h1, h2⟩ := h; exact ⟨v, h1, hk _ _ h2⟩
    · obtain ⟨v, H1, h1, h2⟩ := h; exact ⟨v, H1, h1, hk _ _ h2⟩
    · obtain ⟨v, H1, h1, h2⟩ := h; exact ⟨v, H1, h1, hk _ _ h2⟩
  · obtain ⟨v, H1, h1, h2⟩ := h; exact ⟨v, H1, h1, hk _ _ h2⟩
theorem wpo_mono {F : Nat → Option IFn} {lo : Nat} : ∀ {l : List IOper} {e : Env} {H : Heap} {K K' : Env → Heap → Prop}, wpo F lo l e H K → (∀ e H, K e H → K' e H) → wpo F lo l e H K'
  | [], _, _, _, _, h, hk => hk _ _ h
  | o :: r, _, _, _, _, h, hk => ⟨fun hr => wpOp_mono (h.1 hr) fun _ _ h' => wpo_mono h' hk, fun hr => wpo_mono (h.2 hr) hk⟩
theorem W_mono {F : Nat → Option IFn} {lo : Nat} {t : Task} {e : Env} {H : Heap} {K K' : X → Env → Heap → Prop} (h : W F lo t e H K) (hk : ∀ x e H, K x e H → K' x e H) : W F lo t e H K' :=
  let ⟨x, e1, H1, h1, h2⟩ := h; ⟨x, e1, H1, h1, hk _ _ _ h2⟩

/-! ### Sizes -/
def szFlat : IFn := ⟨2, 12, [.t 4],
 .seq (.reg none [
    ⟨(some 4), none, .mov (.c (.int .i64 0))⟩])
 (.seq (.reg none [
    ⟨(some 5), none, .mov (.t 1)⟩,
    ⟨(some 6), none, .mov (.t 0)⟩,
    ⟨(some 7), none, .len (.t 6)⟩,
    ⟨(some 8), none, .bin .sub (.t 5) (.t 7)⟩,
    ⟨(some 1), none, .mov (.t 8)⟩])
 (.seq (.seq (.reg none [
     ⟨(some 9), none, .mov (.t 1)⟩,
     ⟨(some 10), none, .bin .lss (.t 9) (.c (.int .i64 0))⟩])
  (.cond (.t 10) (.seq (.reg none [
      ⟨(some 4), none, .mov (.c (.int .i64 (-1)))⟩])
   (.ret)) (.skip)))
 (.seq (.reg none [
    ⟨(some 11), none, .mov (.t 1)⟩,
    ⟨(some 4), none, .mov (.t 11)⟩])
 (.ret))))⟩

section
variable {F : Nat → Option IFn} {α : Type} {A : Co α} {f : Nat}
end
end Go.Proofs.YtkmghcglmjehcaaI
end
section
/- Schemas: the size of a list of things that have sizes; a copy of a list; two lists that read the same. -/
set_option linter.unusedVariables false
set_option linter.unusedSimpArgs false
namespace Go.Proofs.YtkmghcglmjehcaaI
open Go Go.RowKit

attribute [go_sem] Int.toNat_natCast

def szNestB (g w : Nat) (agg : Bool) : ICode :=
 (.seq (.seq (.reg none [
        ⟨(some 12), none, .mov (.t 5)⟩,
        ⟨(some 13), none, .mov (.t 0)⟩,
        ⟨(some 14), none, .len (.t 13)⟩,
        ⟨(some 15), none, .bin .lss (.t 12) (.t 14)⟩])
     (.cond (.t 15) (.skip) (.exit 0)))
    (.seq (.block 1 (.seq (.reg none [
         ⟨(some 18), none, .mov (.t 0)⟩,
         ⟨(some 19), none, .mov (.t 5)⟩,
         ⟨(some 20), none, .iad w (.t 18) (.t 19)⟩,
         ⟨(some 21), none, .load agg w (.t 20)⟩,
         ⟨(some 22), none, .mov (.t 1)⟩,
         ⟨(some 23), none, .call .q (.f g) [(.t 21), (.t 22)]⟩,
         ⟨(some 1), none, .mov (.t 23)⟩])
      (.seq (.reg none [
         ⟨(some 24), none, .mov (.t 1)⟩,
         ⟨(some 25), none, .bin .lss (.t 24) (.c (.int .i64 0))⟩])
      (.cond (.t 25) (.seq (.reg none [
          ⟨(some 4), none, .mov (.c (.int .i64 (-1)))⟩])
       (.ret)) (.skip)))))
    (.reg none [
      ⟨(some 16), none, .mov (.t 5)⟩,
      ⟨(some 17), none, .bin .add (.t 16) (.c (.int .i64 1))⟩,
      ⟨(some 5), none, .mov (.t 17)⟩])))
def szNest (g w : Nat) (agg : Bool) : IFn := ⟨2, 27, [.t 4],
 .seq (.reg none [
    ⟨(some 4), none, .mov (.c (.int .i64 0))⟩])
 (.seq (.reg none [
    ⟨(some 6), none, .mov (.t 1)⟩,
    ⟨(some 7), none, .mov (.t 0)⟩,
    ⟨(some 8), none, .len (.t 7)⟩,
    ⟨(some 9), none, .bin .sub (.t 6) (.t 8)⟩,
    ⟨(some 1), none, .mov (.t 9)⟩])
 (.seq (.seq (.reg none [
     ⟨(some 10), none, .mov (.t 1)⟩,
     ⟨(some 11), none, .bin .lss (.t 10) (.c (.int .i64 0))⟩])
  (.cond (.t 11) (.seq (.reg none [
      ⟨(some 4), none, .mov (.c (.int .i64 (-1)))⟩])
   (.ret)) (.skip)))
 (.seq (.seq (.reg none [
     ⟨(some 5), none, .mov (.c (.int .i64 0))⟩])
  (.block 0 (.loop (szNestB g w agg))))
 (.seq (.reg none [
    ⟨(some 26), none, .mov (.t 1)⟩,
    ⟨(some 4), none, .mov (.t 26)⟩])
 (.ret)))))⟩

section
variable {F : Nat → Option IFn} {α : Type} {A : Co α} {f g w : Nat} {agg : Bool}
end
end Go.Proofs.YtkmghcglmjehcaaI
end
section
/- Schemas: two lists that read the same; a copy of a list. -/
set_option linter.unusedVariables false
set_option linter.unusedSimpArgs false
namespace Go.Proofs.YtkmghcglmjehcaaI
open Go Go.RowKit

/-! ### Equal -/
def EqOk (F : Nat → Option IFn) {α : Type} (A : Co α) (agg : Bool) (f : Nat) : Prop :=
  ∀ (H : Heap) (v u : Value) (a : α), Rd A agg (vw 0 H) v a → Rd A agg (vw 0 H) u a → QC F f [v, u] H (.bool true)

def eqSlH (nt : Nat) (b : ICode) : IFn := ⟨2, nt, [.t 4],
 .seq (.reg none [
    ⟨(some 4), none, .mov (.c (.bool false))⟩])
 (.seq (.seq (.reg none [
     ⟨(some 6), none, .mov (.t 0)⟩,
     ⟨(some 7), none, .len (.t 6)⟩,
     ⟨(some 8), none, .mov (.t 1)⟩,
     ⟨(some 9), none, .len (.t 8)⟩,
     ⟨(some 10), none, .bin .neq (.t 7) (.t 9)⟩])
  (.cond (.t 10) (.seq (.reg none [
      ⟨(some 4), none, .mov (.c (.bool false))⟩])
   (.ret)) (.skip)))
 (.seq (.seq (.reg none [
     ⟨(some 5), none, .mov (.c (.int .i64 0))⟩])
  (.block 0 (.loop (.seq (.seq (.reg none [
        ⟨(some 11), none, .mov (.t 5)⟩,
        ⟨(some 12), none, .mov (.t 0)⟩,
        ⟨(some 13), none, .len (.t 12)⟩,
        ⟨(some 14), none, .bin .lss (.t 11) (.t 13)⟩])
     (.cond (.t 14) (.skip) (.exit 0)))
    (.seq (.block 1 b)
    (.reg none [
      ⟨(some 15), none, .mov (.t 5)⟩,
      ⟨(some 16), none, .bin .add (.t 15) (.c (.int .i64 1))⟩,
      ⟨(some 5), none, .mov (.t 16)⟩]))))))
 (.seq (.reg none [
    ⟨(some 4), none, .mov (.c (.bool true))⟩])
 (.ret))))⟩
def eqFlatB : ICode := (.seq (.reg (some 8) [
         ⟨(some 17), none, .mov (.t 0)⟩,
         ⟨(some 18), none, .mov (.t 5)⟩,
         ⟨(some 19), none, .iad 1 (.t 17) (.t 18)⟩,
         ⟨(some 20), none, .load false 1 (.t 19)⟩,
         ⟨(some 21), none, .mov (.t 1)⟩,
         ⟨(some 22), none, .mov (.t 5)⟩,
         ⟨(some 23), none, .iad 1 (.t 21) (.t 22)⟩,
         ⟨(some 24), none, .load false 1 (.t 23)⟩,
         ⟨(some 25), none, .bin .neq (.t 20) (.t 24)⟩])
      (.cond (.t 25) (.seq (.reg none [
          ⟨(some 4), none, .mov (.c (.bool false))⟩])
       (.ret)) (.skip)))
def eqCallB (g w : Nat) (agg : Bool) : ICode := (.seq (.reg (some 8) [
         ⟨(some 17), none, .mov (.t 0)⟩,
         ⟨(some 18), none, .mov (.t 5)⟩,
         ⟨(some 19), none, .iad w (.t 17) (.t 18)⟩,
         ⟨(some 20), none, .load agg w (.t 19)⟩,
         ⟨(some 21), none, .mov (.t 1)⟩,
         ⟨(some 22), none, .mov (.t 5)⟩,
         ⟨(some 23), none, .iad w (.t 21) (.t 22)⟩,
         ⟨(some 24), none, .load agg w (.t 23)⟩,
         ⟨(some 25), none, .call .q (.f g) [(.t 20), (.t 24)]⟩,
         ⟨(some 26), none, .un .not (.t 25)⟩])
      (.cond (.t 26) (.seq (.reg none [
          ⟨(some 4), none, .mov (.c (.bool false))⟩])
       (.ret)) (.skip)))
def eqFlat : IFn := eqSlH 26 eqFlatB
def eqCall (g w : Nat) (agg : Bool) : IFn := eqSlH 27 (eqCallB g w agg)

section
variable {F : Nat → Option IFn} {α : Type} {A : Co α} {f g w nt : Nat} {agg : Bool} {b : ICode}
/-- What the test of one pair must do. -/
def PairOk (F : Nat → Option IFn) (A : Co α) (b : ICode) : Prop := ∀ (H : Heap) (v u : Value) (l : List α) (i : Nat) (e : Env) (hi : i < l.length), SlR A (vw 0 H) v l → SlR A (vw 0 H) u l → e 0 = v → e 1 = u → e 5 = .int .i64 i →
  wpc F H.length b e H fun x e1 H1 => x = .n ∧ H1 = H ∧ e1 0 = v ∧ e1 1 = u ∧ e1 5 = .int .i64 i
theorem eqSl_ok (hf : F f = some (eqSlH nt b)) (hb : PairOk F A b) : EqOk F (Co.sl A) false f := by
  rintro H v u l ⟨cs, hc, v', rfl, hv⟩ ⟨cs2, hc2, u', rfl, hu⟩
  simp only [go_sem, binC, Option.some.injEq] at hc hc2
  subst hc hc2
  have hv' := hv
  have hu' := hu
  obtain ⟨h0, a, rfl, h2⟩ := hv
  obtain ⟨_, a', rfl, h2'⟩ := hu
  refine QC.mk hf rfl ?_
  refine seq_reg ?_
  simp only [go_sem, binC]
  refine seq_assoc (seq_reg ?_)
  simp only [go_sem, binC]
  refine seq_cond (t := false) (by simp only [go_sem, binC, bne_self_eq_false]) ?_
  simp only [go_sem, binC]
  refine seq_skip (seq_assoc (seq_reg ?_))
  simp only [go_sem, binC]
  refine seq_block (wpc_loop ?_)
  suffices h : ∀ (k i : Nat) (e : Env), i + k = l.length → e 0 = .slice a l.length l.length → e 1 = .slice a' l.length l.length → e 5 = .int .i64 i → W F H.length _ e H _ from h l.length 0 _ (by omega) (by simp only [go_sem, binC]) (by simp only [go_sem, binC]) (by simp only [go_sem, binC]; rfl)
  intro k
  induction k with
  | zero =>
    intro i e hi e0 e1 e5
    refine lp_step ?_
    refine seq_assoc (seq_reg ?_)
    simp only [go_sem, binC, e0, e1, e5]
    refine seq_cond (t := false) (by simp only [go_sem, binC]; rw [decide_eq_false (by omega)]) ?_
    simp only [go_sem, binC]
    refine seq_exit ?_
    simp only [go_sem, binC, thenX_e, out_e, thenX_n]
    refine seq_reg ?_
    simp only [go_sem, binC]
    refine wpc_ret ⟨Or.inr rfl, _, ?_, rfl, rfl⟩
    simp only [go_sem, binC]
  | succ k ih =>
    intro i e hi e0 e1 e5
    refine lp_step ?_
    refine seq_assoc (seq_reg ?_)
    simp only [go_sem, binC, e0, e1, e5]
    refine seq_cond (t := true) (by simp only [go_sem, binC]; rw [decide_eq_true (by omega)]) ?_
    simp only [go_sem, binC]
    refine seq_skip (seq_block ?_)
    refine wpc_mono (hb H _ _ l i _ (by omega) hv' hu' (by simp only [go_sem, binC, e0]) (by simp only [go_sem, binC, e1]) (by simp only [go_sem, binC, e5])) ?_
    rintro x e2 H2 ⟨rfl, rfl, q1, q2, q3⟩
    simp only [go_sem, binC, out_n, thenX_n]
    refine wpc_reg ?_
    simp only [go_sem, binC, q3]
    have hw1 : IntKind.i64.wrap ((i : Int) + 1) = ((i + 1 : Nat) : Int) := by rw [wrap_id (by omega) (by omega)]; omega
    rw [hw1]
    exact ih (i + 1) _ (by omega) (by simp only [go_sem, binC, q1]) (by simp only [go_sem, binC, q2]) (by simp only [go_sem, binC])

theorem eqCallB_ok (hg : EqOk F A agg g) (hw : A.w = w) (hva : ∀ V cs a, A.rd V cs a → ∃ v, valOf agg cs = some v) : PairOk F A (eqCallB g w agg) := by
  rintro H v u l i e hi ⟨h0, a, rfl, h2⟩ ⟨_, a', rfl, h2'⟩ e0 e1 e5
  rcases h2 with h2 | ⟨b, o, rfl, h2⟩
  · rw [h2] at hi; simp at hi
  rcases h2' with h2' | ⟨b', o', rfl, h2'⟩
  · rw [h2'] at hi; simp at hi
  obtain ⟨cs, h3, h4⟩ := h2 i hi
  obtain ⟨cs', h3', h4'⟩ := h2' i hi
  obtain ⟨x, hx⟩ := hva _ _ _ h4
  obtain ⟨y, hy⟩ := hva _ _ _ h4'
  have hq := hg H x y l[i] ⟨cs, hx, h4⟩ ⟨cs', hy, h4'⟩
  have g3 := rng_gc h3
  have g3' := rng_gc h3'
  rw [hw] at g3 g3'
  refine seq_regD ?_
  simp only [go_sem, binC, e0, e1, e5, g3, hx]
  refine ⟨⟨by omega, by omega⟩, ⟨by omega, by omega⟩, ?_⟩
  simp only [go_sem, binC, g3', hy]
  refine op_callQ (v := .bool true) (by simp only [go_sem, binC]; exact hq) ?_
  simp only [go_sem, binC]
  refine wpc_cond (t := false) (by simp only [go_sem, binC]) ?_
  simp only [go_sem, binC]
  refine wpc_skip ⟨rfl, rfl, ?_, ?_, ?_⟩
  · simp only [go_sem, binC, e0]
  · simp only [go_sem, binC, e1]
  · simp only [go_sem, binC, e5]
theorem eqCall_ok (hf : F f = some (eqCall g w agg)) (hg : EqOk F A agg g) (hw : A.w = w) (hva : ∀ V cs a, A.rd V cs a → ∃ v, valOf agg cs = some v) : EqOk F (Co.sl A) false f := eqSl_ok hf (eqCallB_ok hg hw hva)
end
end Go.Proofs.YtkmghcglmjehcaaI
end
section
/- Schemas: a copy of a list. -/
set_option linter.unusedVariables false
set_option linter.unusedSimpArgs false
namespace Go.Proofs.YtkmghcglmjehcaaI
open Go Go.RowKit

def toSlH (nt r w et bytes : Nat) (z : List Value) (b : List IOper) : IFn := ⟨1, nt, [.t 2],
 .seq (.reg none [
    ⟨(some 2), none, .mov (.c (.slice none 0 0))⟩])
 (.seq (.reg none [
    ⟨(some 5), none, .mov (.t 0)⟩,
    ⟨(some 6), none, .len (.t 5)⟩,
    ⟨(some 7), none, .mks w et bytes z (.t 6) (.t 6)⟩,
    ⟨(some 3), none, .mov (.t 7)⟩])
 (.seq (.seq (.reg none [
     ⟨(some 4), none, .mov (.c (.int .i64 0))⟩])
  (.block 0 (.loop (.seq (.seq (.reg none [
        ⟨(some 8), none, .mov (.t 4)⟩,
        ⟨(some 9), none, .mov (.t 0)⟩,
        ⟨(some 10), none, .len (.t 9)⟩,
        ⟨(some 11), none, .bin .lss (.t 8) (.t 10)⟩])
     (.cond (.t 11) (.skip) (.exit 0)))
    (.seq (.block 1 (.reg none b))
    (.reg none [
      ⟨(some 12), none, .mov (.t 4)⟩,
      ⟨(some 13), none, .bin .add (.t 12) (.c (.int .i64 1))⟩,
      ⟨(some 4), none, .mov (.t 13)⟩]))))))
 (.seq (.reg none [
    ⟨(some r), none, .mov (.t 3)⟩,
    ⟨(some 2), none, .mov (.t r)⟩])
 (.ret))))⟩
def toCallB (m : Mode) (g w : Nat) (agg : Bool) : List IOper := [
        ⟨(some 14), none, .mov (.t 3)⟩,
        ⟨(some 15), none, .mov (.t 4)⟩,
        ⟨(some 16), none, .mov (.t 0)⟩,
        ⟨(some 17), none, .mov (.t 4)⟩,
        ⟨(some 18), none, .iad w (.t 16) (.t 17)⟩,
        ⟨(some 19), none, .load agg w (.t 18)⟩,
        ⟨(some 20), none, .call m (.f g) [(.t 19)]⟩,
        ⟨(some 21), none, .iad w (.t 14) (.t 15)⟩,
        ⟨none, none, .store w (.t 21) (.t 20)⟩]
def toCall (m : Mode) (g w et bytes : Nat) (z : List Value) (agg : Bool) : IFn := toSlH 23 22 w et bytes z (toCallB m g w agg)

theorem setL_other {cs vs : List Value} {w i j : Nat} (hv : vs.length = w) (hl : i * w + w ≤ cs.length) (hj : j < i) : ((setL cs (i * w) vs).drop (j * w)).take w = (cs.drop (j * w)).take w := by
  have h1 : j * w + w ≤ i * w := by rw [← Nat.succ_mul]; exact Nat.mul_le_mul_right _ hj
  rw [setL_eq _ _ _ (by omega), List.append_assoc, List.drop_append_of_le_length (by simp; omega), List.take_append_of_le_length (by simp; omega), List.drop_take, List.take_take, Nat.min_eq_left (by omega)]
theorem setL_at {cs vs : List Value} {w o : Nat} (hv : vs.length = w) (hl : o + w ≤ cs.length) : ((setL cs o vs).drop o).take w = vs := by
  rw [setL_eq _ _ _ (by omega), List.append_assoc, List.drop_append, List.drop_of_length_le (by simp; omega)]
  have : o - (cs.take o).length = 0 := by simp; omega
  rw [this, List.nil_append, List.drop_zero, List.take_append_of_le_length (by omega), List.take_of_length_le (by omega)]

section
variable {F : Nat → Option IFn} {α : Type} {A : Co α} {f g w nt r et bytes : Nat} {agg : Bool} {z : List Value} {b : List IOper}
def Inv (A : Co α) (H : Heap) (w et : Nat) (l : List α) (i : Nat) (H' : Heap) : Prop :=
  ∃ dst M, H' = H ++ ⟨dst, w, et, true, true⟩ :: M ∧ dst.length = l.length * w ∧ ∀ j (h : j < l.length), j < i → A.rd (vw (H.length + 1) H') ((dst.drop (j * w)).take w) l[j]
theorem flatten_rep (n : Nat) (z : List Value) : (List.replicate n z).flatten.length = n * z.length := by simp
end
end Go.Proofs.YtkmghcglmjehcaaI
end
section
/- Structs: what the copies and tests of structs lean on. -/
set_option linter.unusedVariables false
set_option linter.unusedSimpArgs false
namespace Go.Proofs.YtkmghcglmjehcaaI
open Go Go.RowKit

attribute [go_sem] Nat.le_add_right Nat.le_refl
def Co.p2 : Co (Int × Int) := Co.pair Co.int Co.int
theorem SlR.shape {α : Type} {A : Co α} {V : Vw} {v : Value} {l : List α} (h : SlR A V v l) : ∃ a, v = .slice a l.length l.length := h.2.imp fun _ h => h.1
@[go_sem] theorem one_slice (a : Option Addr) (n c : Nat) : one (.slice a n c) = true := rfl
@[go_sem] theorem drop_new (H L : Heap) (k : Nat) : (H ++ L).drop (H.length + k) = L.drop k := by
  rw [List.drop_append, List.drop_of_length_le (by omega), List.nil_append]; congr 1; omega
theorem va_t : ∀ {α : Type} (A : Co α) (V : Vw) (cs : List Value) (a : α), A.rd V cs a → ∃ v, valOf true cs = some v := fun _ _ cs _ _ => ⟨_, rfl⟩
theorem QC.mkE {F : Nat → Option IFn} {H : Heap} {f np nt : Nat} {rs : List IRes} {body : ICode} {args : List Value} {Q : Value → Prop} (hf : F f = some ⟨np, nt, rs, body⟩) (hl : args.length = np) (h : wpc F H.length body (ini args) H (fin rs fun w _ => Q w ∧ scal w = true)) : ∃ v, QC F f args H v ∧ Q v := by
  obtain ⟨x, e1, H1, h1, h2, w, h3, h4, h5⟩ := h
  exact ⟨w, ⟨_, x, e1, H1, hf, hl, h1, h2, h3, h5⟩, h4⟩
end Go.Proofs.YtkmghcglmjehcaaI
end
section
/- Schemas: a copy of a list, of blocks of one's own that may be written. -/
set_option linter.unusedVariables false
set_option linter.unusedSimpArgs false
namespace Go.Proofs.YtkmghcglmjehcaaI
open Go Go.RowKit

/-- What is seen from a block on, of blocks that may be written. -/
def vws (lo : Nat) (H : Heap) : Vw := fun b => if lo ≤ b then (H[b]?).bind (fun k => if k.solo = true then some k.cells else none) else none
theorem vws_vw (lo : Nat) (H : Heap) : Sub (vws lo H) (vw lo H) := by
  intro b cs h
  unfold vws at h
  unfold vw
  split at h
  · rename_i hb
    rw [if_pos hb]
    cases hk : H[b]? with
    | none => simp [hk] at h
    | some k =>
      simp only [hk, Option.bind_some] at h
      split at h
      · simpa using h
      · cases h
  · cases h
theorem vws_grow {lo lo' : Nat} {H H1 : Heap} (hl : lo' ≤ lo) (h : ∀ b, lo ≤ b → b < H.length → H1[b]? = H[b]?) : Sub (vws lo H) (vws lo' H1) := by
  intro b cs k
  unfold vws at k ⊢
  split at k
  · rename_i h1
    rw [if_pos (by omega)]
    cases hb : H[b]? with
    | none => simp [hb] at k
    | some kb => rw [h b h1 (List.getElem?_eq_some_iff.1 hb).1, hb]; simpa [hb] using k
  · cases k
theorem vws_app (lo : Nat) (H L : Heap) : Sub (vws lo H) (vws lo (H ++ L)) := vws_grow (Nat.le_refl _) fun b _ h => List.getElem?_append_left h
theorem vws_in {lo lo' : Nat} (base : Nat) {H1 H2 : Heap} (M N : Heap) (h1 : base ≤ lo) (h2 : lo' ≤ base) (e1 : H1.drop base = M) (e2 : H2.drop base = M ++ N) : Sub (vws lo H1) (vws lo' H2) := by
  refine vws_grow (by omega) fun b h3 h4 => ?_
  obtain ⟨k, rfl⟩ : ∃ k, b = base + k := ⟨b - base, by omega⟩
  have hk : k < M.length := by rw [← e1, List.length_drop]; omega
  rw [← List.getElem?_drop, ← List.getElem?_drop, e1, e2, List.getElem?_append_left hk]

def ToOkS (F : Nat → Option IFn) {α : Type} (A : Co α) (agg : Bool) (m : Mode) (f : Nat) : Prop :=
  ∀ (H : Heap) (v : Value) (a : α), Rd A agg (vw 0 H) v a → A.sm a → ∀ (e : Env) (lo : Nat) (args : List Opd) (K : Value → Heap → Prop), args.map (·.ev e) = [v] →
    (∀ v' L, Rd A agg (vws H.length (H ++ L)) v' a → K v' (H ++ L)) → wpOp F lo (.call m (.f f) args) e H K
theorem ToOkS.ofK {F : Nat → Option IFn} {α : Type} {A : Co α} {agg : Bool} {f : Nat} (h : ∀ (H : Heap) (v : Value) (a : α), Rd A agg (vw 0 H) v a → A.sm a → ∃ v' H1, KC F f [v] H v' H1 ∧ ∃ L, H1 = H ++ L ∧ Rd A agg (vws H.length (H ++ L)) v' a) : ToOkS F A agg .k f := by
  intro H v a h1 h2 e lo args K ha hk
  obtain ⟨v', H1, h3, L, rfl, h4⟩ := h H v a h1 h2
  exact op_callK (by rw [ha]; exact h3) (hk v' L h4)
theorem ToOkS.ofQ {F : Nat → Option IFn} {α : Type} {A : Co α} {agg : Bool} {f : Nat} (h : ∀ (H : Heap) (v : Value) (a : α), Rd A agg (vw 0 H) v a → A.sm a → ∃ v', QC F f [v] H v' ∧ Rd A agg (fun _ => none) v' a) : ToOkS F A agg .q f := by
  intro H v a h1 h2 e lo args K ha hk
  obtain ⟨v', h3, h4⟩ := h H v a h1 h2
  have h5 := hk v' [] (h4.mono fun _ _ h => by cases h)
  rw [List.append_nil] at h5
  exact op_callQ (by rw [ha]; exact h3) h5

theorem vws_same (H M : Heap) (x y : Blk) : Sub (vws (H.length + 1) (H ++ x :: M)) (vws (H.length + 1) (H ++ y :: M)) := by
  intro b cs h
  unfold vws at h ⊢
  split at h
  · rename_i hb
    rw [if_pos hb]
    rw [List.getElem?_append_right (by omega)] at h ⊢
    obtain ⟨k, hk⟩ : ∃ k, b - H.length = k + 1 := ⟨b - H.length - 1, by omega⟩
    rw [hk] at h ⊢
    simpa using h
  · cases h
section
variable {F : Nat → Option IFn} {α : Type} {A : Co α} {f g w nt r et bytes : Nat} {agg : Bool} {z : List Value} {b : List IOper}
def InvS (A : Co α) (H : Heap) (w et : Nat) (l : List α) (i : Nat) (H' : Heap) : Prop :=
  ∃ dst M, H' = H ++ ⟨dst, w, et, true, true⟩ :: M ∧ dst.length = l.length * w ∧ ∀ j (h : j < l.length), j < i → A.rd (vws (H.length + 1) H') ((dst.drop (j * w)).take w) l[j]
theorem InvS.step {H : Heap} {l : List α} {i : Nat} {dst cs : List Value} {M N : Heap} (hw : A.w = w) (hi : i < l.length) (hd : dst.length = l.length * w)
    (h : ∀ j (h : j < l.length), j < i → A.rd (vws (H.length + 1) (H ++ ⟨dst, w, et, true, true⟩ :: M)) ((dst.drop (j * w)).take w) l[j])
    (hc : A.rd (vws (H.length + 1) (H ++ ⟨dst, w, et, true, true⟩ :: (M ++ N))) cs l[i]) : InvS A H w et l (i + 1) (H ++ ⟨setL dst (i * w) cs, w, et, true, true⟩ :: (M ++ N)) := by
  have hcl : cs.length = w := by rw [A.len hc, hw]
  have hl : i * w + w ≤ dst.length := by rw [hd, ← Nat.succ_mul]; exact Nat.mul_le_mul_right _ hi
  refine ⟨_, _, rfl, by rw [setL_length, hd], fun j hj hji => ?_⟩
  refine A.mono (vws_same H (M ++ N) ⟨dst, w, et, true, true⟩ _) ?_
  by_cases hij : j = i
  · subst hij; rw [setL_at hcl hl]; exact hc
  · rw [setL_other hcl hl (by omega)]
    refine A.mono ?_ (h j hj (by omega))
    have := vws_app (H.length + 1) (H ++ ⟨dst, w, et, true, true⟩ :: M) N
    rw [List.append_assoc, List.cons_append] at this
    exact this
/-- What one turn of the copy must do. -/
def TurnOkS (F : Nat → Option IFn) (A : Co α) (w et : Nat) (b : List IOper) : Prop := ∀ (H : Heap) (v : Value) (l : List α) (i : Nat) (e : Env) (H' : Heap) (hi : i < l.length), SlR A (vw 0 H) v l → l.length ≤ 1048576 → A.sm l[i] → InvS A H w et l i H' →
  e 0 = v → e 3 = sli H.length 0 l.length → e 4 = .int .i64 i → wpo F H.length b e H' fun e1 H1 => e1 0 = v ∧ e1 3 = sli H.length 0 l.length ∧ e1 4 = .int .i64 i ∧ InvS A H w et l (i + 1) H1
theorem toSlS_ok (hf : F f = some (toSlH nt r w et bytes z b)) (hr : 12 < r) (hz : z.length = w) (hw : A.w = w) (hb : bytes ≤ 1048576) (ht : TurnOkS F A w et b) : ToOkS F (Co.sl A) false .k f := by
  refine ToOkS.ofK ?_
  rintro H v l ⟨cs, hc, v', rfl, hv⟩ ⟨hs1, hs2⟩
  simp only [go_sem, binC, Option.some.injEq] at hc
  subst hc
  have hv' := hv
  obtain ⟨h0, a, rfl, h2⟩ := hv
  refine KC.mk hf rfl ?_
  refine seq_reg ?_
  simp only [go_sem, binC]
  refine seq_reg ?_
  simp only [go_sem, binC]
  have hm : (l.length : Int) * bytes ≤ 140737488355328 := by
    have h1 : l.length * bytes ≤ 1048576 * 1048576 := Nat.mul_le_mul hs1 hb
    have h2 : (l.length : Int) * bytes = ((l.length * bytes : Nat) : Int) := by simp
    rw [h2]; omega
  refine ⟨⟨by omega, hm, by omega⟩, ?_⟩
  refine seq_assoc (seq_reg ?_)
  simp only [go_sem, binC]
  refine seq_block (wpc_loop ?_)
  suffices h : ∀ (k i : Nat) (e : Env) (H' : Heap), i + k = l.length → e 0 = .slice a l.length l.length → e 3 = sli H.length 0 l.length → e 4 = .int .i64 i → InvS A H w et l i H' → W F H.length _ e H' _ from
    h l.length 0 _ _ (by omega) (by simp only [go_sem, binC]) (by simp only [go_sem, binC]) (by simp only [go_sem, binC]; rfl) ⟨_, [], rfl, by rw [flatten_rep, hz], fun j _ hj => by omega⟩
  intro k
  induction k with
  | zero =>
    intro i e H' hi e0 e3 e4 hI
    refine lp_step ?_
    refine seq_assoc (seq_reg ?_)
    simp only [go_sem, binC, e0, e4]
    refine seq_cond (t := false) (by simp only [go_sem, binC]; rw [decide_eq_false (by omega)]) ?_
    simp only [go_sem, binC]
    refine seq_exit ?_
    simp only [go_sem, binC, thenX_e, out_e, thenX_n]
    refine seq_reg ?_
    have hr1 : (3 : Nat) ≠ r := by omega
    simp only [go_sem, binC, e3, hr1]
    refine wpc_ret ⟨Or.inr rfl, sli H.length 0 l.length, by simp only [go_sem, binC], ?_⟩
    obtain ⟨dst, M, rfl, hd, hj⟩ := hI
    refine ⟨_, rfl, [_], rfl, Co.rd_sl.2 ⟨h0, _, rfl, Or.inr ⟨_, _, rfl, fun i' hi' => ⟨_, ?_, A.mono (vws_grow (by omega) fun _ _ _ => rfl) (hj i' hi' (by omega))⟩⟩⟩⟩
    have hl : i' * w + w ≤ dst.length := by rw [hd, ← Nat.succ_mul]; exact Nat.mul_le_mul_right _ hi'
    unfold rng vws
    rw [if_pos (Nat.le_refl _), get_new0, hw]
    simp only [List.getElem?_cons_zero, Option.bind_some, if_true, Nat.zero_add]
    rw [if_pos hl]
  | succ k ih =>
    intro i e H' hi e0 e3 e4 hI
    refine lp_step ?_
    refine seq_assoc (seq_reg ?_)
    simp only [go_sem, binC, e0, e4]
    refine seq_cond (t := true) (by simp only [go_sem, binC]; rw [decide_eq_true (by omega)]) ?_
    simp only [go_sem, binC]
    refine seq_skip (seq_block (wpc_reg ?_))
    have hT := ht H _ l i (putE (putE (putE (putE e (some 8) (.int .i64 i)) (some 9) (.slice a l.length l.length)) (some 10) (.int .i64 l.length)) (some 11) (.bool (decide ((i : Int) < l.length)))) H' (by omega) hv' hs1 (hs2 _ (List.getElem_mem _)) hI (by simp only [go_sem, binC, e0]) (by simp only [go_sem, binC, e3]) (by simp only [go_sem, binC, e4])
    refine wpo_mono hT ?_
    rintro e2 H2 ⟨q0, q3, q4, q5⟩
    simp only [go_sem, binC, out_n, thenX_n]
    refine wpc_reg ?_
    simp only [go_sem, binC, q4]
    have hw1 : IntKind.i64.wrap ((i : Int) + 1) = ((i + 1 : Nat) : Int) := by rw [wrap_id (by omega) (by omega)]; omega
    rw [hw1]
    exact ih (i + 1) _ _ (by omega) (by simp only [go_sem, binC, q0]) (by simp only [go_sem, binC, q3]) (by simp only [go_sem, binC]) q5
theorem toCallBS_ok {m : Mode} (hg : ToOkS F A agg m g) (hw : A.w = w) (hva : ∀ V cs a, A.rd V cs a → ∃ v, valOf agg cs = some v) : TurnOkS F A w et (toCallB m g w agg) := by
  rintro H v l i e H' hi ⟨h0, a, rfl, h2⟩ hs hsm ⟨dst, M, rfl, hd, hj⟩ e0 e3 e4
  rcases h2 with h2 | ⟨b, o, rfl, h2⟩
  · rw [h2] at hi; simp at hi
  obtain ⟨cs, h3, h4⟩ := h2 i hi
  obtain ⟨x, hx⟩ := hva _ _ _ h4
  have g3 := rng_gc (rng_sub (vw_app 0 H (⟨dst, w, et, true, true⟩ :: M)) h3)
  rw [hw] at g3
  unfold toCallB
  simp only [go_sem, binC, e0, e3, e4, g3, hx]
  refine ⟨⟨by omega, by omega⟩, ?_⟩
  refine hg _ x l[i] ⟨cs, hx, A.mono (vw_app 0 H _) h4⟩ hsm _ _ _ _ (by simp only [go_sem, binC]) ?_
  rintro v' L ⟨cs', hv', hr⟩
  have hcc := Rd.cells hv' hr
  have hl : i * w + w ≤ dst.length := by rw [hd, ← Nat.succ_mul]; exact Nat.mul_le_mul_right _ hi
  have hol : (v'.cells.toList.all one) = true := by rw [hcc, List.all_eq_true]; exact A.ones hr
  have hr' : A.rd (vws (H.length + 1) (H ++ ⟨dst, w, et, true, true⟩ :: (M ++ L))) cs' l[i] := by
    refine A.mono ?_ hr
    rw [List.append_assoc, List.cons_append]
    exact vws_grow (by simp) fun _ _ _ => rfl
  simp only [go_sem, binC, e3, e4]
  refine ⟨⟨by omega, by omega⟩, ⟨by show v'.cells.toList.length = w; rw [hcc, A.len hr, hw], by omega, hol⟩, ?_⟩
  refine ⟨e0, ?_⟩
  show InvS A H w et l (i + 1) (H ++ ⟨setL dst (i * w) v'.cells.toList, w, et, true, true⟩ :: (M ++ L))
  rw [hcc]
  exact InvS.step hw hi hd hj hr'
theorem toCallS_ok {m : Mode} (hf : F f = some (toCall m g w et bytes z agg)) (hz : z.length = w) (hb : bytes ≤ 1048576) (hg : ToOkS F A agg m g) (hw : A.w = w) (hva : ∀ V cs a, A.rd V cs a → ∃ v, valOf agg cs = some v) : ToOkS F (Co.sl A) false .k f :=
  toSlS_ok hf (by omega) hz hw hb (toCallBS_ok hg hw hva)
end
end Go.Proofs.YtkmghcglmjehcaaI
end
section
/- Marks: numbers that are written into memory of one's own, and what they leave alone. -/
set_option linter.unusedVariables false
set_option linter.unusedSimpArgs false
namespace Go.Proofs.YtkmghcglmjehcaaI
open Go Go.RowKit

/-- Numbers from one on. -/
def seqI (k : Int) : Nat → List Value
  | 0 => []
  | n + 1 => .int .i64 k :: seqI (k + 1) n
theorem seqI_length : ∀ (n : Nat) (k : Int), (seqI k n).length = n
  | 0, _ => rfl
  | n + 1, k => by rw [seqI, List.length_cons, seqI_length n]
theorem seqI_at : ∀ (n : Nat) (k : Int) (i : Nat), i < n → (seqI k n)[i]? = some (.int .i64 (k + i))
  | 0, _, _, h => by omega
  | n + 1, k, 0, _ => by simp [seqI]
  | n + 1, k, i + 1, h => by
    rw [seqI, List.getElem?_cons_succ, seqI_at n _ i (by omega)]
    congr 2
    omega
theorem seqI_snoc : ∀ (n : Nat) (k : Int), seqI k (n + 1) = seqI k n ++ [.int .i64 (k + n)]
  | 0, k => by simp [seqI]
  | n + 1, k => by
    rw [seqI, seqI_snoc n, seqI, List.cons_append]
    congr 4
    omega
theorem setL_appendL : ∀ (xs : List Value) (cs ys : List Value) (o : Nat), setL cs o (xs ++ ys) = setL (setL cs o xs) (o + xs.length) ys
  | [], cs, ys, o => rfl
  | x :: xs, cs, ys, o => by
    rw [List.cons_append, setL_cons, setL_appendL xs, setL_cons, List.length_cons]
    congr 1
    omega
theorem setL_get : ∀ (xs cs : List Value) (o i : Nat), o + xs.length ≤ cs.length → (setL cs o xs)[i]? = if o ≤ i ∧ i < o + xs.length then xs[i - o]? else cs[i]?
  | [], cs, o, i, _ => by rw [setL_nil, if_neg (by simp only [List.length_nil]; omega)]
  | x :: xs, cs, o, i, h => by
    simp only [List.length_cons] at h
    rw [setL_cons, setL_get xs _ _ _ (by rw [List.length_set]; omega)]
    by_cases h1 : o + 1 ≤ i ∧ i < o + 1 + xs.length
    · rw [if_pos h1, if_pos (by simp only [List.length_cons]; omega), show i - o = (i - (o + 1)) + 1 by omega, List.getElem?_cons_succ]
    · rw [if_neg h1]
      by_cases h2 : i = o
      · subst h2
        rw [if_pos (by simp only [List.length_cons]; omega), Nat.sub_self, List.getElem?_cons_zero, List.getElem?_set_self (by omega)]
      · rw [if_neg (by simp only [List.length_cons]; omega), List.getElem?_set_ne (by omega)]

/-- A heap with numbers written into a block. -/
def markB (H : Heap) (b o : Nat) (k : Int) (m : Nat) : Heap := match H[b]? with
  | some kb => H.set b { kb with cells := setL kb.cells o (seqI k m) }
  | none => H
theorem markB_zero (H : Heap) (b o : Nat) (k : Int) : markB H b o k 0 = H := by
  unfold markB
  split
  · rename_i kb h
    rw [seqI, setL_nil]
    obtain ⟨h1, h2⟩ := List.getElem?_eq_some_iff.1 h
    subst h2
    exact List.set_getElem_self h1
  · rfl
theorem markB_get {H : Heap} {b : Nat} {cs : List Value} {es et : Nat} {ap so : Bool} (h : H[b]? = some ⟨cs, es, et, ap, so⟩) (o : Nat) (k : Int) (m : Nat) : (markB H b o k m)[b]? = some ⟨setL cs o (seqI k m), es, et, ap, so⟩ := by
  unfold markB
  rw [h]
  exact List.getElem?_set_self (List.getElem?_eq_some_iff.1 h).1
theorem markB_ne (H : Heap) {b b' : Nat} (o : Nat) (k : Int) (m : Nat) (hb : b' ≠ b) : (markB H b o k m)[b']? = H[b']? := by
  unfold markB
  split
  · exact List.getElem?_set_ne (fun h => hb h.symm)
  · rfl
theorem markB_len (H : Heap) (b o : Nat) (k : Int) (m : Nat) : (markB H b o k m).length = H.length := by
  unfold markB
  split
  · exact List.length_set
  · rfl
theorem markB_step {H : Heap} {b : Nat} {cs : List Value} {es et : Nat} {ap so : Bool} (h : H[b]? = some ⟨cs, es, et, ap, so⟩) {o : Nat} {k : Int} (m : Nat) {x : Nat} {kk : Int} (hx : x = o + m) (hk : kk = k + m) :
    (markB H b o k m).set b ⟨(setL cs o (seqI k m)).set x (.int .i64 kk), es, et, ap, so⟩ = markB H b o k (m + 1) := by
  subst hx; subst hk
  unfold markB
  rw [h]
  show (H.set b _).set b _ = H.set b ⟨setL cs o (seqI k (m + 1)), es, et, ap, so⟩
  rw [List.set_set, seqI_snoc, setL_appendL, seqI_length, setL_cons, setL_nil]

/-- A slice of n elements of w cells, in a block of one's own. -/
def FlatB (lo hi : Nat) (H : Heap) (w : Nat) (v : Value) (n : Nat) (b o : Nat) : Prop := n ≤ 9223372036854775807 ∧ ∃ a, v = .slice a n n ∧ (n = 0 ∨ a = some ⟨b, o, none⟩ ∧ lo ≤ b ∧ b < hi ∧ ∃ cs es et ap, H[b]? = some ⟨cs, es, et, ap, true⟩ ∧ o + n * w ≤ cs.length)
def MarkFlat (F : Nat → Option IFn) (w f : Nat) : Prop := ∀ (H : Heap) (v : Value) (n b o lo hi lo0 : Nat) (k : Int), FlatB lo hi H w v n b o → lo0 ≤ lo → 0 ≤ k → k + (n * w : Nat) ≤ 9223372036854775807 →
  NC F lo0 f [v, .int .i64 k] H (.int .i64 (k + (n * w : Nat))) (if n = 0 then H else markB H b o k (n * w))

theorem NC.mkE {F : Nat → Option IFn} {lo : Nat} {H : Heap} {f np nt : Nat} {rs : List IRes} {body : ICode} {args : List Value} {v : Value} {H1 : Heap} (hf : F f = some ⟨np, nt, rs, body⟩) (hl : args.length = np) (h : wpc F lo body (ini args) H (fin rs fun w H2 => w = v ∧ H2 = H1)) : NC F lo f args H v H1 := by
  obtain ⟨x, e1, H1', h1, h2, w, h3, rfl, rfl⟩ := h
  exact ⟨_, x, e1, hf, hl, h1, h2, h3⟩

/-! ### The schema of a mark of a flat slice -/
def markH (r w : Nat) (b : ICode) (nt : Nat) : IFn := ⟨2, nt, [.t 4],
 .seq (.reg none [
    ⟨(some 4), none, .mov (.c (.int .i64 0))⟩])
 (.seq (.seq (.reg none [
     ⟨(some 5), none, .mov (.c (.int .i64 0))⟩])
  (.block 0 (.loop (.seq (.seq (.reg none [
        ⟨(some 6), none, .mov (.t 5)⟩,
        ⟨(some 7), none, .mov (.t 0)⟩,
        ⟨(some 8), none, .len (.t 7)⟩,
        ⟨(some 9), none, .bin .lss (.t 6) (.t 8)⟩])
     (.cond (.t 9) (.skip) (.exit 0)))
    (.seq (.block 1 b)
    (.reg none [
      ⟨(some 10), none, .mov (.t 5)⟩,
      ⟨(some 11), none, .bin .add (.t 10) (.c (.int .i64 1))⟩,
      ⟨(some 5), none, .mov (.t 11)⟩]))))))
 (.seq (.reg none [
    ⟨(some r), none, .mov (.t 1)⟩,
    ⟨(some 4), none, .mov (.t r)⟩])
 (.ret)))⟩
/-- One turn of a mark. -/
def MarkTurn (F : Nat → Option IFn) (w : Nat) (body : ICode) : Prop := ∀ (H : Heap) (n b o i : Nat) (k q : Int) (lo0 : Nat) (e : Env) (cs : List Value) (es et : Nat) (ap : Bool) (K : X → Env → Heap → Prop),
  H[b]? = some ⟨cs, es, et, ap, true⟩ → o + n * w ≤ cs.length → i < n → lo0 ≤ b → 0 ≤ k → k + (n * w : Nat) ≤ 9223372036854775807 → n ≤ 9223372036854775807 → q = k + (i * w : Nat) →
  e 0 = sli b o n → e 5 = .int .i64 i → e 1 = .int .i64 q →
  (∀ e1, e1 0 = sli b o n → e1 5 = .int .i64 i → e1 1 = .int .i64 (k + ((i + 1) * w : Nat)) → K .n e1 (markB H b o k ((i + 1) * w))) → wpc F lo0 body e (markB H b o k (i * w)) K
theorem markFlat_ok {F : Nat → Option IFn} {f r w nt : Nat} {body : ICode} (hf : F f = some (markH r w body nt)) (hr : 12 < r) (ht : MarkTurn F w body) : MarkFlat F w f := by
  rintro H v n b o lo hi lo0 k ⟨hn, a, rfl, ha⟩ hlo hk hkn
  refine NC.mkE hf rfl ?_
  refine seq_reg ?_
  simp only [go_sem, binC]
  refine seq_assoc (seq_reg ?_)
  simp only [go_sem, binC]
  refine seq_block (wpc_loop ?_)
  have hr1 : (4 : Nat) ≠ r := by omega
  have hr2 : (1 : Nat) ≠ r := by omega
  rcases Nat.eq_zero_or_pos n with h0 | h0
  · subst h0
    refine lp_step ?_
    refine seq_assoc (seq_reg ?_)
    simp only [go_sem, binC]
    refine seq_cond (t := false) (by simp only [go_sem, binC]; rfl) ?_
    simp only [go_sem, binC]
    refine seq_exit ?_
    simp only [go_sem, binC, thenX_e, out_e, thenX_n]
    refine seq_reg ?_
    simp only [go_sem, binC]
    refine wpc_ret ⟨Or.inr rfl, _, (by simp only [go_sem, binC]; rfl), ?_, ?_⟩
    · simp
    · rfl
  obtain ⟨rfl, hb1, hb2, cs, es, et, ap, hb, hcs⟩ : a = some ⟨b, o, none⟩ ∧ lo ≤ b ∧ b < hi ∧ ∃ cs es et ap, H[b]? = some ⟨cs, es, et, ap, true⟩ ∧ o + n * w ≤ cs.length := ha.resolve_left (by omega)
  suffices h : ∀ (j i : Nat) (e : Env), i + j = n → e 0 = sli b o n → e 5 = .int .i64 i → e 1 = .int .i64 (k + (i * w : Nat)) → W F lo0 _ e (markB H b o k (i * w)) _ from by
    have := h n 0 (putE (putE (ini [.slice (some ⟨b, o, none⟩) n n, .int .i64 k]) (some 4) (.int .i64 0)) (some 5) (.int .i64 0)) (by omega) (by simp only [go_sem, binC]; rfl) (by simp only [go_sem, binC]; rfl) (by simp only [go_sem, binC]; simp)
    rw [Nat.zero_mul, markB_zero] at this
    exact this
  intro j
  induction j with
  | zero =>
    intro i e hi e0 e5 e1
    refine lp_step ?_
    refine seq_assoc (seq_reg ?_)
    simp only [go_sem, binC, e0, e5]
    refine seq_cond (t := false) (by simp only [go_sem, binC]; rw [decide_eq_false (by omega)]) ?_
    simp only [go_sem, binC]
    refine seq_exit ?_
    simp only [go_sem, binC, thenX_e, out_e, thenX_n]
    refine seq_reg ?_
    simp only [go_sem, binC, e1]
    obtain rfl : i = n := by omega
    refine wpc_ret ⟨Or.inr rfl, _, (by simp only [go_sem, binC]; rfl), ?_, ?_⟩
    · rfl
    · rw [if_neg (by omega)]
  | succ j ih =>
    intro i e hi e0 e5 e1
    refine lp_step ?_
    refine seq_assoc (seq_reg ?_)
    simp only [go_sem, binC, e0, e5]
    refine seq_cond (t := true) (by simp only [go_sem, binC]; rw [decide_eq_true (by omega)]) ?_
    simp only [go_sem, binC]
    refine seq_skip (seq_block ?_)
    refine ht H n b o i k _ lo0 _ cs es et ap _ hb hcs (by omega) (by omega) hk hkn hn rfl (by simp only [go_sem, binC, e0]) (by simp only [go_sem, binC, e5]) (by simp only [go_sem, binC, e1]) ?_
    intro e2 q0 q5 q1
    simp only [go_sem, binC, out_n, thenX_n]
    refine wpc_reg ?_
    simp only [go_sem, binC, q5]
    have hw1 : IntKind.i64.wrap ((i : Int) + 1) = ((i + 1 : Nat) : Int) := by rw [wrap_id (by omega) (by omega)]; omega
    rw [hw1]
    simp only [go_sem, binC, thenX_n]
    exact ih (i + 1) _ (by omega) (by simp only [go_sem, binC, q0]) (by simp only [go_sem, binC]) (by simp only [go_sem, binC, q1])
end Go.Proofs.YtkmghcglmjehcaaI
end
section
/- Tests of marked memory; marks and tests of flat slices. -/
set_option linter.unusedVariables false
set_option linter.unusedSimpArgs false
namespace Go.Proofs.YtkmghcglmjehcaaI
open Go Go.RowKit
theorem held_at {H : Heap} {b o N : Nat} {k : Int} (h : getCells H b o N = some (seqI k N)) {m : Nat} (hm : m < N) : getCells H b (o + m) 1 = some [.int .i64 (k + m)] := by
  unfold getCells at h ⊢
  split at h
  · rename_i kb hb
    split at h
    · rename_i hl
      simp only [Option.some.injEq] at h
      rw [if_pos (by omega)]
      have h1 : (kb.cells.drop (o + m)).head? = some (.int .i64 (k + m)) := by
        rw [List.head?_drop, ← seqI_at N k m hm, ← h, List.getElem?_take_of_lt hm, List.getElem?_drop]
      cases hd : kb.cells.drop (o + m) with
      | nil => rw [hd] at h1; cases h1
      | cons c r => rw [hd] at h1; simp only [List.head?_cons, Option.some.injEq] at h1; subst h1; rfl
    · cases h
  · cases h
/-- A slice's block reads numbers from one on. -/
def HeldR (H : Heap) (v : Value) (w n b o : Nat) (k : Int) : Prop := n ≤ 9223372036854775807 ∧ ∃ a, v = .slice a n n ∧ (n = 0 ∨ a = some ⟨b, o, none⟩ ∧ getCells H b o (n * w) = some (seqI k (n * w)))
theorem HeldR.mono {H H1 : Heap} {v : Value} {w n b o : Nat} {k : Int} (h : HeldR H v w n b o k) (hH : n = 0 ∨ H1[b]? = H[b]?) : HeldR H1 v w n b o k := by
  obtain ⟨h1, a, h2, h3⟩ := h
  refine ⟨h1, a, h2, ?_⟩
  rcases h3 with h3 | ⟨h3, h4⟩
  · exact .inl h3
  rcases hH with hH | hH
  · exact .inl hH
  refine .inr ⟨h3, ?_⟩
  unfold getCells at h4 ⊢
  rw [hH]
  exact h4
theorem held_mark {lo hi : Nat} {H : Heap} {v : Value} {w n b o : Nat} (h : FlatB lo hi H w v n b o) (k : Int) : HeldR (if n = 0 then H else markB H b o k (n * w)) v w n b o k := by
  obtain ⟨h1, a, h2, h3⟩ := h
  refine ⟨h1, a, h2, ?_⟩
  by_cases h0 : n = 0
  · exact .inl h0
  obtain ⟨h4, _, _, cs, es, et, ap, hb, hc⟩ := h3.resolve_left h0
  refine .inr ⟨h4, ?_⟩
  rw [if_neg h0]
  unfold getCells
  rw [markB_get hb]
  simp only [setL_length]
  rw [if_pos hc]
  congr 1
  apply List.ext_getElem?
  intro i
  by_cases hi : i < n * w
  · rw [List.getElem?_take_of_lt hi, List.getElem?_drop, setL_get _ _ _ _ (by rw [seqI_length]; exact hc), seqI_length, if_pos (by omega)]
    congr 1
    omega
  · rw [List.getElem?_take_eq_none (by omega), List.getElem?_eq_none (by rw [seqI_length]; omega)]
def HeldFlat (F : Nat → Option IFn) (w f : Nat) : Prop := ∀ (H : Heap) (v : Value) (n b o : Nat) (k : Int), HeldR H v w n b o k → 0 ≤ k → k + (n * w : Nat) ≤ 9223372036854775807 → QC F f [v, .int .i64 k] H (.int .i64 (k + (n * w : Nat)))
def HeldTurn (F : Nat → Option IFn) (w : Nat) (body : ICode) : Prop := ∀ (H : Heap) (n b o i : Nat) (k q : Int) (lo0 : Nat) (e : Env) (K : X → Env → Heap → Prop),
  getCells H b o (n * w) = some (seqI k (n * w)) → i < n → 0 ≤ k → k + (n * w : Nat) ≤ 9223372036854775807 → n ≤ 9223372036854775807 → q = k + (i * w : Nat) →
  e 0 = sli b o n → e 5 = .int .i64 i → e 1 = .int .i64 q →
  (∀ e1, e1 0 = sli b o n → e1 5 = .int .i64 i → e1 1 = .int .i64 (k + ((i + 1) * w : Nat)) → K .n e1 H) → wpc F lo0 body e H K
theorem heldFlat_ok {F : Nat → Option IFn} {f r w nt : Nat} {body : ICode} (hf : F f = some (markH r w body nt)) (hr : 12 < r) (ht : HeldTurn F w body) : HeldFlat F w f := by
  rintro H v n b o k ⟨hn, a, rfl, ha⟩ hk hkn
  refine QC.mk hf rfl ?_
  refine seq_reg ?_
  simp only [go_sem, binC]
  refine seq_assoc (seq_reg ?_)
  simp only [go_sem, binC]
  refine seq_block (wpc_loop ?_)
  have hr1 : (4 : Nat) ≠ r := by omega
  have hr2 : (1 : Nat) ≠ r := by omega
  rcases Nat.eq_zero_or_pos n with h0 | h0
  · subst h0
    refine lp_step ?_
    refine seq_assoc (seq_reg ?_)
    simp only [go_sem, binC]
    refine seq_cond (t := false) (by simp only [go_sem, binC]; rfl) ?_
    simp only [go_sem, binC]
    refine seq_exit ?_
    simp only [go_sem, binC, thenX_e, out_e, thenX_n]
    refine seq_reg ?_
    simp only [go_sem, binC]
    refine wpc_ret ⟨Or.inr rfl, _, (by simp only [go_sem, binC]; rfl), ?_, rfl⟩
    simp
  obtain ⟨rfl, hg⟩ : a = some ⟨b, o, none⟩ ∧ getCells H b o (n * w) = some (seqI k (n * w)) := ha.resolve_left (by omega)
  suffices h : ∀ (j i : Nat) (e : Env), i + j = n → e 0 = sli b o n → e 5 = .int .i64 i → e 1 = .int .i64 (k + (i * w : Nat)) → W F H.length _ e H _ from
    h n 0 (putE (putE (ini [.slice (some ⟨b, o, none⟩) n n, .int .i64 k]) (some 4) (.int .i64 0)) (some 5) (.int .i64 0)) (by omega) (by simp only [go_sem, binC]; rfl) (by simp only [go_sem, binC]; rfl) (by simp only [go_sem, binC]; simp)
  intro j
  induction j with
  | zero =>
    intro i e hi e0 e5 e1
    refine lp_step ?_
    refine seq_assoc (seq_reg ?_)
    simp only [go_sem, binC, e0, e5]
    refine seq_cond (t := false) (by simp only [go_sem, binC]; rw [decide_eq_false (by omega)]) ?_
    simp only [go_sem, binC]
    refine seq_exit ?_
    simp only [go_sem, binC, thenX_e, out_e, thenX_n]
    refine seq_reg ?_
    simp only [go_sem, binC, e1]
    obtain rfl : i = n := by omega
    refine wpc_ret ⟨Or.inr rfl, _, by simp only [go_sem, binC], rfl, rfl⟩
  | succ j ih =>
    intro i e hi e0 e5 e1
    refine lp_step ?_
    refine seq_assoc (seq_reg ?_)
    simp only [go_sem, binC, e0, e5]
    refine seq_cond (t := true) (by simp only [go_sem, binC]; rw [decide_eq_true (by omega)]) ?_
    simp only [go_sem, binC]
    refine seq_skip (seq_block ?_)
    refine ht H n b o i k _ H.length _ _ hg (by omega) hk hkn hn rfl (by simp only [go_sem, binC, e0]) (by simp only [go_sem, binC, e5]) (by simp only [go_sem, binC, e1]) ?_
    intro e2 q0 q5 q1
    simp only [go_sem, binC, out_n, thenX_n]
    refine wpc_reg ?_
    simp only [go_sem, binC, q5]
    have hw1 : IntKind.i64.wrap ((i : Int) + 1) = ((i + 1 : Nat) : Int) := by rw [wrap_id (by omega) (by omega)]; omega
    rw [hw1]
    simp only [go_sem, binC, thenX_n]
    exact ih (i + 1) _ (by omega) (by simp only [go_sem, binC, q0]) (by simp only [go_sem, binC]) (by simp only [go_sem, binC, q1])
def markT1 : ICode := (.seq (.reg none [
    ⟨(some 12), none, .mov (.t 0)⟩,
    ⟨(some 13), none, .mov (.t 5)⟩,
    ⟨(some 14), none, .mov (.t 1)⟩,
    ⟨(some 15), none, .iad 1 (.t 12) (.t 13)⟩,
    ⟨none, none, .store 1 (.t 15) (.t 14)⟩])
  (.reg none [
    ⟨(some 16), none, .mov (.t 1)⟩,
    ⟨(some 17), none, .bin .add (.t 16) (.c (.int .i64 1))⟩,
    ⟨(some 1), none, .mov (.t 17)⟩]))
theorem markT1_ok {F : Nat → Option IFn} : MarkTurn F 1 markT1 := by
  intro H n b o i k q lo0 e cs es et ap K hb hcs hi hlo hk hkn hn hq e0 e5 e1 hK
  unfold markT1
  have hin : (i + 1) * 1 ≤ n * 1 := Nat.mul_le_mul_right _ hi
  have hlen : ∀ m, (setL cs o (seqI k m)).length = cs.length := fun m => setL_length _ _ _
  refine seq_reg ?_
  simp only [go_sem, binC, e0, e5, e1, markB_get hb, hlen]
  refine ⟨⟨by omega, by omega⟩, ⟨by omega, by omega⟩, ?_⟩
  rw [markB_step hb (i * 1) (by omega) (by omega)]
  refine wpc_reg ?_
  simp only [go_sem, binC, e1]
  rw [wrap_id (x := q + 1) (by omega) (by omega)]
  rw [show i * 1 + 1 = (i + 1) * 1 by omega]
  refine hK _ (by simp only [go_sem, binC, e0]) (by simp only [go_sem, binC, e5]) ?_
  simp only [go_sem, binC]
  congr 1
  omega
def c_mark1 : IFn := markH 18 1 markT1 19
theorem mark1_ok {F : Nat → Option IFn} {f : Nat} (hf : F f = some c_mark1) : MarkFlat F 1 f := markFlat_ok hf (by omega) markT1_ok
def heldT1 : ICode := (.seq (.seq (.reg none [
    ⟨(some 12), none, .mov (.t 0)⟩,
    ⟨(some 13), none, .mov (.t 5)⟩,
    ⟨(some 14), none, .iad 1 (.t 12) (.t 13)⟩,
    ⟨(some 15), none, .load false 1 (.t 14)⟩,
    ⟨(some 16), none, .mov (.t 1)⟩,
    ⟨(some 17), none, .bin .neq (.t 15) (.t 16)⟩])
   (.cond (.t 17) (.seq (.reg none [
    ⟨(some 4), none, .mov (.c (.int .i64 (-1)))⟩])
    (.ret)) (.skip)))
  (.reg none [
    ⟨(some 18), none, .mov (.t 1)⟩,
    ⟨(some 19), none, .bin .add (.t 18) (.c (.int .i64 1))⟩,
    ⟨(some 1), none, .mov (.t 19)⟩]))
theorem heldT1_ok {F : Nat → Option IFn} : HeldTurn F 1 heldT1 := by
  intro H n b o i k q lo0 e K hg hi hk hkn hn hq e0 e5 e1 hK
  unfold heldT1
  have hin : (i + 1) * 1 ≤ n * 1 := Nat.mul_le_mul_right _ hi
  have g0 : getCells H b (o + i * 1) 1 = some [.int .i64 (q)] := by
    have := held_at hg (m := i * 1) (by omega)
    rw [show o + i * 1 = o + (i * 1) by omega, this, show k + ((i * 1 : Nat) : Int) = q by omega]
  refine seq_assoc (seq_reg ?_)
  simp only [go_sem, binC, e0, e5, e1, g0, bne_self_eq_false]
  refine ⟨⟨by omega, by omega⟩, ?_⟩
  refine seq_cond (t := false) (by simp only [go_sem, binC]) ?_
  simp only [go_sem, binC]
  refine seq_skip ?_
  refine wpc_reg ?_
  simp only [go_sem, binC, e1]
  rw [wrap_id (x := q + 1) (by omega) (by omega)]
  refine hK _ (by simp only [go_sem, binC, e0]) (by simp only [go_sem, binC, e5]) ?_
  simp only [go_sem, binC]
  congr 1
  omega
def c_held1 : IFn := markH 20 1 heldT1 21
theorem held1_ok {F : Nat → Option IFn} {f : Nat} (hf : F f = some c_held1) : HeldFlat F 1 f := heldFlat_ok hf (by omega) heldT1_ok

def markT2 : ICode := (.seq (.reg none [
    ⟨(some 12), none, .mov (.t 0)⟩,
    ⟨(some 13), none, .mov (.t 5)⟩,
    ⟨(some 14), none, .mov (.t 1)⟩,
    ⟨(some 15), none, .iad 2 (.t 12) (.t 13)⟩,
    ⟨(some 16), none, .fad 0 (.t 15)⟩,
    ⟨none, none, .store 1 (.t 16) (.t 14)⟩])
  (.seq (.reg none [
    ⟨(some 17), none, .mov (.t 1)⟩,
    ⟨(some 18), none, .bin .add (.t 17) (.c (.int .i64 1))⟩,
    ⟨(some 1), none, .mov (.t 18)⟩])
  (.seq (.reg none [
    ⟨(some 19), none, .mov (.t 0)⟩,
    ⟨(some 20), none, .mov (.t 5)⟩,
    ⟨(some 21), none, .mov (.t 1)⟩,
    ⟨(some 22), none, .iad 2 (.t 19) (.t 20)⟩,
    ⟨(some 23), none, .fad 1 (.t 22)⟩,
    ⟨none, none, .store 1 (.t 23) (.t 21)⟩])
  (.reg none [
    ⟨(some 24), none, .mov (.t 1)⟩,
    ⟨(some 25), none, .bin .add (.t 24) (.c (.int .i64 1))⟩,
    ⟨(some 1), none, .mov (.t 25)⟩]))))
theorem markT2_ok {F : Nat → Option IFn} : MarkTurn F 2 markT2 := by
  intro H n b o i k q lo0 e cs es et ap K hb hcs hi hlo hk hkn hn hq e0 e5 e1 hK
  unfold markT2
  have hin : (i + 1) * 2 ≤ n * 2 := Nat.mul_le_mul_right _ hi
  have hlen : ∀ m, (setL cs o (seqI k m)).length = cs.length := fun m => setL_length _ _ _
  refine seq_reg ?_
  simp only [go_sem, binC, e0, e5, e1, markB_get hb, hlen]
  refine ⟨⟨by omega, by omega⟩, ⟨by omega, by omega⟩, ?_⟩
  rw [markB_step hb (i * 2) (by omega) (by omega)]
  refine seq_reg ?_
  simp only [go_sem, binC, e1]
  rw [wrap_id (x := q + 1) (by omega) (by omega)]
  refine seq_reg ?_
  simp only [go_sem, binC, e0, e5, e1, markB_get hb, hlen]
  refine ⟨⟨by omega, by omega⟩, ⟨by omega, by omega⟩, ?_⟩
  rw [markB_step hb (i * 2 + 1) (by omega) (by omega)]
  refine wpc_reg ?_
  simp only [go_sem, binC, e1]
  rw [wrap_id (x := (q + 1) + 1) (by omega) (by omega)]
  rw [show i * 2 + 2 = (i + 1) * 2 by omega]
  refine hK _ (by simp only [go_sem, binC, e0]) (by simp only [go_sem, binC, e5]) ?_
  simp only [go_sem, binC]
  congr 1
  omega
def c_mark2 : IFn := markH 26 2 markT2 27
theorem mark2_ok {F : Nat → Option IFn} {f : Nat} (hf : F f = some c_mark2) : MarkFlat F 2 f := markFlat_ok hf (by omega) markT2_ok
end Go.Proofs.YtkmghcglmjehcaaI
end
end
section
/- Texts of this proof, merged: I23, I24, I14, I15, I16, I18, I25, D1, D2, D3, D4, D5. -/
section
/- Marks of nested slices and structs: what they leave alone, and that the shape stays. -/
set_option linter.unusedVariables false
set_option linter.unusedSimpArgs false
namespace Go.Proofs.YtkmghcglmjehcaaI
open Go Go.RowKit

/-- A cell that is the same, or a number for a number. -/
def SimI (c c' : Value) : Prop := c' = c ∨ (∃ n, c = .int .i64 n) ∧ ∃ n', c' = .int .i64 n' ∧ -9223372036854775808 ≤ n' ∧ n' ≤ 9223372036854775807
theorem SimI.trans {a b c : Value} (h : SimI a b) (h' : SimI b c) : SimI a c := by
  rcases h' with rfl | ⟨⟨m, rfl⟩, h2⟩
  · exact h
  · rcases h with h | ⟨h1, _⟩
    · exact .inr ⟨⟨m, h.symm⟩, h2⟩
    · exact .inr ⟨h1, h2⟩
def CsSim (cs cs' : List Value) : Prop := cs'.length = cs.length ∧ ∀ (i : Nat) (c : Value), cs[i]? = some c → ∃ c' : Value, cs'[i]? = some c' ∧ SimI c c'
theorem CsSim.refl (cs : List Value) : CsSim cs cs := ⟨rfl, fun _ c h => ⟨c, h, .inl rfl⟩⟩
theorem CsSim.trans {a b c : List Value} (h : CsSim a b) (h' : CsSim b c) : CsSim a c := ⟨h'.1.trans h.1, fun i x hx => let ⟨y, hy, h1⟩ := h.2 i x hx; let ⟨z, hz, h2⟩ := h'.2 i y hy; ⟨z, hz, h1.trans h2⟩⟩
theorem CsSim.cut {a b : List Value} (h : CsSim a b) (o n : Nat) : CsSim ((a.drop o).take n) ((b.drop o).take n) := by
  refine ⟨by simp only [List.length_take, List.length_drop, h.1], fun i c hc => ?_⟩
  by_cases hi : i < n
  · rw [List.getElem?_take_of_lt hi, List.getElem?_drop] at hc ⊢
    exact h.2 _ _ hc
  · rw [List.getElem?_take_eq_none (by omega)] at hc; cases hc
theorem CsSim.split {x y cs : List Value} (h : CsSim (x ++ y) cs) : ∃ x' y', cs = x' ++ y' ∧ CsSim x x' ∧ CsSim y y' := by
  refine ⟨cs.take x.length, cs.drop x.length, (List.take_append_drop _ _).symm, ?_, ?_⟩
  · have := h.cut 0 x.length
    simpa using this
  · have := h.cut x.length y.length
    have e : (cs.drop x.length).take y.length = cs.drop x.length := List.take_of_length_le (by rw [List.length_drop, h.1, List.length_append]; omega)
    rw [e] at this
    simpa using this
/-- What is seen of an interval of blocks that may be written. -/
def vwb (lo hi : Nat) (H : Heap) : Vw := fun b => if lo ≤ b ∧ b < hi then (H[b]?).bind (fun k => if k.solo = true then some k.cells else none) else none
theorem vwb_some {lo hi : Nat} {H : Heap} {b : Nat} {cs : List Value} (h : vwb lo hi H b = some cs) : lo ≤ b ∧ b < hi ∧ ∃ es et ap, H[b]? = some ⟨cs, es, et, ap, true⟩ := by
  unfold vwb at h
  split at h
  · rename_i h1
    cases hk : H[b]? with
    | none => simp [hk] at h
    | some k =>
      simp only [hk, Option.bind_some] at h
      split at h
      · rename_i hs
        simp only [Option.some.injEq] at h
        subst h
        obtain ⟨cs, es, et, ap, so⟩ := k
        simp only at hs
        subst hs
        exact ⟨h1.1, h1.2, _, _, _, rfl⟩
      · cases h
  · cases h
theorem vwb_mk {lo hi : Nat} {H : Heap} {b : Nat} {cs : List Value} {es et : Nat} {ap : Bool} (h1 : lo ≤ b) (h2 : b < hi) (h : H[b]? = some ⟨cs, es, et, ap, true⟩) : vwb lo hi H b = some cs := by
  unfold vwb
  rw [if_pos ⟨h1, h2⟩, h]
  rfl
theorem vwb_same {lo hi : Nat} {H H' : Heap} (h : ∀ b, lo ≤ b → b < hi → H'[b]? = H[b]?) : Sub (vwb lo hi H) (vwb lo hi H') := by
  intro b cs hb
  obtain ⟨h1, h2, es, et, ap, h3⟩ := vwb_some hb
  exact vwb_mk h1 h2 ((h b h1 h2).trans h3)
theorem vws_vwb {lo : Nat} {H : Heap} {hi : Nat} (h : H.length ≤ hi) : Sub (vws lo H) (vwb lo hi H) := by
  intro b cs hb
  unfold vws at hb
  unfold vwb
  split at hb
  · rename_i h1
    have hb2 : b < hi := by
      cases hk : H[b]? with
      | none => simp [hk] at hb
      | some k => have := (List.getElem?_eq_some_iff.1 hk).1; omega
    rw [if_pos ⟨h1, hb2⟩]
    exact hb
  · cases hb

/-- Only numbers of an interval's blocks were changed. -/
def FrI (lo hi : Nat) (H H' : Heap) : Prop := H.length ≤ H'.length ∧ ∀ b, b < H.length → H'[b]? = H[b]? ∨ (lo ≤ b ∧ b < hi ∧ ∃ k k', H[b]? = some k ∧ H'[b]? = some k' ∧ k'.solo = k.solo ∧ CsSim k.cells k'.cells)
theorem FrI.refl (lo hi : Nat) (H : Heap) : FrI lo hi H H := ⟨Nat.le_refl _, fun _ _ => .inl rfl⟩
theorem FrI.grow {lo hi : Nat} (H L : Heap) : FrI lo hi H (H ++ L) := ⟨by rw [List.length_append]; omega, fun b hb => .inl (List.getElem?_append_left hb)⟩
theorem FrI.trans {lo hi : Nat} {H H1 H2 : Heap} (h : FrI lo hi H H1) (h' : FrI lo hi H1 H2) : FrI lo hi H H2 := by
  refine ⟨Nat.le_trans h.1 h'.1, fun b hb => ?_⟩
  have := h.1
  rcases h.2 b hb with e1 | ⟨l1, l2, k, k', e1, e2, e3, e4⟩
  · rcases h'.2 b (by omega) with f1 | ⟨l1, l2, k, k', f1, f2, f3, f4⟩
    · exact .inl (f1.trans e1)
    · exact .inr ⟨l1, l2, k, k', e1 ▸ f1, f2, f3, f4⟩
  · rcases h'.2 b (by omega) with f1 | ⟨_, _, q, q', f1, f2, f3, f4⟩
    · exact .inr ⟨l1, l2, k, k', e1, f1.trans e2, e3, e4⟩
    · rw [e2] at f1
      simp only [Option.some.injEq] at f1
      subst f1
      exact .inr ⟨l1, l2, k, q', e1, f2, f3.trans e3, e4.trans f4⟩
theorem FrI.out {lo hi : Nat} {H H' : Heap} (h : FrI lo hi H H') {b : Nat} (hb : b < H.length) (ho : b < lo ∨ hi ≤ b) : H'[b]? = H[b]? := by
  rcases h.2 b hb with h1 | ⟨h1, h2, _⟩
  · exact h1
  · omega
theorem FrI.gc {lo hi : Nat} {H H' : Heap} (h : FrI lo hi H H') {b : Nat} (hb : b < H.length) (ho : b < lo ∨ hi ≤ b) (o n : Nat) : getCells H' b o n = getCells H b o n := by
  unfold getCells
  rw [h.out hb ho]
def VSim (V V' : Vw) : Prop := ∀ b cs, V b = some cs → ∃ cs', V' b = some cs' ∧ CsSim cs cs'
theorem FrI.vsim {lo hi : Nat} {H H' : Heap} (h : FrI lo hi H H') : VSim (vwb lo hi H) (vwb lo hi H') := by
  intro b cs hb
  obtain ⟨h1, h2, es, et, ap, h3⟩ := vwb_some hb
  rcases h.2 b (List.getElem?_eq_some_iff.1 h3).1 with f1 | ⟨_, _, k, k', f1, f2, f3, f4⟩
  · exact ⟨cs, vwb_mk h1 h2 (f1.trans h3), CsSim.refl _⟩
  · rw [h3] at f1
    simp only [Option.some.injEq] at f1
    subst f1
    obtain ⟨cs', es', et', ap', so'⟩ := k'
    simp only at f3
    subst f3
    exact ⟨cs', vwb_mk h1 h2 f2, f4⟩
theorem VSim.rng {V V' : Vw} (h : VSim V V') {b o n : Nat} {cs : List Value} (k : rng V b o n = some cs) : ∃ cs', rng V' b o n = some cs' ∧ CsSim cs cs' := by
  unfold Go.Proofs.YtkmghcglmjehcaaI.rng at k ⊢
  cases hv : V b with
  | none => simp [hv] at k
  | some c =>
    obtain ⟨c', hc, hs⟩ := h b c hv
    rw [hv] at k
    rw [hc]
    simp only at k ⊢
    split at k
    · rename_i hl
      simp only [Option.some.injEq] at k
      subst k
      rw [hs.1, if_pos hl]
      exact ⟨_, rfl, hs.cut _ _⟩
    · cases k

/-- Numbers may be changed: what stays is told by s. -/
def CoSim {α β : Type} (A : Co α) (s : α → β) : Prop := ∀ (V V' : Vw) (cs cs' : List Value) (a : α), VSim V V' → CsSim cs cs' → A.rd V cs a → ∃ a', A.rd V' cs' a' ∧ s a' = s a
theorem CoSim.comp {α β γ : Type} {A : Co α} {s : α → β} (h : CoSim A s) (g : β → γ) : CoSim A (fun a => g (s a)) := fun V V' cs cs' a h1 h2 h3 => let ⟨a', h4, h5⟩ := h V V' cs cs' a h1 h2 h3; ⟨a', h4, congrArg g h5⟩
theorem CoSim.int : CoSim Co.int (fun _ => ()) := by
  rintro V V' cs cs' a _ ⟨h1, h2⟩ ⟨rfl, h3⟩
  obtain ⟨c', h4, h5⟩ := h2 0 _ rfl
  obtain ⟨x, rfl⟩ : ∃ x, cs' = [x] := List.length_eq_one_iff.1 h1
  simp only [List.getElem?_cons_zero, Option.some.injEq] at h4
  subst h4
  rcases h5 with rfl | ⟨_, n', rfl, h6⟩
  · exact ⟨a, ⟨rfl, h3⟩, rfl⟩
  · exact ⟨n', ⟨rfl, h6⟩, rfl⟩
theorem CoSim.pair {α β γ δ : Type} {A : Co α} {B : Co β} {s : α → γ} {t : β → δ} (hA : CoSim A s) (hB : CoSim B t) : CoSim (Co.pair A B) (fun p => (s p.1, t p.2)) := by
  rintro V V' cs cs' p hV hc ⟨x, y, rfl, h1, h2⟩
  obtain ⟨x', y', rfl, hx, hy⟩ := hc.split
  obtain ⟨a', h3, h4⟩ := hA V V' x x' p.1 hV hx h1
  obtain ⟨b', h5, h6⟩ := hB V V' y y' p.2 hV hy h2
  exact ⟨(a', b'), ⟨x', y', rfl, h3, h5⟩, by simp only [h4, h6]⟩
theorem mk_list {α : Type} (P : Nat → α → Prop) : ∀ (n : Nat), (∀ i, i < n → ∃ a, P i a) → ∃ l : List α, l.length = n ∧ ∀ i (h : i < l.length), P i l[i]
  | 0, _ => ⟨[], rfl, fun i h => by simp at h⟩
  | n + 1, h => by
    obtain ⟨l, h1, h2⟩ := mk_list P n fun i hi => h i (by omega)
    obtain ⟨a, ha⟩ := h n (by omega)
    refine ⟨l ++ [a], by simp [h1], fun i hi => ?_⟩
    by_cases hin : i < l.length
    · rw [List.getElem_append_left hin]; exact h2 i hin
    · simp only [List.length_append, List.length_cons, List.length_nil] at hi
      obtain rfl : i = l.length := by omega
      simpa [h1] using ha
theorem CoSim.sl {α β : Type} {A : Co α} {s : α → β} (hA : CoSim A s) : CoSim (Co.sl A) (fun l => l.map s) := by
  rintro V V' cs cs' l hV ⟨hc1, hc2⟩ ⟨v, rfl, h0, a, rfl, h1⟩
  obtain ⟨c', h4, h5⟩ := hc2 0 _ rfl
  obtain ⟨x, rfl⟩ : ∃ x, cs' = [x] := List.length_eq_one_iff.1 hc1
  simp only [List.getElem?_cons_zero, Option.some.injEq] at h4
  subst h4
  rcases h5 with rfl | ⟨⟨_, h⟩, _⟩
  · rcases h1 with rfl | ⟨b, o, rfl, h1⟩
    · exact ⟨[], ⟨_, rfl, h0, a, rfl, .inl rfl⟩, rfl⟩
    · obtain ⟨l', hl, h2⟩ := mk_list (fun i a' => ∀ h : i < l.length, (∃ cs, rng V' b (o + i * A.w) A.w = some cs ∧ A.rd V' cs a') ∧ s a' = s l[i]) l.length fun i hi => by
        obtain ⟨cs, h3, h4⟩ := h1 i hi
        obtain ⟨cs', h5, h6⟩ := hV.rng h3
        obtain ⟨a', h7, h8⟩ := hA V V' cs cs' _ hV h6 h4
        exact ⟨a', fun _ => ⟨⟨cs', h5, h7⟩, h8⟩⟩
      refine ⟨l', ⟨_, rfl, by omega, some ⟨b, o, none⟩, by rw [hl], .inr ⟨b, o, rfl, fun i hi => (h2 i hi (by omega)).1⟩⟩, ?_⟩
      refine List.ext_getElem (by simp [hl]) fun i h3 h4 => ?_
      rw [List.length_map] at h3
      rw [List.getElem_map, List.getElem_map]
      exact (h2 i h3 (by omega)).2
  · cases h

/-- A mark: numbers are written, as many as c says. -/
def MkOk (F : Nat → Option IFn) {α : Type} (A : Co α) (agg : Bool) (f : Nat) (c : α → Nat) : Prop := ∀ (H : Heap) (v : Value) (a : α) (lo hi lo0 : Nat) (k : Int), Rd A agg (vwb lo hi H) v a → hi ≤ H.length → lo0 ≤ lo → 0 ≤ k → k + (c a : Nat) ≤ 9223372036854775807 →
  ∃ H', NC F lo0 f [v, .int .i64 k] H (.int .i64 (k + (c a : Nat))) H' ∧ FrI lo hi H H'
def AllI {α : Type} (A : Co α) : Prop := ∀ V cs a, A.rd V cs a → ∀ c, c ∈ cs → ∃ n, c = .int .i64 n
theorem AllI.int : AllI Co.int := fun V cs a h c hc => by rw [h.1] at hc; simp only [List.mem_singleton] at hc; exact ⟨_, hc⟩
theorem AllI.pair {α β : Type} {A : Co α} {B : Co β} (hA : AllI A) (hB : AllI B) : AllI (Co.pair A B) := fun V cs p ⟨x, y, h1, h2, h3⟩ c hc => by
  rw [h1, List.mem_append] at hc
  exact hc.elim (hA _ _ _ h2 c) (hB _ _ _ h3 c)
theorem flat_of {α : Type} {A : Co α} {w : Nat} (hw : A.w = w) {lo hi : Nat} {H : Heap} {v : Value} {l : List α} (h : SlR A (vwb lo hi H) v l) : ∃ b o, FlatB lo hi H w v l.length b o ∧ (l ≠ [] → ∃ a, v = .slice (some ⟨b, o, none⟩) a a ∧ ∀ i (h : i < l.length), ∃ cs, rng (vwb lo hi H) b (o + i * w) w = some cs ∧ A.rd (vwb lo hi H) cs l[i]) := by
  obtain ⟨h0, a, rfl, h1⟩ := h
  rcases h1 with rfl | ⟨b, o, rfl, h1⟩
  · exact ⟨0, 0, ⟨h0, a, rfl, .inl rfl⟩, fun h => absurd rfl h⟩
  · refine ⟨b, o, ⟨h0, _, rfl, ?_⟩, fun _ => ⟨_, rfl, hw ▸ h1⟩⟩
    rcases Nat.eq_zero_or_pos l.length with hl | hl
    · exact .inl hl
    refine .inr ⟨rfl, ?_⟩
    obtain ⟨cs, h2, h3⟩ := h1 (l.length - 1) (by omega)
    unfold rng at h2
    split at h2
    · rename_i k hk
      obtain ⟨g1, g2, es, et, ap, g3⟩ := vwb_some hk
      split at h2
      · rename_i hl2
        refine ⟨g1, g2, k, es, et, ap, g3, ?_⟩
        rw [hw] at hl2
        have : l.length * w = (l.length - 1) * w + w := by
          obtain ⟨n, hn⟩ : ∃ n, l.length = n + 1 := ⟨l.length - 1, by omega⟩
          rw [hn, Nat.succ_mul]; rfl
        omega
      · cases h2
    · cases h2
theorem frI_mark {α : Type} {A : Co α} {w : Nat} (hA : AllI A) (hw : A.w = w) (h0 : 0 < w) {lo hi : Nat} {H : Heap} {v : Value} {l : List α} {b o : Nat} (hf : FlatB lo hi H w v l.length b o) (hl : l ≠ []) (h : ∀ i (h : i < l.length), ∃ cs, rng (vwb lo hi H) b (o + i * w) w = some cs ∧ A.rd (vwb lo hi H) cs l[i])
    {k : Int} (hk : 0 ≤ k) (hkn : k + (l.length * w : Nat) ≤ 9223372036854775807) : FrI lo hi H (markB H b o k (l.length * w)) := by
  refine ⟨Nat.le_of_eq (markB_len _ _ _ _ _).symm, fun b' hb' => ?_⟩
  by_cases e : b' = b
  · subst e
    obtain ⟨_, a, _, h3⟩ := hf
    obtain ⟨_, g1, g2, cs, es, et, ap, g3, g4⟩ := h3.resolve_left (by cases l with | nil => exact absurd rfl hl | cons => simp)
    refine .inr ⟨g1, g2, _, _, g3, markB_get g3 _ _ _, rfl, setL_length _ _ _, fun i c hc => ?_⟩
    simp only at hc ⊢
    rw [setL_get _ _ _ _ (by rw [seqI_length]; exact g4), seqI_length]
    by_cases hi2 : o ≤ i ∧ i < o + l.length * w
    · rw [if_pos hi2, seqI_at _ _ _ (by omega)]
      refine ⟨_, rfl, .inr ⟨?_, _, rfl, by omega, by omega⟩⟩
      have hq : (i - o) / w < l.length := Nat.div_lt_of_lt_mul (by rw [Nat.mul_comm]; omega)
      obtain ⟨es', h5, h6⟩ := h _ hq
      unfold rng at h5
      rw [vwb_mk g1 g2 g3] at h5
      simp only at h5
      split at h5
      · simp only [Option.some.injEq] at h5
        subst h5
        have hm : (i - o) % w < w := Nat.mod_lt _ h0
        have hd : (i - o) / w * w + (i - o) % w = i - o := Nat.div_add_mod' _ _
        refine hA _ _ _ h6 c (List.mem_iff_getElem?.2 ⟨(i - o) % w, ?_⟩)
        rw [List.getElem?_take_of_lt hm, List.getElem?_drop, ← hc]
        congr 1
        omega
      · cases h5
    · rw [if_neg hi2]
      exact ⟨c, hc, .inl rfl⟩
  · exact .inl (markB_ne _ _ _ _ e)
theorem MkOk.flat {F : Nat → Option IFn} {α : Type} {A : Co α} {w f : Nat} (hA : AllI A) (hw : A.w = w) (h0 : 0 < w) (hm : MarkFlat F w f) : MkOk F (Co.sl A) false f (fun l => l.length * w) := by
  rintro H v l lo hi lo0 k ⟨cs, hc, u, rfl, hr⟩ hhi hlo hk hkn
  simp only [valOf_one, Option.some.injEq] at hc
  subst hc
  obtain ⟨b, o, hf, hl⟩ := flat_of hw hr
  refine ⟨_, hm H _ _ b o lo hi lo0 k hf hlo hk hkn, ?_⟩
  split
  · exact FrI.refl _ _ _
  · rename_i hn
    have hne : l ≠ [] := fun h => hn (by rw [h]; rfl)
    obtain ⟨a, _, h2⟩ := hl hne
    exact frI_mark hA hw h0 hf hne h2 hk hkn

/-! ### A slice of what is marked by a call -/
theorem sum_take (f : Nat → Nat) : ∀ (l : List Nat) (i : Nat) (h : i < l.length), (l.take (i + 1)).sum = (l.take i).sum + l[i]
  | a :: l, 0, _ => by simp
  | a :: l, i + 1, h => by
    rw [List.take_succ_cons, List.sum_cons, sum_take f l i (by simpa using h), List.take_succ_cons, List.sum_cons, List.getElem_cons_succ]
    omega
theorem sum_take_le : ∀ (l : List Nat) (i : Nat), (l.take i).sum ≤ l.sum
  | [], i => by simp
  | a :: l, 0 => by simp
  | a :: l, i + 1 => by rw [List.take_succ_cons, List.sum_cons, List.sum_cons]; have := sum_take_le l i; omega
end Go.Proofs.YtkmghcglmjehcaaI
end
section
/- What agrees between heaps; results copied out of a slice; numbers of marks. -/
set_option linter.unusedVariables false
set_option linter.unusedSimpArgs false
namespace Go.Proofs.YtkmghcglmjehcaaI
open Go Go.RowKit

/-- Two heaps agree on an interval of blocks. -/
def Ag (lo hi : Nat) (H H' : Heap) : Prop := ∀ b, lo ≤ b → b < hi → H'[b]? = H[b]?
theorem ag_app (H L : Heap) : Ag 0 H.length H (H ++ L) := fun b _ h => List.getElem?_append_left h
theorem vws_lt {lo : Nat} {H : Heap} {b : Nat} {cs : List Value} (h : vws lo H b = some cs) : lo ≤ b ∧ b < H.length ∧ ∃ es et ap, H[b]? = some ⟨cs, es, et, ap, true⟩ := by
  have h1 := vws_vwb (Nat.le_refl _) b cs h
  exact vwb_some h1
theorem Ag.vwb {lo hi : Nat} {H H' : Heap} (h : Ag lo H.length H H') (hh : H.length ≤ hi) : Sub (Go.Proofs.YtkmghcglmjehcaaI.vws lo H) (Go.Proofs.YtkmghcglmjehcaaI.vwb lo hi H') := by
  intro b cs hb
  obtain ⟨h1, h2, es, et, ap, h3⟩ := vws_lt hb
  exact vwb_mk h1 (by omega) ((h b h1 h2).trans h3)
theorem mark_len (H : Heap) (n b o : Nat) (k : Int) (m : Nat) : (if n = 0 then H else markB H b o k m).length = H.length := by
  split
  · rfl
  · exact markB_len _ _ _ _ _
/-- All cells of a slice. -/
theorem sl_cells {α : Type} {A : Co α} {w : Nat} (hw : A.w = w) {H : Heap} {v : Value} {l : List α} (h : SlR A (vw 0 H) v l) (hl : l ≠ []) :
    ∃ b o ys, v = .slice (some ⟨b, o, none⟩) l.length l.length ∧ getCells H b o (l.length * w) = some ys ∧ ys.length = l.length * w ∧ ∀ i (h : i < l.length), A.rd (vw 0 H) ((ys.drop (i * w)).take w) l[i] := by
  obtain ⟨h0, a, rfl, h1⟩ := h
  obtain ⟨b, o, rfl, h1'⟩ := h1.resolve_left hl
  clear h1
  have h1 := h1'
  clear h1'
  have hpos : 0 < l.length := List.length_pos_iff.2 hl
  rw [hw] at h1
  obtain ⟨cs, h2, _⟩ := h1 (l.length - 1) (by omega)
  have h3 := rng_gc h2
  unfold getCells at h3
  split at h3
  · rename_i k hk
    split at h3
    · rename_i hl2
      have hm : l.length * w = (l.length - 1) * w + w := by
        obtain ⟨n, hn⟩ : ∃ n, l.length = n + 1 := ⟨l.length - 1, by omega⟩
        rw [hn, Nat.succ_mul]; rfl
      refine ⟨b, o, (k.cells.drop o).take (l.length * w), rfl, ?_, ?_, fun i hi => ?_⟩
      · unfold getCells
        rw [hk]
        simp only
        rw [if_pos (by omega)]
      · rw [List.length_take, List.length_drop]; omega
      · obtain ⟨cs', h5, h6⟩ := h1 i hi
        have h7 := rng_gc h5
        unfold getCells at h7
        rw [hk] at h7
        simp only at h7
        have hi2 : i * w + w ≤ l.length * w := by rw [← Nat.succ_mul]; exact Nat.mul_le_mul_right _ hi
        rw [if_pos (by omega)] at h7
        simp only [Option.some.injEq] at h7
        rw [← h7] at h6
        have e : (((k.cells.drop o).take (l.length * w)).drop (i * w)).take w = (k.cells.drop (o + i * w)).take w := by
          rw [List.drop_take, List.take_take, List.drop_drop, Nat.min_eq_left (by omega)]
        rw [e]
        exact h6
    · cases h3
  · cases h3
theorem CoSim.len {α β : Type} {A : Co α} {s : α → β} (h : CoSim A s) (w : Nat) : CoSim (Co.sl A) (fun l => l.length * w) := by
  intro V V' cs cs' l h1 h2 h3
  obtain ⟨l', h4, h5⟩ := h.sl V V' cs cs' l h1 h2 h3
  have h6 : l'.length = l.length := by simpa using congrArg List.length h5
  exact ⟨l', h4, congrArg (· * w) h6⟩
theorem CoSim.sum {α : Type} {A : Co α} {c : α → Nat} (h : CoSim A c) : CoSim (Co.sl A) (fun l => (l.map c).sum) := h.sl.comp List.sum
theorem wpc_gen {F : Nat → Option IFn} {lo : Nat} {c : ICode} {e : Env} {H L : Heap} {K : X → Env → Heap → Prop} (h : ∀ Hb, Hb = H ++ L → wpc F lo c e Hb K) : wpc F lo c e (H ++ L) K := h _ rfl
end Go.Proofs.YtkmghcglmjehcaaI
end
section
/- What is handed in, seen as ideal memory. -/
set_option linter.unusedVariables false
set_option linter.unusedSimpArgs false
namespace Go.Proofs.YtkmghcglmjehcaaI
open Go Go.RowKit Go.ChangeShapes

structure SL (m : MM) (H : Heap) (h : Array Obj) : Prop where
  dom : ∀ b x, m b = some x → b < H.length
  cell : ∀ b x k, m b = some x → H[b]? = some k → ∃ cs t fr, h[x.blk]? = some (.cells cs t fr) ∧ ∀ (j : Nat) (v : Value), k.cells[j]? = some v → ∃ v', cs[x.off + j]? = some v' ∧ VR1 m v v'
  lt : ∀ b x, m b = some x → x.blk < h.size
  na : ∀ (b : Nat) (k : Blk), H[b]? = some k → k.app = false
theorem SL.sim {m : MM} {H : Heap} {h : Array Obj} (s : SL m H h) : Sim H.length (ltN h.size) m H h := by
  refine ⟨s.dom, s.cell, ?_, ?_, fun b x _ hm => s.lt b x hm, fun _ hk => hk, Nat.le_refl _, fun b x k _ hk ha => by rw [s.na b k hk] at ha; cases ha⟩
  · intro b x k hl hm; exact absurd (s.dom b x hm) (by omega)
  · intro b b' x x' k k' _ hl _ hm; exact absurd (s.dom b x hm) (by omega)
theorem SL.none (h : Array Obj) : SL (fun _ => .none) [] h := by
  refine ⟨?_, ?_, ?_, ?_⟩
  · intro b x h; cases h
  · intro b x k h; cases h
  · intro b x h; cases h
  · intro b k h; simp at h

section
variable {T : Type} {enc : TypeId × Value → T} {P : Program} {w : World} {spare : Nat → Bool} {held : Bool}

def Good {α : Type} (A : Co α) (w : World) (cs : List Value) : Prop := ∀ (H : Heap) (m : MM), SL m H w.heap → ∃ a L m' cs0, SL m' (H ++ L) w.heap ∧ m.sub m' ∧ A.rd (vw 0 (H ++ L)) cs0 a ∧ All2 (VR1 m') cs0 cs
theorem sub_refl (m : MM) : m.sub m := fun _ _ h => h
theorem sub_trans {m m' m'' : MM} (h : m.sub m') (h' : m'.sub m'') : m.sub m'' := fun b x k => h' b x (h b x k)
theorem Good.int {n : Int} (h : (Lit.int .i64 n).wf = true) : Good Co.int w [.int .i64 n] := fun H m s =>
  ⟨n, [], m, [.int .i64 n], by simpa using s, sub_refl m, ⟨rfl, by simpa [Lit.wf, IntKind.min, IntKind.max, IntKind.signed, IntKind.bits] using h⟩, All2.cons (.inl rfl) All2.nil⟩
theorem Good.pair {α β : Type} {A : Co α} {B : Co β} {cs cs' : List Value} (h : Good A w cs) (h' : Good B w cs') : Good (Co.pair A B) w (cs ++ cs') := by
  intro H m s
  obtain ⟨a, L, m1, c1, s1, q1, r1, e1⟩ := h H m s
  obtain ⟨b, L2, m2, c2, s2, q2, r2, e2⟩ := h' (H ++ L) m1 s1
  rw [List.append_assoc] at s2 r2
  exact ⟨(a, b), L ++ L2, m2, c1 ++ c2, s2, sub_trans q1 q2, ⟨c1, c2, rfl, A.mono (by rw [← List.append_assoc]; exact vw_app 0 _ _) r1, r2⟩, (e1.mono fun _ _ _ h => VR1.mono q2 h).append e2⟩
theorem add_add (a : Addr) (x y : Nat) : (a.add x).add y = a.add (x + y) := by
  unfold Addr.add
  by_cases hx : x = 0
  · simp [hx]
  · by_cases hy : y = 0
    · simp [hx, hy]
    · simp [hx, hy, Nat.add_assoc]
theorem cell_at {a : Addr} {j : Nat} {v : Value} (h : w.cell? (a.add j) = some v) : ∃ cs t fr, w.heap[a.block]? = some (.cells cs t fr) ∧ cs[a.off + j]? = some v ∧ (j = 0 → a.spot = none) := by
  unfold World.cell? at h
  rw [block_add] at h
  split at h
  · rename_i c t fr hc
    split at h
    · cases h
    · rename_i hs
      refine ⟨c, t, fr, hc, ?_, fun hj => ?_⟩
      · unfold Addr.add at h
        split at h
        · rename_i hj; subst hj; simpa using h
        · exact h
      · subst hj
        simpa [Addr.add] using hs
  · cases h
theorem Good.sl {α : Type} {A : Co α} {fuel : Nat} {t e : TypeId} {cs : List Value} {x : DataW T × List MemPlace} (ht : P.underlying t = some (.slice e)) (hw : P.cellsOf e = A.w) (h0 : 0 < A.w)
    (h : DataW.trod enc P w 0 spare held fuel t cs = some x) (he : ∀ n cs x, n < fuel → DataW.trod enc P w 0 spare held n e cs = some x → Good A w cs) : Good (Co.sl A) w cs := by
  rcases DataW.trod_slice ht h with ⟨rfl, _⟩ | ⟨a, len, cap, elems, rest, n, rfl, rfl, _, _, hl, hm, hlen, hel, _, _⟩
  · exact fun H m s => ⟨[], [], m, [.slice none 0 0], by simpa using s, sub_refl m, ⟨_, rfl, by simp, none, rfl, .inl rfl⟩, All2.cons (.inl ⟨rfl, rfl⟩) All2.nil⟩
  intro H m s
  rcases Nat.eq_zero_or_pos len with hz | hpos
  · subst hz
    exact ⟨[], [], m, [.slice (some ⟨0, 1, none⟩) 0 0], by simpa using s, sub_refl m, ⟨_, rfl, by simp, _, rfl, .inl rfl⟩, All2.cons (.inl (.inr ⟨rfl, by simp, _, _, rfl⟩)) All2.nil⟩
  have key : ∀ k, k ≤ len → ∃ (l : List α) (L : Heap) (m' : MM) (big : List Value), l.length = k ∧ big.length = k * A.w ∧ SL m' (H ++ L) w.heap ∧ m.sub m' ∧
      (∀ i (h : i < l.length), A.rd (vw 0 (H ++ L)) ((big.drop (i * A.w)).take A.w) l[i]) ∧ (∀ j v, big[j]? = some v → ∃ v', w.cell? (a.add j) = some v' ∧ VR1 m' v v') := by
    intro k
    induction k with
    | zero => exact fun _ => ⟨[], [], m, [], rfl, by simp, by simpa using s, sub_refl m, fun i h => by simp at h, fun j v h => by simp at h⟩
    | succ k ih =>
      intro hk
      obtain ⟨l, L, m1, big, h1, h2, h3, h4, h5, h6⟩ := ih (by omega)
      have hk' := hel k (by omega)
      have hke : k < elems.length := by omega
      rw [List.getElem?_eq_getElem hke, Option.bind_eq_some_iff, hw] at hk'
      obtain ⟨ck, hc, hd⟩ := hk'
      obtain ⟨b, L2, m2, c2, s2, q2, r2, e2⟩ := he n ck _ (by omega) hd (H ++ L) m1 h3
      have hcl := A.len r2
      rw [List.append_assoc] at s2 r2
      refine ⟨l ++ [b], L ++ L2, m2, big ++ c2, by simp [h1], by rw [List.length_append, h2, hcl, Nat.succ_mul], s2, sub_trans h4 q2, ?_, ?_⟩
      · intro i hi
        simp only [List.length_append, List.length_cons, List.length_nil, Nat.zero_add] at hi
        by_cases hik : i < l.length
        · have hb : i * A.w + A.w ≤ big.length := by rw [h2, ← Nat.succ_mul]; exact Nat.mul_le_mul_right _ (by omega)
          rw [List.getElem_append_left hik, List.drop_append_of_le_length (by omega), List.take_append_of_le_length (by rw [List.length_drop]; omega)]
          exact A.mono (by rw [← List.append_assoc]; exact vw_app 0 _ _) (h5 i hik)
        · have hik' : i = k := by omega
          subst hik'
          rw [List.getElem_append_right (by omega)]
          have : big.length = i * A.w := h2
          rw [← this, List.drop_left, List.take_of_length_le (by omega)]
          simpa [h1] using r2
      · intro j v hj
        rcases Nat.lt_or_ge j big.length with hjl | hjl
        · rw [List.getElem?_append_left hjl] at hj
          obtain ⟨v', g1, g2⟩ := h6 j v hj
          exact ⟨v', g1, VR1.mono q2 g2⟩
        · rw [List.getElem?_append_right hjl] at hj
          have hj2 : j - big.length < c2.length := (List.getElem?_eq_some_iff.1 hj).1
          obtain ⟨_, _, hcell⟩ := World.cells?_some hc
          have hj3 := hcell (j - big.length) (by omega)
          rw [add_add, ← h2, show big.length + (j - big.length) = j by omega] at hj3
          have hl2 : c2.length = ck.length := e2.1
          have hj4 : j - big.length < ck.length := by omega
          obtain ⟨y, hy, hr⟩ := e2.2 (j - big.length) v hj
          exact ⟨y, hj3.trans hy, hr⟩
  obtain ⟨l, L, m1, big, h1, h2, h3, h4, h5, h6⟩ := key len (Nat.le_refl _)
  have hbig : 0 < big.length := by rw [h2]; exact Nat.mul_pos hpos h0
  obtain ⟨v0, hv0, _⟩ := h6 0 _ (List.getElem?_eq_getElem hbig)
  obtain ⟨cs0, t0, fr0, g1, _, g3⟩ := cell_at hv0
  have hsp := g3 rfl
  have hblt : a.block < w.heap.size := (Array.getElem?_eq_some_iff.1 g1).1
  have hsub : m1.sub (m1.put (H ++ L).length ⟨a.block, a.off, 0, 0, 0⟩) := by
    intro b x hb
    have := h3.dom b x hb
    simp only [MM.put]
    rw [if_neg (by omega)]
    exact hb
  refine ⟨l, L ++ [⟨big, 0, 0, false, false⟩], m1.put (H ++ L).length ⟨a.block, a.off, 0, 0, 0⟩, [.slice (some ⟨(H ++ L).length, 0, none⟩) l.length l.length], ?_, sub_trans h4 hsub, ?_, ?_⟩
  · rw [← List.append_assoc]
    refine ⟨?_, ?_, ?_, ?_⟩
    · intro b x hb
      rcases MM.put_eq hb with ⟨rfl, _⟩ | ⟨_, hb⟩
      · simp
      · have := h3.dom b x hb
        rw [List.length_append]; omega
    · intro b x k hb hk
      rcases MM.put_eq hb with ⟨rfl, rfl⟩ | ⟨_, hb⟩
      · rw [List.getElem?_append_right (Nat.le_refl _)] at hk
        simp only [Nat.sub_self, List.getElem?_cons_zero, Option.some.injEq] at hk
        subst hk
        refine ⟨cs0, t0, fr0, g1, fun j v hj => ?_⟩
        obtain ⟨v', u1, u2⟩ := h6 j v hj
        obtain ⟨cs1, t1, fr1, y1, y2, _⟩ := cell_at u1
        rw [g1] at y1
        cases y1
        exact ⟨v', y2, VR1.mono hsub u2⟩
      · rw [List.getElem?_append_left (h3.dom b x hb)] at hk
        obtain ⟨c1, t1, f1, y1, y2⟩ := h3.cell b x k hb hk
        exact ⟨c1, t1, f1, y1, fun j v hj => let ⟨v', z1, z2⟩ := y2 j v hj; ⟨v', z1, VR1.mono hsub z2⟩⟩
    · intro b x hb
      rcases MM.put_eq hb with ⟨rfl, rfl⟩ | ⟨_, hb⟩
      · exact hblt
      · exact h3.lt b x hb
    · intro b k hk
      rcases get_snoc hk with ⟨_, hk⟩ | ⟨_, rfl⟩
      · exact h3.na b k hk
      · rfl
  · refine ⟨_, rfl, ?_, _, rfl, .inr ⟨_, _, rfl, fun i hi => ⟨_, ?_, A.mono (by rw [← List.append_assoc]; exact vw_app 0 _ _) (h5 i hi)⟩⟩⟩
    · have : maxLen = 9223372036854775807 := by decide
      omega
    · have hb : i * A.w + A.w ≤ big.length := by rw [h2, ← Nat.succ_mul]; exact Nat.mul_le_mul_right _ (by omega)
      unfold rng vw
      rw [if_pos (Nat.zero_le _), ← List.append_assoc, get_new0]
      simp only [List.getElem?_cons_zero, Option.map_some, Nat.zero_add]
      rw [if_pos hb]
  · refine All2.cons (.inl (.inl ⟨_, MM.put_self _ _ _, rfl, cap, ?_, by omega, fun _ => by simp⟩)) All2.nil
    obtain ⟨ab, ao, asp⟩ := a
    simp only at hsp
    subst hsp
    rw [h1]
    rfl
theorem cut {cs : List Value} {o s : Nat} : cs.drop o = (cs.drop o).take s ++ cs.drop (o + s) := by rw [← List.drop_drop, List.take_append_drop]
theorem cut_end {cs : List Value} {o s : Nat} (h : cs.length = o + s) : cs.drop o = (cs.drop o).take s := by rw [List.take_of_length_le (by rw [List.length_drop]; omega)]
theorem agg_of_len {v : Value} {n : Nat} (h : v.cells.toList.length = n) (hn : n ≠ 1) : ∃ cs, v = .agg cs := by
  cases v with
  | agg cs => exact ⟨cs, rfl⟩
  | _ => exact absurd h.symm (by simpa [Value.cells] using hn)
end
end Go.Proofs.YtkmghcglmjehcaaI
end
section
/- A law of the ideal machine is a law of the program. -/
set_option linter.unusedVariables false
set_option linter.unusedSimpArgs false
namespace Go.Proofs.YtkmghcglmjehcaaI
open Go Go.RowKit
end Go.Proofs.YtkmghcglmjehcaaI
end
section
/- Steps and programs as plain values; the rules that a walk by itself takes. -/
set_option linter.unusedVariables false
set_option linter.unusedSimpArgs false
namespace Go.Proofs.YtkmghcglmjehcaaI
open Go Go.RowKit

def Co.val : Co (Int × Int × Int) := Co.pair Co.int (Co.pair Co.int Co.int)
def TStep : Nat → Type
  | 0 => Empty
  | n + 1 => Int × Int × (Int × Int × Int) × Int × List (TStep n) × List (TStep n)
def Co.step : (n : Nat) → Co (TStep n)
  | 0 => ⟨8, fun _ _ _ => False, fun _ => True, fun _ h => h, fun h => h.elim, fun h => h.elim⟩
  | n + 1 => Co.pair Co.int (Co.pair Co.int (Co.pair Co.val (Co.pair Co.int (Co.pair (Co.sl (Co.step n)) (Co.sl (Co.step n))))))
theorem step_w : ∀ n, (Co.step n).w = 8
  | 0 => rfl
  | n + 1 => rfl
def TProg (n : Nat) := List (Int × Int) × List (TStep n)
def Co.prog (n : Nat) : Co (TProg n) := Co.pair (Co.sl Co.p2) (Co.sl (Co.step n))

section
variable {F : Nat → Option IFn} {lo : Nat} {e : Env} {H : Heap} {K : Value → Prop} {k : IntKind} {x y : Int}
theorem cmp_lss (h1 : x < y → K (.bool true)) (h2 : ¬ x < y → K (.bool false)) : optP (binI .lss k x y) K := by
  show K (.bool (decide (x < y)))
  by_cases h : x < y
  · rw [decide_eq_true h]; exact h1 h
  · rw [decide_eq_false h]; exact h2 h
theorem cmp_leq (h1 : x ≤ y → K (.bool true)) (h2 : ¬ x ≤ y → K (.bool false)) : optP (binI .leq k x y) K := by
  show K (.bool (decide (x ≤ y)))
  by_cases h : x ≤ y
  · rw [decide_eq_true h]; exact h1 h
  · rw [decide_eq_false h]; exact h2 h
theorem cmp_gtr (h1 : y < x → K (.bool true)) (h2 : ¬ y < x → K (.bool false)) : optP (binI .gtr k x y) K := by
  show K (.bool (decide (y < x)))
  by_cases h : y < x
  · rw [decide_eq_true h]; exact h1 h
  · rw [decide_eq_false h]; exact h2 h
theorem cmp_geq (h1 : y ≤ x → K (.bool true)) (h2 : ¬ y ≤ x → K (.bool false)) : optP (binI .geq k x y) K := by
  show K (.bool (decide (y ≤ x)))
  by_cases h : y ≤ x
  · rw [decide_eq_true h]; exact h1 h
  · rw [decide_eq_false h]; exact h2 h
theorem cmp_eql (h1 : x = y → K (.bool true)) (h2 : ¬ x = y → K (.bool false)) : optP (binI .eql k x y) K := by
  show K (.bool (x == y))
  by_cases h : x = y
  · rw [beq_iff_eq.2 h]; exact h1 h
  · rw [beq_eq_false_iff_ne.2 h]; exact h2 h
theorem cmp_neq (h1 : x = y → K (.bool false)) (h2 : ¬ x = y → K (.bool true)) : optP (binI .neq k x y) K := by
  show K (.bool (x != y))
  by_cases h : x = y
  · have : (x != y) = false := by simp [h]
    rw [this]; exact h1 h
  · have : (x != y) = true := by simp [h]
    rw [this]; exact h2 h
theorem op_callB {g : Nat} {args : List Opd} {b : Bool} {K : Value → Heap → Prop} (h : QC F g (args.map (·.ev e)) H (.bool b)) (k1 : b = true → K (.bool true) H) (k2 : b = false → K (.bool false) H) : wpOp F lo (.call .q (.f g) args) e H K :=
  op_callQ h (by cases b; exact k2 rfl; exact k1 rfl)
theorem fin_t {n : Nat} {K : Value → Heap → Prop} {X : X} (hx : X = .r) (h : K (e n) H) : fin [.t n] K X e H := ⟨.inr hx, _, rfl, h⟩
end
end Go.Proofs.YtkmghcglmjehcaaI
end
section
/- A law of several arguments; programs opened. -/
set_option linter.unusedVariables false
set_option linter.unusedSimpArgs false
namespace Go.Proofs.YtkmghcglmjehcaaI
open Go Go.RowKit
theorem law_core {P : Program} {F : Nat → Option IFn} {cm : Nat → CM} {n : Nat} (hF : ∀ g fn, F g = some fn → cFn P cm g = some fn) (hm : P.follows .mixedOrders = true) {W : World} {L : Heap} {m : MM} (s : SL m L W.heap) {vals : List Value} {args : Array Value}
    (hv : All2 (VR m) vals args.toList) (hq : QC F n vals L (.bool true)) : Calls P n args W fun e w' => e = .returned (.bool true) ∧ Below W.heap.size W w' := by
  obtain ⟨fn, x, e1, H1, h1, h2, h3, h4, h5, h6⟩ := hq
  refine call_core (hF _ _ h1) h2 (sound hF hm h3) h4 h5 s.sim hv _ ?_
  intro v' w' m' _ _ q3 q4
  exact ⟨by rw [q3.bool], q4.below⟩
theorem VR.int_mk {m : MM} {k : IntKind} {n : Int} : VR m (.int k n) (.int k n) := .inl (.inl (.inl rfl))
theorem VR.agg_mk {m : MM} {cs0 : List Value} {cs : Array Value} (h : All2 (VR1 m) cs0 cs.toList) : VR m (.agg cs0.toArray) (.agg cs) := .inl (.inr ⟨_, _, rfl, rfl, h⟩)
end Go.Proofs.YtkmghcglmjehcaaI
end
section
/- The rules for regions in which some calls write; heaps that agree but for some blocks; codes that are drawn from. -/
set_option linter.unusedVariables false
set_option linter.unusedSimpArgs false
namespace Go.Proofs.YtkmghcglmjehcaaI
open Go Go.RowKit

section
variable (F : Nat → Option IFn) (lo : Nat) (Z : List Nat)
/-- Ahead of operations of which some write into the blocks Z of B only; L are the blocks made since. -/
def wpx (p : Nat) (l : List IOper) (e : Env) (B L : Heap) (K : Env → Heap → Prop) : Prop :=
  (∀ b, b ∈ Z → b < B.length) → ∃ e1 H1, BS F lo (.prx Z p l) e (B ++ L) .n e1 H1 ∧ K e1 H1
def Kx (p : Nat) (r : List IOper) (d : Option Nat) (e : Env) (B L : Heap) (K : Env → Heap → Prop) (v : Value) (H1 : Heap) : Prop := ∃ L', H1 = hide Z B ++ L' ∧ wpx F lo Z p r (putE e d v) B L' K
variable {F lo Z}
@[go_sem] theorem Kx_app (p : Nat) (r : List IOper) (d : Option Nat) (e : Env) (B L L' : Heap) (K : Env → Heap → Prop) (v : Value) : Kx F lo Z p r d e B L K v (hide Z B ++ L') = wpx F lo Z p r (putE e d v) B L' K :=
  propext ⟨fun ⟨L2, h1, h2⟩ => by rw [List.append_cancel_left_eq] at h1; subst h1; exact h2, fun h => ⟨L', rfl, h⟩⟩
@[go_sem] theorem Kx_nil (p : Nat) (r : List IOper) (d : Option Nat) (e : Env) (B L : Heap) (K : Env → Heap → Prop) (v : Value) : Kx F lo Z p r d e B L K v (hide Z B) = wpx F lo Z p r (putE e d v) B [] K := by
  have := Kx_app p r d e B L [] K v (F := F) (lo := lo) (Z := Z)
  rwa [List.append_nil] at this

end

@[go_sem] theorem cells_sliM (b o n : Nat) : Array.toList (Value.cells.match_1 (fun _ => Array Value) (sli b o n) (fun cs => cs) (fun v => #[v])) = [sli b o n] := rfl
@[go_sem] theorem cells_nilM : Array.toList (Value.cells.match_1 (fun _ => Array Value) nilS (fun cs => cs) (fun v => #[v])) = [nilS] := rfl
@[go_sem] theorem cells_ptrM (b o : Nat) : Array.toList (Value.cells.match_1 (fun _ => Array Value) (ptr b o) (fun cs => cs) (fun v => #[v])) = [ptr b o] := rfl

/-- Two heaps agree but for some blocks. -/
def AgX (xs : List Nat) (H H' : Heap) : Prop := H.length ≤ H'.length ∧ ∀ b, b < H.length → b ∉ xs → H'[b]? = H[b]?
theorem AgX.refl (xs : List Nat) (H : Heap) : AgX xs H H := ⟨Nat.le_refl _, fun _ _ _ => rfl⟩
theorem AgX.app (xs : List Nat) (H L : Heap) : AgX xs H (H ++ L) := ⟨by rw [List.length_append]; omega, fun b hb _ => List.getElem?_append_left hb⟩
theorem AgX.set (H : Heap) (b : Nat) (k : Blk) : AgX [b] H (H.set b k) := ⟨by rw [List.length_set]; exact Nat.le_refl _, fun b' _ hn => List.getElem?_set_ne (by simpa using fun h => hn (by simp [h]))⟩
theorem AgX.trans {xs ys zs : List Nat} {H H1 H2 : Heap} (h : AgX xs H H1) (h' : AgX ys H1 H2) (hx : ∀ b, b ∈ xs → b < H.length → b ∈ zs) (hy : ∀ b, b ∈ ys → b < H.length → b ∈ zs) : AgX zs H H2 :=
  ⟨Nat.le_trans h.1 h'.1, fun b hb hn => (h'.2 b (Nat.lt_of_lt_of_le hb h.1) fun hm => hn (hy b hm hb)).trans (h.2 b hb fun hm => hn (hx b hm hb))⟩
theorem AgX.get {xs : List Nat} {H H' : Heap} (h : AgX xs H H') {b : Nat} {k : Blk} (hk : H[b]? = some k) (hn : b ∉ xs) : H'[b]? = some k := (h.2 b (List.getElem?_eq_some_iff.1 hk).1 hn).trans hk
/-- What is seen from a block on, but for some blocks. -/
def vwl (lo : Nat) (xs : List Nat) (H : Heap) : Vw := fun b => if lo ≤ b ∧ b ∉ xs then (H[b]?).map (·.cells) else none
theorem vwl_sub {lo lo' : Nat} {xs xs' ys : List Nat} {H H' : Heap} (h : AgX ys H H') (h1 : lo' ≤ lo) (h2 : ∀ b, b < H.length → lo ≤ b → b ∉ xs → b ∉ ys ∧ b ∉ xs') : Sub (vwl lo xs H) (vwl lo' xs' H') := by
  intro b cs hb
  unfold vwl at hb ⊢
  split at hb
  · rename_i h3
    cases hk : H[b]? with
    | none => simp [hk] at hb
    | some k =>
      have hl := (List.getElem?_eq_some_iff.1 hk).1
      obtain ⟨h4, h5⟩ := h2 b hl h3.1 h3.2
      rw [if_pos ⟨by omega, h5⟩, h.2 b hl h4]
      exact hb
  · cases hb
theorem vwl_vw (lo : Nat) (xs : List Nat) (H : Heap) : Sub (vwl lo xs H) (vw lo H) := by
  intro b cs hb
  unfold vwl at hb
  unfold vw
  split at hb
  · rename_i h; rw [if_pos h.1]; exact hb
  · cases hb
theorem op_app_lit {F : Nat → Option IFn} {lo : Nat} {e : Env} {H : Heap} {K : Value → Heap → Prop} {es et bytes : Nat} {kill so : Bool} {x y : Opd} {b c m c' : Nat} {a : Addr} {ys : List Value} (hx : x.ev e = .slice (some ⟨b, 0, none⟩) 0 c) (hy : y.ev e = .slice (some a) m c') (hm : m ≠ 0) (hg : getCells H a.block a.off (m * es) = some ys)
    (hk : H[b]? = some ⟨[], es, et, true, so⟩) (hlt : b < lo) (h1 : m * bytes ≤ 140737488355328) (h2 : m ≤ 9223372036854775807) (k : K (sli H.length 0 m) (H ++ [⟨ys, es, et, true, true⟩])) : wpOp F lo (.app es et bytes kill x y) e H K :=
  ⟨_, _, by
    simp only [iop, hx, hy]
    rw [if_neg hm]
    simp only [hg, hk]
    rw [if_neg (fun h => by have := h.1; omega), if_pos ⟨trivial, trivial, trivial, trivial, trivial, trivial, h1, h2⟩], k⟩
/-! ### Lists that are made by appending -/
/-! ### Codes that are drawn from -/
theorem gc_set {H : Heap} {b : Nat} (hb : b < H.length) (k : Blk) (o n : Nat) : getCells (H.set b k) b o n = inBlk (some k) o n := by unfold getCells; rw [List.getElem?_set_self hb]; rfl
theorem gc_of {H : Heap} {b : Nat} {k : Blk} (h : H[b]? = some k) (o n : Nat) : getCells H b o n = inBlk (some k) o n := by unfold getCells; rw [h]; rfl
theorem AgX.setN {xs : List Nat} {H H' : Heap} (h : AgX xs H H') {b : Nat} (hb : H.length ≤ b) (k : Blk) : AgX xs H (H'.set b k) := h.trans (AgX.set H' b k) (fun _ h _ => h) (fun b' h1 h2 => by simp only [List.mem_singleton] at h1; omega)
theorem AgX.tr {xs : List Nat} {H H1 H2 : Heap} (h : AgX xs H H1) (h' : AgX xs H1 H2) : AgX xs H H2 := h.trans h' (fun _ h _ => h) (fun _ h _ => h)
end Go.Proofs.YtkmghcglmjehcaaI
end
section
/- Codes that are drawn from: what is picked. -/
set_option linter.unusedVariables false
set_option linter.unusedSimpArgs false
namespace Go.Proofs.YtkmghcglmjehcaaI
open Go Go.RowKit
@[go_sem] theorem nilckV_ptr (b o : Nat) : nilckV (ptr b o) = some (ptr b o) := rfl
theorem beq_t {a b : Int} (h : a = b) : (a == b) = true := beq_iff_eq.2 h
theorem beq_f {a b : Int} (h : ¬ a = b) : (a == b) = false := beq_eq_false_iff_ne.2 h
end Go.Proofs.YtkmghcglmjehcaaI
end
section
/- Labels and values that are drawn. -/
set_option linter.unusedVariables false
set_option linter.unusedSimpArgs false
namespace Go.Proofs.YtkmghcglmjehcaaI
open Go Go.RowKit
section
variable {F : Nat → Option IFn} {H0 H B L : Heap} {rb lo : Nat} {bv : Value} {code : List Int} {p n : Int} {e : Env} {x y : Opd}
end
end Go.Proofs.YtkmghcglmjehcaaI
end
section
/- Values that are drawn. -/
set_option linter.unusedVariables false
set_option linter.unusedSimpArgs false
namespace Go.Proofs.YtkmghcglmjehcaaI
open Go Go.RowKit
end Go.Proofs.YtkmghcglmjehcaaI
end
section
/- Steps that are drawn: one turn. -/
set_option linter.unusedVariables false
set_option linter.unusedSimpArgs false
namespace Go.Proofs.YtkmghcglmjehcaaI
open Go Go.RowKit
section
variable {H0 : Heap} {rb : Nat} {bv : Value} {code : List Int} {H : Heap} {d b : Nat} {so : Bool} {l : List (TStep (d + 1))} {bs : Nat} {cells cells' : List Value} {p p' : Int} {Hc Hc' : Heap}
end
end Go.Proofs.YtkmghcglmjehcaaI
end
section
/- Steps that are drawn. -/
set_option linter.unusedVariables false
set_option linter.unusedSimpArgs false
namespace Go.Proofs.YtkmghcglmjehcaaI
open Go Go.RowKit
end Go.Proofs.YtkmghcglmjehcaaI
end
end
