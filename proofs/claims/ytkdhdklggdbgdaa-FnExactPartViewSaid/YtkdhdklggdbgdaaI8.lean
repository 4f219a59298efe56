/- The ideal machine's rules as equations that simp walks by. -/
import Derived.Test.YtkdhdklggdbgdaaI7
set_option linter.unusedVariables false
set_option linter.unusedSimpArgs false
namespace Go.Proofs.YtkdhdklggdbgdaaI
open Go Go.RowKit

section
variable (F : Nat → Option IFn) (lo : Nat) (e : Env) (H : Heap)

/-- What is done behind an operation of a region. -/
def Kc (r : List IOper) (d : Option Nat) (e : Env) (K : Env → Heap → Prop) (v : Value) (H1 : Heap) : Prop := wpo F lo r (putE e d v) H1 K
def Kp (p : Nat) (r : List IOper) (d : Option Nat) (e : Env) (K : Env → Heap → Prop) (v : Value) (H1 : Heap) : Prop := wpp F lo p r (putE e d v) H1 K
@[go_sem] theorem Kc_app (r : List IOper) (d : Option Nat) (K : Env → Heap → Prop) (v : Value) (H1 : Heap) : Kc F lo r d e K v H1 = wpo F lo r (putE e d v) H1 K := rfl
@[go_sem] theorem Kp_app (p : Nat) (r : List IOper) (d : Option Nat) (K : Env → Heap → Prop) (v : Value) (H1 : Heap) : Kp F lo p r d e K v H1 = wpp F lo p r (putE e d v) H1 K := rfl

@[go_sem] theorem wpo_nil (K : Env → Heap → Prop) : wpo F lo [] e H K = K e H := rfl
@[go_sem] theorem wpo_one (d : Option Nat) (op : IOp) (r : List IOper) (K : Env → Heap → Prop) : wpo F lo (⟨d, none, op⟩ :: r) e H K = wpOp F lo op e H (Kc F lo r d e K) :=
  propext ⟨fun h => h.1 rfl, wpo_cons⟩
@[go_sem] theorem wpo_on (d : Option Nat) (op : IOp) (r : List IOper) (K : Env → Heap → Prop) (g : Nat) (w : Bool) (hg : e g = .bool w) : wpo F lo (⟨d, some (g, w), op⟩ :: r) e H K = wpOp F lo op e H (Kc F lo r d e K) :=
  propext ⟨fun h => h.1 (by simp [IOper.runs, hg]), wpo_yes hg⟩
@[go_sem] theorem wpo_off (d : Option Nat) (op : IOp) (r : List IOper) (K : Env → Heap → Prop) (g : Nat) (w : Bool) (hg : e g = .bool (!w)) : wpo F lo (⟨d, some (g, w), op⟩ :: r) e H K = wpo F lo r (putE e d undef) H K :=
  propext ⟨fun h => h.2 (by simp [IOper.runs, hg]), wpo_no hg⟩
@[go_sem] theorem wpp_nil (l : List IOper) (K : Env → Heap → Prop) : wpp F lo 0 l e H K = wpo F lo l e H K := rfl
@[go_sem] theorem wpp_one (p : Nat) (d : Option Nat) (op : IOp) (r : List IOper) (K : Env → Heap → Prop) : wpp F lo (p + 1) (⟨d, none, op⟩ :: r) e H K = wpOp F H.length op e H (Kp F lo p r d e K) :=
  propext ⟨fun h => h.1 rfl, wpp_cons⟩
@[go_sem] theorem wpp_on (p : Nat) (d : Option Nat) (op : IOp) (r : List IOper) (K : Env → Heap → Prop) (g : Nat) (w : Bool) (hg : e g = .bool w) : wpp F lo (p + 1) (⟨d, some (g, w), op⟩ :: r) e H K = wpOp F H.length op e H (Kp F lo p r d e K) :=
  propext ⟨fun h => h.1 (by simp [IOper.runs, hg]), wpp_yes hg⟩
@[go_sem] theorem wpp_off (p : Nat) (d : Option Nat) (op : IOp) (r : List IOper) (K : Env → Heap → Prop) (g : Nat) (w : Bool) (hg : e g = .bool (!w)) : wpp F lo (p + 1) (⟨d, some (g, w), op⟩ :: r) e H K = wpp F lo p r (putE e d undef) H K :=
  propext ⟨fun h => h.2 (by simp [IOper.runs, hg]), wpp_no hg⟩

/-! ### Operations: what they ask, and what they tell -/
variable (K : Value → Heap → Prop)
def pickP (c a b : Value) (K : Value → Prop) : Prop := match c with
  | .bool t => K (if t then a else b)
  | _ => False
def loadP (H : Heap) (v : Value) (agg : Bool) (n : Nat) (K : Value → Prop) : Prop := match v with
  | .pointer (some a) => match getCells H a.block a.off n with
    | some cs => match valOf agg cs with
      | some v => K v
      | none => False
    | none => False
  | _ => False
def storeP (lo : Nat) (H : Heap) (v : Value) (n : Nat) (y : Value) (K : Heap → Prop) : Prop := match v with
  | .pointer (some a) => match H[a.block]? with
    | some k => (lo ≤ a.block ∧ k.solo = true ∧ y.cells.toList.length = n ∧ a.off + n ≤ k.cells.length ∧ y.cells.toList.all one = true) ∧ K (H.set a.block { k with cells := setL k.cells a.off y.cells.toList })
    | none => False
  | _ => False
def optP (o : Option Value) (K : Value → Prop) : Prop := match o with
  | some v => K v
  | none => False
def iadP (es : Nat) (v w : Value) (K : Value → Prop) : Prop := match v, w with
  | .slice (some a) n _, .int _ j => (0 ≤ j ∧ j < n) ∧ K (ptr a.block (a.off + j.toNat * es))
  | _, _ => False
def lenP (v : Value) (K : Value → Prop) : Prop := match v with
  | .slice _ n _ => K (.int .i64 n)
  | _ => False
def fadP (off : Nat) (v : Value) (K : Value → Prop) : Prop := match v with
  | .pointer (some a) => K (ptr a.block (a.off + off))
  | _ => False
def mksP (es et bytes : Nat) (z : List Value) (H : Heap) (v w : Value) (K : Value → Heap → Prop) : Prop := match v, w with
  | .int _ n, .int _ n' => (0 ≤ n ∧ n' = n ∧ n * bytes ≤ 140737488355328 ∧ n ≤ 9223372036854775807) ∧ K (sli H.length 0 n.toNat) (H ++ [⟨(List.replicate n.toNat z).flatten, es, et, true, true⟩])
  | _, _ => False

@[simp] theorem exK {a : Value} {b : Heap} {K : Value → Heap → Prop} : (∃ v H1, (a = v ∧ b = H1) ∧ K v H1) ↔ K a b := ⟨fun ⟨_, _, ⟨h, h'⟩, k⟩ => by subst h; subst h'; exact k, fun k => ⟨_, _, ⟨rfl, rfl⟩, k⟩⟩
theorem prim_eq {o : IOp} (ho : ∀ m f args, o ≠ .call m f args) : wpOp F lo o e H K = ∃ v H1, iop lo o e H = some (v, H1) ∧ K v H1 := by
  cases o <;> first | rfl | (exfalso; exact ho _ _ _ rfl)

theorem viaO {o : IOp} (ho : ∀ m f args, o ≠ .call m f args) {w : Option Value} (hi : iop lo o e H = w.map fun v => (v, H)) : wpOp F lo o e H K = optP w (fun v => K v H) := by
  rw [prim_eq _ _ _ _ _ ho, hi]
  cases w <;> simp [optP]

@[go_sem] theorem op_mov (x : Opd) : wpOp F lo (.mov x) e H K = K (x.ev e) H := propext ⟨fun ⟨_, _, h, k⟩ => by simp only [iop, Option.some.injEq, Prod.mk.injEq] at h; obtain ⟨rfl, rfl⟩ := h; exact k, fun k => ⟨_, _, rfl, k⟩⟩
@[go_sem] theorem op_pick (c a b : Opd) : wpOp F lo (.pick c a b) e H K = pickP (c.ev e) (a.ev e) (b.ev e) (fun v => K v H) := by
  rw [prim_eq _ _ _ _ _ (by simp)]
  simp only [iop]
  cases c.ev e <;> simp [pickP]
@[go_sem] theorem op_new (z : List Value) : wpOp F lo (.new z) e H K = K (ptr H.length 0) (H ++ [⟨z, 0, 0, false, true⟩]) := by
  rw [prim_eq _ _ _ _ _ (by simp)]; simp [iop]
@[go_sem] theorem op_box (x : Opd) : wpOp F lo (.box x) e H K = ((x.ev e).cells.toList.all one = true ∧ K (ptr H.length 0) (H ++ [⟨(x.ev e).cells.toList, 0, 0, false, true⟩])) := by
  rw [prim_eq _ _ _ _ _ (by simp)]
  simp only [iop]
  split
  · rename_i h; simp [h]
  · rename_i h; simp [h]
@[go_sem] theorem op_build (z : List Value) (ps : List (Nat × Nat × Opd)) : wpOp F lo (.build z ps) e H K = optP ((fillL e z ps).map fun cs => .agg cs.toArray) (fun v => K v H) := by
  rw [prim_eq _ _ _ _ _ (by simp)]
  simp only [iop]
  cases fillL e z ps <;> simp [optP]
def litP (es et len : Nat) (o : Option (List Value)) (H : Heap) (K : Value → Heap → Prop) : Prop := match o with
  | some cs => K (sli H.length 0 len) (H ++ [⟨cs, es, et, true, true⟩])
  | none => False
@[go_sem] theorem op_lit (es et len : Nat) (z : List Value) (ps : List (Nat × Nat × Opd)) : wpOp F lo (.lit es et len z ps) e H K = litP es et len (fillL e z ps) H K := by
  rw [prim_eq _ _ _ _ _ (by simp)]
  simp only [iop]
  cases fillL e z ps <;> simp [litP]
@[go_sem] theorem op_load (agg : Bool) (n : Nat) (x : Opd) : wpOp F lo (.load agg n x) e H K = loadP H (x.ev e) agg n (fun v => K v H) := by
  rw [prim_eq _ _ _ _ _ (by simp)]
  simp only [iop]
  cases x.ev e with
  | pointer a => cases a with
    | none => simp [loadP]
    | some a =>
      simp only [loadP]
      cases getCells H a.block a.off n with
      | none => simp
      | some cs => simp only [Option.bind_some]; cases valOf agg cs <;> simp
  | _ => simp [loadP]
@[go_sem] theorem op_store (n : Nat) (x y : Opd) : wpOp F lo (.store n x y) e H K = storeP lo H (x.ev e) n (y.ev e) (fun H1 => K undef H1) := by
  rw [prim_eq _ _ _ _ _ (by simp)]
  simp only [iop]
  cases x.ev e with
  | pointer a => cases a with
    | none => simp [storeP]
    | some a =>
      simp only [storeP]
      cases H[a.block]? with
      | none => simp
      | some k =>
        simp only
        split
        · rename_i h; simp only [Option.some.injEq, Prod.mk.injEq]; exact propext ⟨fun ⟨_, _, ⟨h1, h2⟩, k⟩ => by subst h1; subst h2; exact ⟨h, k⟩, fun k => ⟨_, _, ⟨rfl, rfl⟩, k.2⟩⟩
        · rename_i h; exact propext ⟨fun ⟨_, _, h', _⟩ => (by cases h'), fun h' => absurd h'.1 h⟩
  | _ => simp [storeP]
@[go_sem] theorem op_bin (op : BinOp) (x y : Opd) : wpOp F lo (.bin op x y) e H K = optP (binV op (x.ev e) (y.ev e)) (fun v => K v H) := by
  rw [prim_eq _ _ _ _ _ (by simp)]
  simp only [iop]
  cases binV op (x.ev e) (y.ev e) <;> simp [optP]
def beqV (ne : Bool) (x y : Value) : Option Value := match x, y with
  | .bool a, .bool b => some (.bool (if ne then !(a == b) else a == b))
  | _, _ => none
@[go_sem] theorem op_beq (ne : Bool) (x y : Opd) : wpOp F lo (.beq ne x y) e H K = optP (beqV ne (x.ev e) (y.ev e)) (fun v => K v H) := by
  rw [prim_eq _ _ _ _ _ (by simp)]
  simp only [iop]
  cases x.ev e <;> cases y.ev e <;> simp [optP, beqV]
def eqsV (ne : Bool) (n : Nat) (x y : Value) : Option Value := match x, y with
  | .agg a, .agg b => if a.toList.length = n ∧ b.toList.length = n then (eqCells a.toList b.toList).map fun t => .bool (if ne then !t else t) else none
  | _, _ => none
@[go_sem] theorem op_eqs (ne : Bool) (n : Nat) (x y : Opd) : wpOp F lo (.eqs ne n x y) e H K = optP (eqsV ne n (x.ev e) (y.ev e)) (fun v => K v H) := by
  refine viaO _ _ _ _ _ (by simp) ?_
  simp only [iop]
  generalize x.ev e = a
  generalize y.ev e = b
  cases a <;> cases b <;> try rfl
  simp only [eqsV]
  split
  · rename_i a b h; cases eqCells a.toList b.toList <;> rfl
  · rfl
@[go_sem] theorem op_un (op : UnOp) (x : Opd) : wpOp F lo (.un op x) e H K = optP (unV op (x.ev e)) (fun v => K v H) := by
  rw [prim_eq _ _ _ _ _ (by simp)]
  simp only [iop]
  cases unV op (x.ev e) <;> simp [optP]
def convV (k : IntKind) (x : Value) : Option Value := match x with
  | .int _ n => some (.int k (k.wrap n))
  | _ => none
@[go_sem] theorem op_conv (k : IntKind) (x : Opd) : wpOp F lo (.conv k x) e H K = optP (convV k (x.ev e)) (fun v => K v H) := by
  rw [prim_eq _ _ _ _ _ (by simp)]
  simp only [iop]
  cases x.ev e <;> simp [optP, convV]
@[go_sem] theorem op_mks (es et bytes : Nat) (z : List Value) (l c : Opd) : wpOp F lo (.mks es et bytes z l c) e H K = mksP es et bytes z H (l.ev e) (c.ev e) K := by
  rw [prim_eq _ _ _ _ _ (by simp)]
  simp only [iop]
  generalize l.ev e = a
  generalize c.ev e = b
  cases a <;> cases b <;> try (simp [mksP]; done)
  simp only [mksP]
  split
  · rename_i h; simp only [Option.some.injEq, Prod.mk.injEq]; exact propext ⟨fun ⟨_, _, ⟨h1, h2⟩, k⟩ => by subst h1; subst h2; exact ⟨h, k⟩, fun k => ⟨_, _, ⟨rfl, rfl⟩, k.2⟩⟩
  · rename_i h; exact propext ⟨fun ⟨_, _, h', _⟩ => (by cases h'), fun h' => absurd h'.1 h⟩
def subV (es : Nat) (v : Value) (e : Env) (lo hi : Option Opd) : Option Value := match v with
  | .slice a n _ => match subB n e n hi with
    | some h' => match subB h' e 0 lo with
      | some l' => some (.slice (a.map fun a => ⟨a.block, a.off + l' * es, none⟩) (h' - l') (h' - l'))
      | none => none
    | none => none
  | _ => none
@[go_sem] theorem op_sub (es : Nat) (x : Opd) (l h : Option Opd) : wpOp F lo (.sub es x l h) e H K = optP (subV es (x.ev e) e l h) (fun v => K v H) := by
  refine viaO _ _ _ _ _ (by simp) ?_
  simp only [iop]
  generalize x.ev e = a
  cases a <;> try rfl
  rename_i a n c
  simp only [subV]
  cases subB n e n h with
  | none => rfl
  | some h' => simp only; cases subB h' e 0 l <;> rfl
@[go_sem] theorem op_fad (off : Nat) (x : Opd) : wpOp F lo (.fad off x) e H K = fadP off (x.ev e) (fun v => K v H) := by
  rw [prim_eq _ _ _ _ _ (by simp)]
  simp only [iop]
  cases x.ev e with
  | pointer a => cases a <;> simp [fadP]
  | _ => simp [fadP]
def fldV (agg : Bool) (off n : Nat) (v : Value) : Option Value := match v with
  | .agg cs => if off + n ≤ cs.toList.length then valOf agg ((cs.toList.drop off).take n) else none
  | _ => none
@[go_sem] theorem op_fld (agg : Bool) (off n : Nat) (x : Opd) : wpOp F lo (.fld agg off n x) e H K = optP (fldV agg off n (x.ev e)) (fun v => K v H) := by
  refine viaO _ _ _ _ _ (by simp) ?_
  simp only [iop]
  generalize x.ev e = a
  cases a <;> try rfl
  rename_i cs
  simp only [fldV]
  split
  · cases valOf agg ((cs.toList.drop off).take n) <;> rfl
  · rfl
@[go_sem] theorem op_iad (es : Nat) (x i : Opd) : wpOp F lo (.iad es x i) e H K = iadP es (x.ev e) (i.ev e) (fun v => K v H) := by
  rw [prim_eq _ _ _ _ _ (by simp)]
  simp only [iop]
  generalize x.ev e = a
  generalize i.ev e = b
  cases a <;> try (simp [iadP]; done)
  rename_i a n c
  cases a with
  | none => simp [iadP]
  | some a =>
    cases b <;> try (simp [iadP]; done)
    simp only [iadP]
    split
    · rename_i h; simp only [Option.some.injEq, Prod.mk.injEq]; exact propext ⟨fun ⟨_, _, ⟨h1, h2⟩, k⟩ => by subst h1; subst h2; exact ⟨h, k⟩, fun k => ⟨_, _, ⟨rfl, rfl⟩, k.2⟩⟩
    · rename_i h; exact propext ⟨fun ⟨_, _, h', _⟩ => (by cases h'), fun h' => absurd h'.1 h⟩
def extV (v : Value) (i : Nat) : Option Value := match v with
  | .tuple vs => vs.toList[i]?
  | _ => none
@[go_sem] theorem op_ext (x : Opd) (i : Nat) : wpOp F lo (.ext x i) e H K = optP (extV (x.ev e) i) (fun v => K v H) := by
  refine viaO _ _ _ _ _ (by simp) ?_
  simp only [iop]
  generalize x.ev e = a
  cases a <;> rfl
@[go_sem] theorem op_mkf (fn : Nat) (xs ys : List Opd) : wpOp F lo (.mkf fn xs ys) e H K = (((xs.map (·.ev e)).all sim0 = true ∧ (ys.map (·.ev e)).all sim0 = true) ∧ K (.func (.func fn) (xs.map (·.ev e)).toArray (ys.map (·.ev e)).toArray) H) := by
  rw [prim_eq _ _ _ _ _ (by simp)]
  simp only [iop]
  split
  · rename_i h; simp only [Option.some.injEq, Prod.mk.injEq, h, and_self, true_and]
    exact propext ⟨fun ⟨_, _, ⟨rfl, rfl⟩, k⟩ => k, fun k => ⟨_, _, ⟨rfl, rfl⟩, k⟩⟩
  · rename_i h; exact propext ⟨fun ⟨_, _, hh, _⟩ => (by cases hh), fun ⟨hh, _⟩ => absurd hh h⟩
@[go_sem] theorem op_len (x : Opd) : wpOp F lo (.len x) e H K = lenP (x.ev e) (fun v => K v H) := by
  rw [prim_eq _ _ _ _ _ (by simp)]
  simp only [iop]
  cases x.ev e <;> simp [lenP]
def maxV (x y : Value) : Option Value := match x, y with
  | .int k a, .int _ b => some (.int k (if b > a then b else a))
  | _, _ => none
@[go_sem] theorem op_max2 (x y : Opd) : wpOp F lo (.max2 x y) e H K = optP (maxV (x.ev e) (y.ev e)) (fun v => K v H) := by
  refine viaO _ _ _ _ _ (by simp) ?_
  simp only [iop]
  generalize x.ev e = a
  generalize y.ev e = b
  cases a <;> cases b <;> rfl
def nilckV (x : Value) : Option Value := match x with
  | .pointer (some a) => some (.pointer (some a))
  | .func (.func g) first cap => some (.func (.func g) first cap)
  | _ => none
@[go_sem] theorem op_nilck (x : Opd) : wpOp F lo (.nilck x) e H K = optP (nilckV (x.ev e)) (fun v => K v H) := by
  refine viaO _ _ _ _ _ (by simp) ?_
  simp only [iop]
  generalize x.ev e = a
  cases a <;> try rfl
  · rename_i a; cases a <;> rfl
  · rename_i f _ _; cases f <;> rfl
/-! append -/
theorem op_app_zero {es et bytes : Nat} {kill : Bool} {x y : Opd} {b : Option Addr} {n c : Nat} {a : Option Addr} {c' : Nat} (hx : x.ev e = .slice b n c) (hy : y.ev e = .slice a 0 c')
    (k : K (.slice b n c) H) : wpOp F lo (.app es et bytes kill x y) e H K := ⟨_, _, by simp only [iop, hx, hy]; rfl, k⟩
theorem op_app_nil {es et bytes : Nat} {kill : Bool} {x y : Opd} {n c : Nat} {a : Addr} {m c' : Nat} {ys : List Value} (hx : x.ev e = .slice none n c) (hy : y.ev e = .slice (some a) m c') (hm : m ≠ 0)
    (hg : getCells H a.block a.off (m * es) = some ys) (h1 : m * bytes ≤ 140737488355328) (h2 : m ≤ 9223372036854775807)
    (k : K (sli H.length 0 m) (H ++ [⟨ys, es, et, true, true⟩])) : wpOp F lo (.app es et bytes kill x y) e H K :=
  ⟨_, _, by simp only [iop, hx, hy]; rw [if_neg hm]; simp only [hg]; rw [if_pos ⟨h1, h2⟩], k⟩
theorem op_app {es et bytes : Nat} {kill : Bool} {x y : Opd} {b : Addr} {n c : Nat} {a : Addr} {m c' : Nat} {ys : List Value} {kb : Blk} (hx : x.ev e = .slice (some b) n c) (hy : y.ev e = .slice (some a) m c') (hm : m ≠ 0)
    (hg : getCells H a.block a.off (m * es) = some ys) (hk : H[b.block]? = some kb) (h : lo ≤ b.block ∧ b.off = 0 ∧ kb.app = true ∧ kb.es = es ∧ kb.et = et ∧ kb.cells.length = n * es ∧ (n + m) * bytes ≤ 140737488355328 ∧ n + m ≤ 9223372036854775807)
    (k : K (sli H.length 0 (n + m)) (H.set b.block { kb with app := false, solo := kb.solo && n == 0, cells := if kill then [] else kb.cells } ++ [⟨kb.cells ++ ys, es, et, true, kb.solo && (n == 0 || kill)⟩])) :
    wpOp F lo (.app es et bytes kill x y) e H K :=
  ⟨_, _, by simp only [iop, hx, hy]; rw [if_neg hm]; simp only [hg, hk]; rw [if_pos h], k⟩

/-! calls -/
variable {F lo e H K}
theorem op_callQ {g : Nat} {args : List Opd} {v : Value} (h : QC F g (args.map (·.ev e)) H v) (k : K v H) : wpOp F lo (.call .q (.f g) args) e H K :=
  ⟨g, #[], #[], rfl, v, by simpa using h, k⟩
theorem op_callK {g : Nat} {args : List Opd} {v : Value} {H1 : Heap} (h : KC F g (args.map (·.ev e)) H v H1) (k : K v H1) : wpOp F lo (.call .k (.f g) args) e H K :=
  ⟨g, #[], #[], rfl, v, H1, by simpa using h, k⟩
theorem op_callN {g : Nat} {args : List Opd} {v : Value} {H1 : Heap} (h : NC F lo g (args.map (·.ev e)) H v H1) (k : K v H1) : wpOp F lo (.call .n (.f g) args) e H K :=
  ⟨g, #[], #[], rfl, v, H1, by simpa using h, k⟩
theorem op_callQc {g t : Nat} {first cap : Array Value} {args : List Opd} {v : Value} (hf : e t = .func (.func g) first cap) (h : QC F g (first.toList ++ args.map (·.ev e) ++ cap.toList) H v) (k : K v H) : wpOp F lo (.call .q (.t t) args) e H K :=
  ⟨g, first, cap, hf, v, h, k⟩
theorem op_callNc {g t : Nat} {first cap : Array Value} {args : List Opd} {v : Value} {H1 : Heap} (hf : e t = .func (.func g) first cap) (h : NC F lo g (first.toList ++ args.map (·.ev e) ++ cap.toList) H v H1) (k : K v H1) : wpOp F lo (.call .n (.t t) args) e H K :=
  ⟨g, first, cap, hf, v, H1, h, k⟩

/-! functions -/
def fin (rs : List IRes) (Q : Value → Heap → Prop) (x : X) (e : Env) (H : Heap) : Prop := (x = .n ∨ x = .r) ∧ ∃ v, resV rs e H = some v ∧ Q v H
theorem QC.mk {f np nt : Nat} {rs : List IRes} {body : ICode} {args : List Value} {v : Value} (hf : F f = some ⟨np, nt, rs, body⟩) (hl : args.length = np) (h : wpc F H.length body (ini args) H (fin rs fun w _ => w = v ∧ scal w = true)) : QC F f args H v := by
  obtain ⟨x, e1, H1, h1, h2, w, h3, rfl, h4⟩ := h
  exact ⟨_, x, e1, H1, hf, hl, h1, h2, h3, h4⟩
theorem KC.mk {f np nt : Nat} {rs : List IRes} {body : ICode} {args : List Value} {Q : Value → Heap → Prop} (hf : F f = some ⟨np, nt, rs, body⟩) (hl : args.length = np) (h : wpc F H.length body (ini args) H (fin rs Q)) : ∃ v H1, KC F f args H v H1 ∧ Q v H1 := by
  obtain ⟨x, e1, H1, h1, h2, w, h3, h4⟩ := h
  exact ⟨w, H1, ⟨_, x, e1, hf, hl, h1, h2, h3⟩, h4⟩
theorem NC.mk {f np nt : Nat} {rs : List IRes} {body : ICode} {args : List Value} {Q : Value → Heap → Prop} (hf : F f = some ⟨np, nt, rs, body⟩) (hl : args.length = np) (h : wpc F lo body (ini args) H (fin rs Q)) : ∃ v H1, NC F lo f args H v H1 ∧ Q v H1 := by
  obtain ⟨x, e1, H1, h1, h2, w, h3, h4⟩ := h
  exact ⟨w, H1, ⟨_, x, e1, hf, hl, h1, h2, h3⟩, h4⟩
end

@[go_sem] theorem resV_t (n : Nat) (e : Env) (H : Heap) : resV [.t n] e H = some (e n) := rfl
def cellP (agg : Bool) (n : Nat) (H : Heap) (v : Value) : Option Value := match v with
  | .pointer (some a) => (getCells H a.block a.off n).bind (valOf agg)
  | _ => none
@[go_sem] theorem resV_cell (agg : Bool) (n t : Nat) (e : Env) (H : Heap) : resV [.cell agg n t] e H = cellP agg n H (e t) := rfl
@[go_sem] theorem cellP_ptr (agg : Bool) (n : Nat) (H : Heap) (b o : Nat) : cellP agg n H (ptr b o) = (getCells H b o n).bind (valOf agg) := rfl
attribute [go_sem] Option.bind_some
/-! ### What simp reckons with -/
@[go_sem] theorem ev_t (e : Env) (n : Nat) : Opd.ev e (.t n) = e n := rfl
@[go_sem] theorem ev_c (e : Env) (v : Value) : Opd.ev e (.c v) = v := rfl
@[go_sem] theorem ev_f (e : Env) (n : Nat) : Opd.ev e (.f n) = .func (.func n) #[] #[] := rfl
attribute [go_sem] putE_get putE_none if_true if_false
@[go_sem] theorem pickP_t (a b : Value) (K : Value → Prop) : pickP (.bool true) a b K = K a := rfl
@[go_sem] theorem pickP_f (a b : Value) (K : Value → Prop) : pickP (.bool false) a b K = K b := rfl
theorem pickP_b (t : Bool) (a b : Value) (K : Value → Prop) : pickP (.bool t) a b K = K (if t then a else b) := rfl
@[go_sem] theorem iadP_eq (es b o n c : Nat) (k : IntKind) (j : Int) (K : Value → Prop) : iadP es (.slice (some ⟨b, o, none⟩) n c) (.int k j) K = ((0 ≤ j ∧ j < n) ∧ K (ptr b (o + j.toNat * es))) := rfl
@[go_sem] theorem iadP_sli (es b o n : Nat) (k : IntKind) (j : Int) (K : Value → Prop) : iadP es (sli b o n) (.int k j) K = ((0 ≤ j ∧ j < n) ∧ K (ptr b (o + j.toNat * es))) := rfl
@[go_sem] theorem lenP_eq (a : Option Addr) (n c : Nat) (K : Value → Prop) : lenP (.slice a n c) K = K (.int .i64 n) := rfl
@[go_sem] theorem lenP_sli (b o n : Nat) (K : Value → Prop) : lenP (sli b o n) K = K (.int .i64 n) := rfl
@[go_sem] theorem lenP_nil (K : Value → Prop) : lenP nilS K = K (.int .i64 0) := rfl
@[go_sem] theorem fadP_ptr (b o off : Nat) (K : Value → Prop) : fadP off (ptr b o) K = K (ptr b (o + off)) := rfl
@[go_sem] theorem mksP_eq (es et bytes : Nat) (z : List Value) (H : Heap) (k k' : IntKind) (n n' : Int) (K : Value → Heap → Prop) : mksP es et bytes z H (.int k n) (.int k' n') K =
    ((0 ≤ n ∧ n' = n ∧ n * bytes ≤ 140737488355328 ∧ n ≤ 9223372036854775807) ∧ K (sli H.length 0 n.toNat) (H ++ [⟨(List.replicate n.toNat z).flatten, es, et, true, true⟩])) := rfl
@[go_sem] theorem optP_some (v : Value) (K : Value → Prop) : optP (some v) K = K v := rfl
@[go_sem] theorem loadP_ptr (H : Heap) (b o : Nat) (agg : Bool) (n : Nat) (K : Value → Prop) : loadP H (ptr b o) agg n K = match getCells H b o n with
    | some cs => match valOf agg cs with
      | some v => K v
      | none => False
    | none => False := rfl
@[go_sem] theorem storeP_ptr (lo : Nat) (H : Heap) (b o : Nat) (n : Nat) (y : Value) (K : Heap → Prop) : storeP lo H (ptr b o) n y K = match H[b]? with
    | some k => (lo ≤ b ∧ k.solo = true ∧ y.cells.toList.length = n ∧ o + n ≤ k.cells.length ∧ y.cells.toList.all one = true) ∧ K (H.set b { k with cells := setL k.cells o y.cells.toList })
    | none => False := rfl
@[go_sem] theorem litP_some (es et len : Nat) (cs : List Value) (H : Heap) (K : Value → Heap → Prop) : litP es et len (some cs) H K = K (sli H.length 0 len) (H ++ [⟨cs, es, et, true, true⟩]) := rfl
@[go_sem] theorem binV_int (op : BinOp) (k : IntKind) (x y : Int) : binV op (.int k x) (.int k y) = binI op k x y := by simp [binV]
@[go_sem] theorem binI_add (k : IntKind) (x y : Int) : binI .add k x y = some (.int k (k.wrap (x + y))) := rfl
@[go_sem] theorem binI_sub (k : IntKind) (x y : Int) : binI .sub k x y = some (.int k (k.wrap (x - y))) := rfl
@[go_sem] theorem binI_mul (k : IntKind) (x y : Int) : binI .mul k x y = some (.int k (k.wrap (x * y))) := rfl
theorem binI_eql (k : IntKind) (x y : Int) : binI .eql k x y = some (.bool (x == y)) := rfl
theorem binI_neq (k : IntKind) (x y : Int) : binI .neq k x y = some (.bool (x != y)) := rfl
theorem binI_lss (k : IntKind) (x y : Int) : binI .lss k x y = some (.bool (decide (x < y))) := rfl
theorem binI_leq (k : IntKind) (x y : Int) : binI .leq k x y = some (.bool (decide (x ≤ y))) := rfl
theorem binI_gtr (k : IntKind) (x y : Int) : binI .gtr k x y = some (.bool (decide (y < x))) := rfl
theorem binI_geq (k : IntKind) (x y : Int) : binI .geq k x y = some (.bool (decide (y ≤ x))) := rfl
@[go_sem] theorem unV_not (b : Bool) : unV .not (.bool b) = some (.bool (!b)) := rfl
@[go_sem] theorem unV_neg (k : IntKind) (n : Int) : unV .neg (.int k n) = some (.int k (k.wrap (0 - n))) := rfl
@[go_sem] theorem beqV_eq (a b : Bool) : beqV false (.bool a) (.bool b) = some (.bool (a == b)) := rfl
@[go_sem] theorem beqV_ne (a b : Bool) : beqV true (.bool a) (.bool b) = some (.bool (!(a == b))) := rfl
@[go_sem] theorem convV_int (k k' : IntKind) (n : Int) : convV k (.int k' n) = some (.int k (k.wrap n)) := rfl
@[go_sem] theorem valOf_agg (cs : List Value) : valOf true cs = some (.agg cs.toArray) := rfl
@[go_sem] theorem valOf_one (v : Value) : valOf false [v] = some v := rfl
@[go_sem] theorem extV_tup (l : List Value) (i : Nat) : extV (.tuple l.toArray) i = l[i]? := by simp [extV]
@[go_sem] theorem fldV_agg (agg : Bool) (off n : Nat) (cs : List Value) : fldV agg off n (.agg cs.toArray) = if off + n ≤ cs.length then valOf agg ((cs.drop off).take n) else none := by simp [fldV]
@[go_sem] theorem cells_agg (cs : List Value) : (Value.agg cs.toArray).cells.toList = cs := rfl
@[go_sem] theorem cells_int (k : IntKind) (n : Int) : (Value.int k n).cells.toList = [.int k n] := rfl
@[go_sem] theorem cells_bool (b : Bool) : (Value.bool b).cells.toList = [.bool b] := rfl
@[go_sem] theorem cells_sli (b o n : Nat) : (sli b o n).cells.toList = [sli b o n] := rfl
@[go_sem] theorem cells_nilS : nilS.cells.toList = [nilS] := rfl
@[go_sem] theorem cells_ptr (b o : Nat) : (ptr b o).cells.toList = [ptr b o] := rfl
@[go_sem] theorem nil_is : Value.slice none 0 0 = nilS := rfl
@[go_sem] theorem one_int (k : IntKind) (n : Int) : one (.int k n) = true := rfl
@[go_sem] theorem one_bool (b : Bool) : one (.bool b) = true := rfl
@[go_sem] theorem one_sli (b o n : Nat) : one (sli b o n) = true := rfl
@[go_sem] theorem one_nilS : one nilS = true := rfl
@[go_sem] theorem one_ptr (b o : Nat) : one (ptr b o) = true := rfl
@[go_sem] theorem ini_app (l : List Value) (i : Nat) : ini l i = l.getD i undef := rfl
attribute [go_sem] List.getD_cons_zero List.getD_cons_succ List.getD_nil
@[go_sem] theorem setL_nil (cs : List Value) (o : Nat) : setL cs o [] = cs := rfl
@[go_sem] theorem setL_cons (cs vs : List Value) (o : Nat) (v : Value) : setL cs o (v :: vs) = setL (cs.set o v) (o + 1) vs := rfl
attribute [go_sem] List.set_cons_zero List.set_cons_succ List.set_nil
@[go_sem] theorem fillL_nil (e : Env) (cs : List Value) : fillL e cs [] = some cs := rfl
@[go_sem] theorem fillL_cons (e : Env) (cs : List Value) (o n : Nat) (x : Opd) (r : List (Nat × Nat × Opd)) : fillL e cs ((o, n, x) :: r) =
    if (x.ev e).cells.toList.length = n ∧ o + n ≤ cs.length ∧ (x.ev e).cells.toList.all one = true then fillL e (setL cs o (x.ev e).cells.toList) r else none := rfl
attribute [go_sem] List.all_cons List.all_nil List.length_cons List.length_nil Bool.and_true Bool.true_and Bool.and_self and_self and_true true_and Nat.zero_add Nat.add_zero List.map_cons List.map_nil Option.map_some
attribute [go_sem] List.drop_zero List.drop_succ_cons List.take_succ_cons List.take_zero List.drop_nil List.take_nil List.getElem?_cons_zero List.getElem?_cons_succ Bool.not_true Bool.not_false

/-! heaps: what came in, and the blocks made since -/
@[go_sem] theorem hl_app (H L : Heap) : (H ++ L).length = H.length + L.length := List.length_append
@[go_sem] theorem app_app (H L M : Heap) : H ++ L ++ M = H ++ (L ++ M) := List.append_assoc H L M
attribute [go_sem] List.cons_append List.nil_append List.append_nil
@[go_sem] theorem get_new (H L : Heap) (k : Nat) : (H ++ L)[H.length + k]? = L[k]? := by rw [List.getElem?_append_right (by omega)]; congr 1; omega
@[go_sem] theorem get_new0 (H L : Heap) : (H ++ L)[H.length]? = L[0]? := get_new H L 0
@[go_sem] theorem set_new (H L : Heap) (k : Nat) (x : Blk) : (H ++ L).set (H.length + k) x = H ++ L.set k x := by rw [List.set_append_right _ _ (by omega)]; congr 2; omega
@[go_sem] theorem set_new0 (H L : Heap) (x : Blk) : (H ++ L).set H.length x = H ++ L.set 0 x := set_new H L 0 x
def inBlk (k : Option Blk) (o n : Nat) : Option (List Value) := match k with
  | some k => if o + n ≤ k.cells.length then some ((k.cells.drop o).take n) else none
  | none => none
@[go_sem] theorem gc_new (H L : Heap) (k o n : Nat) : getCells (H ++ L) (H.length + k) o n = inBlk L[k]? o n := by unfold getCells; rw [get_new]; rfl
@[go_sem] theorem gc_new0 (H L : Heap) (o n : Nat) : getCells (H ++ L) H.length o n = inBlk L[0]? o n := by unfold getCells; rw [get_new0]; rfl
@[go_sem] theorem inBlk_some (cs : List Value) (es et : Nat) (a s : Bool) (o n : Nat) : inBlk (some ⟨cs, es, et, a, s⟩) o n = if o + n ≤ cs.length then some ((cs.drop o).take n) else none := rfl

theorem wrap_id {x : Int} (h1 : -9223372036854775808 ≤ x) (h2 : x ≤ 9223372036854775807) : IntKind.i64.wrap x = x := by rw [IntKind.wrap_i64]; omega
theorem wrap8 {x : Int} (h1 : 0 ≤ x) (h2 : x ≤ 255) : IntKind.u8.wrap x = x := by
  simp only [IntKind.wrap, IntKind.min, IntKind.max, IntKind.bits, IntKind.signed]
  first | omega | (simp; omega)

end Go.Proofs.YtkdhdklggdbgdaaI
