/- Texts of this proof, merged: M1. -/
import Derived.Tactics
import Derived.Below
import Derived.Orders
import Derived.Laws.CopyRow
import Derived.Laws.Cells
import Derived.Laws.AppendOwn
import Derived.Laws.MakeOwn
import Derived.Laws.StructEq
import Derived.Laws.Slices
import Derived.Laws.Tables
import Derived.Great.BuildSlice
section
/- Texts of this proof, merged: I1, I2, I3. -/
section
/- The ideal machine: a small evaluator of values over numbered blocks, to which the given program's functions are compared. Nothing here speaks of one program. -/
set_option linter.unusedVariables false
namespace Go.Proofs.YtiekbdijpfnagaaI
open Go Go.RowKit

inductive Opd where
  | t (n : Nat)
  | c (v : Value)
  | f (n : Nat)

inductive Mode where
  | n | k | q

inductive IOp where
  | mov (x : Opd)
  | pick (c a b : Opd)
  | new (z : List Value)
  | box (x : Opd)
  | build (z : List Value) (ps : List (Nat × Nat × Opd))
  | lit (es et len : Nat) (z : List Value) (ps : List (Nat × Nat × Opd))
  | load (agg : Bool) (n : Nat) (x : Opd)
  | store (n : Nat) (x y : Opd)
  | nilck (x : Opd)
  | bin (op : BinOp) (x y : Opd)
  | beq (ne : Bool) (x y : Opd)
  | eqs (ne : Bool) (n : Nat) (x y : Opd)
  | un (op : UnOp) (x : Opd)
  | conv (k : IntKind) (x : Opd)
  | mks (es et bytes : Nat) (z : List Value) (l c : Opd)
  | sub (es : Nat) (x : Opd) (lo hi : Option Opd)
  | fad (off : Nat) (x : Opd)
  | fld (agg : Bool) (off n : Nat) (x : Opd)
  | iad (es : Nat) (x i : Opd)
  | ext (x : Opd) (i : Nat)
  | mkf (fn : Nat) (first cap : List Opd)
  | len (x : Opd)
  | max2 (x y : Opd)
  | app (es et bytes : Nat) (kill : Bool) (x y : Opd)
  | call (m : Mode) (fn : Opd) (args : List Opd)

structure IOper where
  dst : Option Nat
  guard : Option (Nat × Bool)
  op : IOp

inductive ICode where
  | skip
  | reg (draw : Option Nat) (l : List IOper)
  | regW (q : Nat) (l : List IOper)
  | seq (a b : ICode)
  | cond (c : Opd) (a b : ICode)
  | block (id : Nat) (c : ICode)
  | loop (c : ICode)
  | exit (id : Nat)
  | ret

inductive IRes where
  | t (n : Nat)
  | cell (agg : Bool) (n : Nat) (tmp : Nat)

structure IFn where
  np : Nat
  nt : Nat
  res : List IRes
  body : ICode

structure Blk where
  cells : List Value
  es : Nat
  et : Nat
  app : Bool
  solo : Bool

abbrev Heap := List Blk
abbrev Env := Nat → Value

def Opd.ev (e : Env) : Opd → Value
  | .t n => e n
  | .c v => v
  | .f n => .func (.func n) #[] #[]

def one : Value → Bool
  | .agg _ | .tuple _ => false
  | _ => true

def setL : List Value → Nat → List Value → List Value
  | cs, _, [] => cs
  | cs, o, v :: vs => setL (cs.set o v) (o + 1) vs

def fillL (e : Env) (cs : List Value) : List (Nat × Nat × Opd) → Option (List Value)
  | [] => some cs
  | (o, n, x) :: r =>
    if (x.ev e).cells.toList.length = n ∧ o + n ≤ cs.length ∧ (x.ev e).cells.toList.all one = true then fillL e (setL cs o (x.ev e).cells.toList) r else none

def getCells (H : Heap) (b o n : Nat) : Option (List Value) :=
  match H[b]? with
  | some k => if o + n ≤ k.cells.length then some ((k.cells.drop o).take n) else none
  | none => none

def valOf (agg : Bool) (cs : List Value) : Option Value :=
  if agg then some (.agg cs.toArray) else match cs with
    | [v] => some v
    | _ => none

def ptr (b o : Nat) : Value := .pointer (some ⟨b, o, none⟩)
def sli (b o n : Nat) : Value := .slice (some ⟨b, o, none⟩) n n
def nilS : Value := .slice none 0 0

def binI (op : BinOp) (k : IntKind) (x y : Int) : Option Value :=
  match op with
  | .add => some (.int k (k.wrap (x + y)))
  | .sub => some (.int k (k.wrap (x - y)))
  | .mul => some (.int k (k.wrap (x * y)))
  | .quo => if y = 0 then none else some (.int k (k.wrap (x.tdiv y)))
  | .rem => if y = 0 then none else some (.int k (x.tmod y))
  | .and => some (.int k (k.wrap ((BitVec.ofInt k.bits x &&& BitVec.ofInt k.bits y).toNat : Nat)))
  | .or => some (.int k (k.wrap ((BitVec.ofInt k.bits x ||| BitVec.ofInt k.bits y).toNat : Nat)))
  | .xor => some (.int k (k.wrap ((BitVec.ofInt k.bits x ^^^ BitVec.ofInt k.bits y).toNat : Nat)))
  | .andNot => some (.int k (k.wrap ((BitVec.ofInt k.bits x &&& ~~~ BitVec.ofInt k.bits y).toNat : Nat)))
  | .eql => some (.bool (x == y))
  | .neq => some (.bool (x != y))
  | .lss => some (.bool (decide (x < y)))
  | .leq => some (.bool (decide (x ≤ y)))
  | .gtr => some (.bool (decide (x > y)))
  | .geq => some (.bool (decide (x ≥ y)))
  | .shl => if y < 0 then none else some (.int k (k.wrap (x * 2 ^ (min y.toNat k.bits))))
  | .shr => if y < 0 then none else some (.int k (x.fdiv (2 ^ (min y.toNat k.bits))))

def shiftOp : BinOp → Bool
  | .shl | .shr => true
  | _ => false

def binV (op : BinOp) (x y : Value) : Option Value :=
  match x, y with
  | .int k a, .int k' b => if shiftOp op = true ∨ k = k' then binI op k a b else none
  | _, _ => none

def sim0 : Value → Bool
  | .bool _ | .int _ _ | .string _ | .nilFunc | .pointer _ | .slice _ _ _ => true
  | _ => false

def eqCells : List Value → List Value → Option Bool
  | [], [] => some true
  | .int k a :: xs, .int k' b :: ys => if k = k' then (eqCells xs ys).map ((a == b) && ·) else none
  | _, _ => none

theorem eqCells_cons {v : Value} {xs ys : List Value} {r : Bool} (h : eqCells (v :: xs) ys = some r) :
    ∃ k p q ys1 r', v = .int k p ∧ ys = .int k q :: ys1 ∧ eqCells xs ys1 = some r' ∧ r = ((p == q) && r') := by
  cases ys with
  | nil => cases v <;> simp [eqCells] at h
  | cons y ys =>
    cases v <;> cases y <;> simp only [eqCells] at h <;> try (cases h; done)
    rename_i k p k' q
    by_cases hk : k = k'
    · subst hk
      rw [if_pos rfl] at h
      obtain ⟨r', h1, h2⟩ := Option.map_eq_some_iff.1 h
      exact ⟨k, p, q, ys, r', rfl, rfl, h1, h2.symm⟩
    · rw [if_neg hk] at h; cases h

def unV (op : UnOp) (x : Value) : Option Value :=
  match op, x with
  | .not, .bool b => some (.bool (!b))
  | .neg, .int k n => some (.int k (k.wrap (0 - n)))
  | _, _ => none

def subB (n : Nat) (e : Env) (d : Nat) : Option Opd → Option Nat
  | none => some d
  | some x => match x.ev e with
    | .int _ i => if 0 ≤ i ∧ i ≤ n then some i.toNat else none
    | _ => none

/-- One operation that calls nothing: its value and the heap behind it. -/
def iop (lo : Nat) (o : IOp) (e : Env) (H : Heap) : Option (Value × Heap) :=
  match o with
  | .mov x => some (x.ev e, H)
  | .pick c a b => match c.ev e with
    | .bool t => some (if t then a.ev e else b.ev e, H)
    | _ => none
  | .new z => some (ptr H.length 0, H ++ [⟨z, 0, 0, false, true⟩])
  | .box x => if (x.ev e).cells.toList.all one = true then some (ptr H.length 0, H ++ [⟨(x.ev e).cells.toList, 0, 0, false, true⟩]) else none
  | .build z ps => (fillL e z ps).map fun cs => (.agg cs.toArray, H)
  | .lit es et len z ps => (fillL e z ps).map fun cs => (sli H.length 0 len, H ++ [⟨cs, es, et, true, true⟩])
  | .load agg n x => match x.ev e with
    | .pointer (some a) => (getCells H a.block a.off n).bind fun cs => (valOf agg cs).map fun v => (v, H)
    | _ => none
  | .store n x y => match x.ev e with
    | .pointer (some a) => match H[a.block]? with
      | some k =>
        if lo ≤ a.block ∧ k.solo = true ∧ (y.ev e).cells.toList.length = n ∧ a.off + n ≤ k.cells.length ∧ (y.ev e).cells.toList.all one = true
        then some (undef, H.set a.block { k with cells := setL k.cells a.off (y.ev e).cells.toList }) else none
      | none => none
    | _ => none
  | .nilck x => match x.ev e with
    | .pointer (some a) => some (.pointer (some a), H)
    | .func (.func g) first cap => some (.func (.func g) first cap, H)
    | _ => none
  | .bin op x y => (binV op (x.ev e) (y.ev e)).map fun v => (v, H)
  | .beq ne x y => match x.ev e, y.ev e with
    | .bool a, .bool b => some (.bool (if ne then !(a == b) else a == b), H)
    | _, _ => none
  | .eqs ne n x y => match x.ev e, y.ev e with
    | .agg a, .agg b => if a.toList.length = n ∧ b.toList.length = n then (eqCells a.toList b.toList).map fun t => (.bool (if ne then !t else t), H) else none
    | _, _ => none
  | .un op x => (unV op (x.ev e)).map fun v => (v, H)
  | .conv k x => match x.ev e with
    | .int _ n => some (.int k (k.wrap n), H)
    | _ => none
  | .mks es et bytes z l c => match l.ev e, c.ev e with
    | .int _ n, .int _ n' =>
      if 0 ≤ n ∧ n' = n ∧ n * bytes ≤ 140737488355328 ∧ n ≤ 9223372036854775807 then
        some (sli H.length 0 n.toNat, H ++ [⟨(List.replicate n.toNat z).flatten, es, et, true, true⟩]) else none
    | _, _ => none
  | .sub es x l h => match x.ev e with
    | .slice a n _ => match subB n e n h with
      | some h' => match subB h' e 0 l with
        | some l' => some (.slice (a.map fun a => ⟨a.block, a.off + l' * es, none⟩) (h' - l') (h' - l'), H)
        | none => none
      | none => none
    | _ => none
  | .fad off x => match x.ev e with
    | .pointer (some a) => some (ptr a.block (a.off + off), H)
    | _ => none
  | .fld agg off n x => match x.ev e with
    | .agg cs => if off + n ≤ cs.toList.length then (valOf agg ((cs.toList.drop off).take n)).map fun v => (v, H) else none
    | _ => none
  | .iad es x i => match x.ev e, i.ev e with
    | .slice (some a) n _, .int _ j => if 0 ≤ j ∧ j < n then some (ptr a.block (a.off + j.toNat * es), H) else none
    | _, _ => none
  | .ext x i => match x.ev e with
    | .tuple vs => vs.toList[i]?.map fun v => (v, H)
    | _ => none
  | .mkf fn first cap => if (first.map (·.ev e)).all sim0 = true ∧ (cap.map (·.ev e)).all sim0 = true then some (.func (.func fn) (first.map (·.ev e)).toArray (cap.map (·.ev e)).toArray, H) else none
  | .len x => match x.ev e with
    | .slice _ n _ => some (.int .i64 n, H)
    | _ => none
  | .max2 x y => match x.ev e, y.ev e with
    | .int k a, .int _ b => some (.int k (if b > a then b else a), H)
    | _, _ => none
  | .app es et bytes kill x y => match x.ev e, y.ev e with
    | .slice b n c, .slice a m _ =>
      if m = 0 then some (.slice b n c, H) else
      match a with
      | none => none
      | some a => match getCells H a.block a.off (m * es) with
        | none => none
        | some ys => match b with
          | none => if m * bytes ≤ 140737488355328 ∧ m ≤ 9223372036854775807 then some (sli H.length 0 m, H ++ [⟨ys, es, et, true, true⟩]) else none
          | some b => match H[b.block]? with
            | none => none
            | some k =>
              if lo ≤ b.block ∧ b.off = 0 ∧ k.app = true ∧ k.es = es ∧ k.et = et ∧ k.cells.length = n * es ∧ (n + m) * bytes ≤ 140737488355328 ∧ n + m ≤ 9223372036854775807 then
                some (sli H.length 0 (n + m),
                  H.set b.block { k with app := false, solo := k.solo && n == 0, cells := if kill then [] else k.cells } ++
                    [⟨k.cells ++ ys, es, et, true, k.solo && (n == 0 || kill)⟩])
              else if b.off = 0 ∧ k.app = true ∧ k.es = es ∧ k.et = et ∧ k.cells = [] ∧ n = 0 ∧ m * bytes ≤ 140737488355328 ∧ m ≤ 9223372036854775807 then
                some (sli H.length 0 m, H ++ [⟨ys, es, et, true, true⟩])
              else none
    | _, _ => none
  | .call _ _ _ => none

inductive X where
  | n
  | e (id : Nat)
  | r

def X.out (id : Nat) : X → X
  | .e i => if i = id then .n else .e i
  | x => x

inductive Task where
  | code (c : ICode)
  | lp (c : ICode)
  | ops (l : List IOper)
  | pre (p : Nat) (l : List IOper)
  | prw (q : Nat) (l : List IOper)
  | prx (X : List Nat) (p : Nat) (l : List IOper)
  | op (d : Option Nat) (o : IOp)

def putE (e : Env) (d : Option Nat) (v : Value) : Env :=
  match d with
  | some d => fun i => if i = d then v else e i
  | none => e

def IOper.runs (o : IOper) (e : Env) : Bool :=
  match o.guard with
  | none => true
  | some (g, w) => match e g with
    | .bool b => b == w
    | _ => false

def ini (args : List Value) : Env := fun i => args.getD i undef

def res1 (e : Env) (H : Heap) : IRes → Option Value
  | .t n => some (e n)
  | .cell agg n t => match e t with
    | .pointer (some a) => (getCells H a.block a.off n).bind (valOf agg)
    | _ => none

def resL (e : Env) (H : Heap) : List IRes → Option (List Value)
  | [] => some []
  | r :: rs => (res1 e H r).bind fun v => (resL e H rs).map (v :: ·)

def notT : Value → Bool
  | .tuple _ => false
  | _ => true

def resV (rs : List IRes) (e : Env) (H : Heap) : Option Value :=
  match rs with
  | [r] => res1 e H r
  | rs => (resL e H rs).bind fun vs => if vs.all notT = true then some (.tuple vs.toArray) else none

def scal1 : Value → Bool
  | .bool _ | .int _ _ | .string _ => true
  | _ => false
def scalA : Value → Bool
  | .agg cs => cs.toList.all scal1
  | v => scal1 v
def scal : Value → Bool
  | .tuple vs => vs.toList.all scalA
  | v => scalA v

/-- A heap with some blocks' contents out of sight. -/
def hideB (X : List Nat) (b : Nat) (k : Blk) : Blk := if b ∈ X then ⟨[], 0, 0, false, false⟩ else k
def hide (X : List Nat) (H : Heap) : Heap := H.mapIdx (hideB X)
def isN : IOp → Bool
  | .call .n _ _ => true
  | _ => false

/-- What looks at no memory. -/
def pureI : IOp → Bool
  | .mov _ | .pick _ _ _ | .build _ _ | .bin _ _ _ | .beq _ _ _ | .eqs _ _ _ _ | .un _ _ | .conv _ _ | .sub _ _ _ _ | .fad _ _ | .fld _ _ _ _ | .iad _ _ _ | .ext _ _ | .len _ | .max2 _ _ | .nilck _ => true
  | _ => false
def movO : IOper → Bool
  | ⟨some _, none, o⟩ => pureI o
  | _ => false
def appO : Option IOper → Bool
  | some ⟨_, none, .app _ _ _ false _ _⟩ => true
  | some ⟨_, none, .store _ _ _⟩ => true
  | _ => false

/-- Some operations that read the same in two heaps, and change none. -/
def frees (lo : Nat) (H Hm : Heap) : Nat → List IOper → Env → Env → Prop
  | 0, _, e, e1 => e1 = e
  | n + 1, o :: r, e, e1 => o.guard = none ∧ ∃ v, iop lo o.op e H = some (v, H) ∧ iop lo o.op e Hm = some (v, Hm) ∧ frees lo H Hm n r (putE e o.dst v) e1
  | _ + 1, [], _, _ => False

/-- What runs: big steps. 'lo': blocks below it are not written. -/
inductive BS (F : Nat → Option IFn) : Nat → Task → Env → Heap → X → Env → Heap → Prop where
  | skip {lo e H} : BS F lo (.code .skip) e H .n e H
  | reg {lo l e H e1 H1} : BS F lo (.ops l) e H .n e1 H1 → BS F lo (.code (.reg none l)) e H .n e1 H1
  | regD {lo p l e H e1 H1} : BS F lo (.pre p l) e H .n e1 H1 → BS F lo (.code (.reg (some p) l)) e H .n e1 H1
  | seqN {lo a b e H e1 H1 x e2 H2} : BS F lo (.code a) e H .n e1 H1 → BS F lo (.code b) e1 H1 x e2 H2 → BS F lo (.code (.seq a b)) e H x e2 H2
  | seqX {lo a b e H e1 H1 x} : x ≠ .n → BS F lo (.code a) e H x e1 H1 → BS F lo (.code (.seq a b)) e H x e1 H1
  | cond {lo c a b e H e1 H1 x t} : c.ev e = .bool t → BS F lo (.code (if t then a else b)) e H x e1 H1 → BS F lo (.code (.cond c a b)) e H x e1 H1
  | block {lo id c e H e1 H1 x} : BS F lo (.code c) e H x e1 H1 → BS F lo (.code (.block id c)) e H (x.out id) e1 H1
  | loop {lo c e H e1 H1 x} : BS F lo (.lp c) e H x e1 H1 → BS F lo (.code (.loop c)) e H x e1 H1
  | lpN {lo c e H e1 H1 x e2 H2} : BS F lo (.code c) e H .n e1 H1 → BS F lo (.lp c) e1 H1 x e2 H2 → BS F lo (.lp c) e H x e2 H2
  | lpX {lo c e H e1 H1 x} : x ≠ .n → BS F lo (.code c) e H x e1 H1 → BS F lo (.lp c) e H x e1 H1
  | exit {lo id e H} : BS F lo (.code (.exit id)) e H (.e id) e H
  | ret {lo e H} : BS F lo (.code .ret) e H .r e H
  | nil {lo e H} : BS F lo (.ops []) e H .n e H
  | skp {lo o r e H e1 H1} : o.runs e = false → BS F lo (.ops r) (putE e o.dst undef) H .n e1 H1 → BS F lo (.ops (o :: r)) e H .n e1 H1
  | cons {lo o r e H e1 H1 e2 H2} : o.runs e = true → BS F lo (.op o.dst o.op) e H .n e1 H1 → BS F lo (.ops r) e1 H1 .n e2 H2 → BS F lo (.ops (o :: r)) e H .n e2 H2
  | pre0 {lo l e H e1 H1} : BS F lo (.ops l) e H .n e1 H1 → BS F lo (.pre 0 l) e H .n e1 H1
  | preSkp {lo p o r e H e1 H1} : o.runs e = false → BS F lo (.pre p r) (putE e o.dst undef) H .n e1 H1 → BS F lo (.pre (p + 1) (o :: r)) e H .n e1 H1
  | px0 {lo X l e H e1 H1} : BS F lo (.ops l) e H .n e1 H1 → BS F lo (.prx X 0 l) e H .n e1 H1
  | pxSkp {lo X p o r e H e1 H1} : o.runs e = false → BS F lo (.prx X p r) (putE e o.dst undef) H .n e1 H1 → BS F lo (.prx X (p + 1) (o :: r)) e H .n e1 H1
  | pxA {lo X p o r e H e1 L e2 H2} : o.runs e = true → isN o.op = false → BS F H.length (.op o.dst o.op) e (hide X H) .n e1 (hide X H ++ L) → BS F lo (.prx X p r) e1 (H ++ L) .n e2 H2 → BS F lo (.prx X (p + 1) (o :: r)) e H .n e2 H2
  | pxB {lo X p o r e H d v H1 e2 H2} (G : Heap → Heap) : o.runs e = true → isN o.op = true → o.dst = some d → scal v = true → H1.length = H.length → (∀ b, b ∉ X → H1[b]? = H[b]?) →
      (∀ (b : Nat) (k k' : Blk), H[b]? = some k → H1[b]? = some k' → ∀ (j : Nat) (v : Value), k'.cells[j]? = some v → k.cells[j]? = some v ∨ scal1 v = true) →
      (∀ E, BS F lo (.op o.dst o.op) e (H ++ E) .n (putE e o.dst v) (H1 ++ (E ++ G E))) → BS F lo (.prx X p r) (putE e o.dst v) H1 .n e2 H2 → BS F lo (.prx X (p + 1) (o :: r)) e H .n e2 H2
  | regX {lo X p l e H e1 H1} : (∀ b, b ∈ X → lo ≤ b ∧ b < H.length) → BS F lo (.prx X p l) e H .n e1 H1 → BS F lo (.code (.reg (some p) l)) e H .n e1 H1
  | preCons {lo p o r e H e1 H1 e2 H2} : o.runs e = true → BS F H.length (.op o.dst o.op) e H .n e1 H1 → BS F lo (.pre p r) e1 H1 .n e2 H2 → BS F lo (.pre (p + 1) (o :: r)) e H .n e2 H2
  | pw0 {lo o r e H e1 H1 e2 H2} : o.runs e = true → BS F lo (.op o.dst o.op) e H .n e1 H1 → BS F lo (.ops r) e1 H1 .n e2 H2 → BS F lo (.prw 0 (o :: r)) e H .n e2 H2
  | pwSkp {lo q o r e H e1 H1} : o.runs e = false → BS F lo (.prw q r) (putE e o.dst undef) H .n e1 H1 → BS F lo (.prw (q + 1) (o :: r)) e H .n e1 H1
  | pwCons {lo q o r e H e1 H1 e2 H2} : o.runs e = true → BS F H.length (.op o.dst o.op) e H .n e1 H1 → BS F lo (.prw q r) e1 H1 .n e2 H2 → BS F lo (.prw (q + 1) (o :: r)) e H .n e2 H2
  | regW {lo q l e H e1 H1} : BS F lo (.prw q l) e H .n e1 H1 → BS F lo (.code (.regW q l)) e H .n e1 H1
  | regV {lo q k l ov e H e1 e2 Hm e3 e4 H1} : frees lo H Hm q l e e1 → l[q]? = some ov → ov.guard = none → BS F lo (.op ov.dst ov.op) e1 H .n e2 Hm → frees lo H Hm k (l.drop (q + 1)) e2 e3 →
      BS F lo (.ops (l.drop (q + 1 + k))) e3 Hm .n e4 H1 → BS F lo (.code (.reg (some (q + 1 + k)) l)) e H .n e4 H1
  | prim {lo d o e H v H1} : iop lo o e H = some (v, H1) → BS F lo (.op d o) e H .n (putE e d v) H1
  | callN {lo d f args e H g first cap fn x e1 H1 v} : f.ev e = .func (.func g) first cap → F g = some fn →
      (first.toList ++ args.map (·.ev e) ++ cap.toList).length = fn.np →
      BS F lo (.code fn.body) (ini (first.toList ++ args.map (·.ev e) ++ cap.toList)) H x e1 H1 → (x = .n ∨ x = .r) → resV fn.res e1 H1 = some v →
      BS F lo (.op d (.call .n f args)) e H .n (putE e d v) H1
  | callK {lo d f args e H g first cap fn x e1 H1 v} : f.ev e = .func (.func g) first cap → F g = some fn →
      (first.toList ++ args.map (·.ev e) ++ cap.toList).length = fn.np →
      BS F H.length (.code fn.body) (ini (first.toList ++ args.map (·.ev e) ++ cap.toList)) H x e1 H1 → (x = .n ∨ x = .r) → resV fn.res e1 H1 = some v →
      BS F lo (.op d (.call .k f args)) e H .n (putE e d v) H1
  | callQ {lo d f args e H g first cap fn x e1 H1 v} : f.ev e = .func (.func g) first cap → F g = some fn →
      (first.toList ++ args.map (·.ev e) ++ cap.toList).length = fn.np →
      BS F H.length (.code fn.body) (ini (first.toList ++ args.map (·.ev e) ++ cap.toList)) H x e1 H1 → (x = .n ∨ x = .r) → resV fn.res e1 H1 = some v → scal v = true →
      BS F lo (.op d (.call .q f args)) e H .n (putE e d v) H


theorem hide_length (X : List Nat) (H : Heap) : (hide X H).length = H.length := List.length_mapIdx
theorem hide_get (X : List Nat) (H : Heap) (b : Nat) : (hide X H)[b]? = (H[b]?).map (hideB X b) := List.getElem?_mapIdx
theorem hide_get_ne {X : List Nat} {H : Heap} {b : Nat} (h : b ∉ X) : (hide X H)[b]? = H[b]? := by
  rw [hide_get]
  cases H[b]? with
  | none => rfl
  | some k => simp [hideB, h]
theorem hide_get_in {X : List Nat} {H : Heap} {b : Nat} (h : b ∈ X) : (hide X H)[b]? = (H[b]?).map (fun _ => ⟨[], 0, 0, false, false⟩) := by
  rw [hide_get]
  cases H[b]? with
  | none => rfl
  | some k => simp [hideB, h]
theorem hide_app {X : List Nat} {H : Heap} (L : Heap) (h : ∀ b, b ∈ X → b < H.length) : hide X (H ++ L) = hide X H ++ L := by
  refine List.ext_getElem? fun b => ?_
  by_cases hb : b < H.length
  · rw [List.getElem?_append_left (by rw [hide_length]; exact hb), hide_get, hide_get, List.getElem?_append_left hb]
  · have hX : b ∉ X := fun hx => hb (h b hx)
    rw [hide_get_ne hX, List.getElem?_append_right (by omega), List.getElem?_append_right (by rw [hide_length]; omega), hide_length]

end Go.Proofs.YtiekbdijpfnagaaI
end
section
/- How an ideal heap stands to the machine's memory. -/
set_option linter.unusedVariables false
namespace Go.Proofs.YtiekbdijpfnagaaI
open Go Go.RowKit

def All2 {α β : Type} (R : α → β → Prop) (xs : List α) (ys : List β) : Prop :=
  xs.length = ys.length ∧ ∀ (i : Nat) (x : α), xs[i]? = some x → ∃ y, ys[i]? = some y ∧ R x y

section
variable {α β : Type} {R R' : α → β → Prop} {xs xs' : List α} {ys ys' : List β}
theorem All2.nil : All2 R [] [] := ⟨rfl, by simp⟩
theorem All2.mono (h : All2 R xs ys) (hr : ∀ x y, x ∈ xs → R x y → R' x y) : All2 R' xs ys :=
  ⟨h.1, fun i x hx => let ⟨y, hy, r⟩ := h.2 i x hx; ⟨y, hy, hr _ _ (List.mem_of_getElem? hx) r⟩⟩
theorem All2.cons {x : α} {y : β} (r : R x y) (h : All2 R xs ys) : All2 R (x :: xs) (y :: ys) := by
  refine ⟨by simp [h.1], fun i z hz => ?_⟩
  cases i with
  | zero => simp only [List.getElem?_cons_zero, Option.some.injEq] at hz; subst hz; exact ⟨y, rfl, r⟩
  | succ i => exact h.2 i z (by simpa using hz)
theorem All2.append (h : All2 R xs ys) (h' : All2 R xs' ys') : All2 R (xs ++ xs') (ys ++ ys') := by
  refine ⟨by simp [h.1, h'.1], fun i z hz => ?_⟩
  rw [List.getElem?_append] at hz ⊢
  rw [← h.1]
  split at hz
  · rename_i hl; rw [if_pos hl]; exact h.2 i z hz
  · rename_i hl; rw [if_neg hl]; exact h'.2 _ z hz
theorem All2.drop (h : All2 R xs ys) (n : Nat) : All2 R (xs.drop n) (ys.drop n) := by
  refine ⟨by simp [h.1], fun i z hz => ?_⟩
  rw [List.getElem?_drop] at hz ⊢
  exact h.2 _ z hz
theorem All2.take (h : All2 R xs ys) (n : Nat) : All2 R (xs.take n) (ys.take n) := by
  refine ⟨by simp [h.1], fun i z hz => ?_⟩
  rw [List.getElem?_take] at hz ⊢
  split at hz
  · rename_i hl; rw [if_pos hl]; exact h.2 _ z hz
  · cases hz
theorem All2.set (h : All2 R xs ys) (n : Nat) {x : α} {y : β} (r : R x y) : All2 R (xs.set n x) (ys.set n y) := by
  refine ⟨by simp [h.1], fun i z hz => ?_⟩
  rw [List.getElem?_set] at hz ⊢
  rw [← h.1]
  split at hz
  · rename_i hl
    rw [if_pos hl]
    split at hz
    · rename_i h2; rw [if_pos h2]; simp only [Option.some.injEq] at hz; subst hz; exact ⟨y, rfl, r⟩
    · cases hz
  · rename_i hl; rw [if_neg hl]; exact h.2 _ z hz
theorem All2.mem_right (h : All2 R xs ys) {y : β} (hy : y ∈ ys) : ∃ x ∈ xs, R x y := by
  obtain ⟨i, hi⟩ := List.mem_iff_getElem?.1 hy
  have hl : i < xs.length := by rw [h.1]; exact (List.getElem?_eq_some_iff.1 hi).1
  obtain ⟨y', hy', r⟩ := h.2 i xs[i] (List.getElem?_eq_getElem hl)
  rw [hi] at hy'
  cases hy'
  exact ⟨_, List.getElem_mem hl, r⟩
theorem All2.map {γ : Type} {f : γ → α} {g : γ → β} (l : List γ) (h : ∀ c ∈ l, R (f c) (g c)) : All2 R (l.map f) (l.map g) := by
  refine ⟨by simp, fun i z hz => ?_⟩
  rw [List.getElem?_map] at hz ⊢
  cases hc : l[i]? with
  | none => rw [hc] at hz; cases hz
  | some c => rw [hc] at hz; simp only [Option.map_some, Option.some.injEq] at hz; subst hz; exact ⟨_, rfl, h c (List.mem_of_getElem? hc)⟩
theorem All2.replicate (n : Nat) {x : α} {y : β} (r : R x y) : All2 R (List.replicate n x) (List.replicate n y) := by
  induction n with
  | zero => exact All2.nil
  | succ n ih => simp only [List.replicate_succ]; exact All2.cons r ih
end

structure MB where
  blk : Nat
  off : Nat
  es : Nat
  et : Nat
  cp : Nat

abbrev MM := Nat → Option MB

def VR0 (m : MM) : Value → Value → Prop
  | .bool b, v' => v' = .bool b
  | .int k n, v' => v' = .int k n
  | .string s, v' => v' = .string s
  | .nilFunc, v' => v' = .nilFunc
  | .pointer none, v' => v' = .pointer none
  | .pointer (some a), v' => ∃ x, m a.block = some x ∧ a.spot = none ∧ v' = .pointer (some ⟨x.blk, x.off + a.off, none⟩)
  | .slice none n _, v' => n = 0 ∧ v' = .slice none 0 0
  | .slice (some a) n _, v' => (∃ x, m a.block = some x ∧ a.spot = none ∧
      ∃ c', v' = .slice (some ⟨x.blk, x.off + a.off, none⟩) n c' ∧ n ≤ c' ∧ (a.off = 0 → c' * x.es ≤ x.cp)) ∨ (n = 0 ∧ 0 < a.off ∧ ∃ A c', v' = .slice A 0 c')
  | _, _ => False

def VR1 (m : MM) (v v' : Value) : Prop :=
  VR0 m v v' ∨ ∃ g f c f' c', v = .func (.func g) f c ∧ v' = .func (.func g) f' c' ∧ All2 (VR0 m) f.toList f'.toList ∧ All2 (VR0 m) c.toList c'.toList

def VA (m : MM) (v v' : Value) : Prop := VR1 m v v' ∨ ∃ cs cs', v = .agg cs ∧ v' = .agg cs' ∧ All2 (VR1 m) cs.toList cs'.toList

def VR (m : MM) (v v' : Value) : Prop := VA m v v' ∨ ∃ vs vs', v = .tuple vs ∧ v' = .tuple vs' ∧ All2 (VA m) vs.toList vs'.toList

def MM.sub (m m' : MM) : Prop := ∀ b x, m b = some x → m' b = some x

theorem VR0.mono {m m' : MM} (h : m.sub m') {v v' : Value} (r : VR0 m v v') : VR0 m' v v' := by
  cases v with
  | pointer a => cases a with
    | none => exact r
    | some a => obtain ⟨x, hx, r⟩ := r; exact ⟨x, h _ _ hx, r⟩
  | slice a n c => cases a with
    | none => exact r
    | some a =>
      rcases r with ⟨x, hx, r⟩ | r
      · exact .inl ⟨x, h _ _ hx, r⟩
      · exact .inr r
  | _ => exact r
theorem VR1.mono {m m' : MM} (h : m.sub m') {v v' : Value} (r : VR1 m v v') : VR1 m' v v' := by
  rcases r with r | ⟨g, f, c, f', c', rfl, rfl, r1, r2⟩
  · exact .inl (VR0.mono h r)
  · exact .inr ⟨g, f, c, f', c', rfl, rfl, r1.mono fun _ _ _ => VR0.mono h, r2.mono fun _ _ _ => VR0.mono h⟩
theorem VA.mono {m m' : MM} (h : m.sub m') {v v' : Value} (r : VA m v v') : VA m' v v' := by
  rcases r with r | ⟨cs, cs', rfl, rfl, r⟩
  · exact .inl (VR1.mono h r)
  · exact .inr ⟨cs, cs', rfl, rfl, r.mono fun _ _ _ => VR1.mono h⟩
theorem VR.mono {m m' : MM} (h : m.sub m') {v v' : Value} (r : VR m v v') : VR m' v v' := by
  rcases r with r | ⟨cs, cs', rfl, rfl, r⟩
  · exact .inl (VA.mono h r)
  · exact .inr ⟨cs, cs', rfl, rfl, r.mono fun _ _ _ => VA.mono h⟩
theorem VR.of1 {m : MM} {v v' : Value} (r : VR1 m v v') : VR m v v' := .inl (.inl r)
theorem VR.of0 {m : MM} {v v' : Value} (r : VR0 m v v') : VR m v v' := .inl (.inl (.inl r))

theorem VR0.one_right {m : MM} {v v' : Value} (r : VR0 m v v') : v'.oneCell' = true := by
  cases v with
  | pointer a => cases a with
    | none => cases r; rfl
    | some a => obtain ⟨x, hx, _, rfl⟩ := r; rfl
  | slice a n c => cases a with
    | none => obtain ⟨_, rfl⟩ := r; rfl
    | some a =>
      rcases r with ⟨x, hx, _, c', rfl, _⟩ | ⟨_, _, A, c', rfl⟩ <;> rfl
  | bool => cases r; rfl
  | int => cases r; rfl
  | string => cases r; rfl
  | nilFunc => cases r; rfl
  | _ => exact r.elim
theorem VR1.one_right {m : MM} {v v' : Value} (r : VR1 m v v') : v'.oneCell' = true := by
  rcases r with r | ⟨g, f, c, f', c', rfl, rfl, r1, r2⟩
  · exact VR0.one_right r
  · rfl
theorem VR1.one_left {m : MM} {v v' : Value} (r : VR1 m v v') : one v = true := by
  rcases r with r | ⟨g, f, c, f', c', rfl, rfl, r1, r2⟩
  · cases v <;> first | rfl | exact r.elim
  · rfl
theorem VA.to1 {m : MM} {v v' : Value} (r : VA m v v') (h : one v = true) : VR1 m v v' := by
  rcases r with r | ⟨cs, cs', rfl, rfl, r⟩
  · exact r
  · simp [one] at h
theorem VR.to1 {m : MM} {v v' : Value} (r : VR m v v') (h : one v = true) : VR1 m v v' := by
  rcases r with r | ⟨cs, cs', rfl, rfl, r⟩
  · exact VA.to1 r h
  · simp [one] at h

/-- The cells of related values are related. -/
theorem cells_one {v : Value} (h : one v = true) : v.cells = #[v] := by cases v <;> simp_all [one, Value.cells]
theorem cells_one' {v : Value} (h : v.oneCell' = true) : v.cells = #[v] := by cases v <;> simp_all [Value.oneCell', Value.cells]
theorem VA.cells {m : MM} {v v' : Value} (r : VA m v v') : All2 (VR1 m) v.cells.toList v'.cells.toList := by
  rcases r with r | ⟨cs, cs', rfl, rfl, r⟩
  · rw [cells_one (VR1.one_left r), cells_one' (VR1.one_right r)]
    exact All2.cons r All2.nil
  · exact r
theorem VR.cells {m : MM} {v v' : Value} (r : VR m v v') (h : v.cells.toList.all one = true) : All2 (VR1 m) v.cells.toList v'.cells.toList := by
  rcases r with r | ⟨cs, cs', rfl, rfl, r⟩
  · exact VA.cells r
  · simp [Value.cells, one] at h

/-- What a value of a known shape stands to. -/
theorem VR.int {m : MM} {k : IntKind} {n : Int} {v' : Value} (r : VR m (.int k n) v') : v' = .int k n := by
  rcases r.to1 rfl with r | ⟨g, f, c, f', c', e, _⟩
  · exact r
  · cases e
theorem VR.bool {m : MM} {n : Bool} {v' : Value} (r : VR m (.bool n) v') : v' = .bool n := by
  rcases r.to1 rfl with r | ⟨g, f, c, f', c', e, _⟩
  · exact r
  · cases e
theorem VR.ptr {m : MM} {a : Addr} {v' : Value} (r : VR m (.pointer (some a)) v') : ∃ x, m a.block = some x ∧ a.spot = none ∧ v' = .pointer (some ⟨x.blk, x.off + a.off, none⟩) := by
  rcases r.to1 rfl with r | ⟨g, f, c, f', c', e, _⟩
  · exact r
  · cases e
theorem VR.slN {m : MM} {n c : Nat} {v' : Value} (r : VR m (.slice none n c) v') : n = 0 ∧ v' = .slice none 0 0 := by
  rcases r.to1 rfl with r | ⟨g, f, c, f', c', e, _⟩
  · exact r
  · cases e
theorem VR.sl {m : MM} {a : Addr} {n c : Nat} {v' : Value} (r : VR m (.slice (some a) n c) v') : (∃ x, m a.block = some x ∧ a.spot = none ∧
      ∃ c', v' = .slice (some ⟨x.blk, x.off + a.off, none⟩) n c' ∧ n ≤ c' ∧ (a.off = 0 → c' * x.es ≤ x.cp)) ∨ (n = 0 ∧ 0 < a.off ∧ ∃ A c', v' = .slice A 0 c') := by
  rcases r.to1 rfl with r | ⟨g, f, c, f', c', e, _⟩
  · exact r
  · cases e
theorem VR.func {m : MM} {g : Nat} {f c : Array Value} {v' : Value} (r : VR m (.func (.func g) f c) v') : ∃ f' c', v' = .func (.func g) f' c' ∧ All2 (VR0 m) f.toList f'.toList ∧ All2 (VR0 m) c.toList c'.toList := by
  rcases r.to1 rfl with r | ⟨g, f, c, f', c', e, rfl, r1, r2⟩
  · exact r.elim
  · cases e; exact ⟨f', c', rfl, r1, r2⟩
theorem VR.agg {m : MM} {cs : Array Value} {v' : Value} (r : VR m (.agg cs) v') : ∃ cs', v' = .agg cs' ∧ All2 (VR1 m) cs.toList cs'.toList := by
  rcases r with (r | ⟨cs, cs', e, rfl, r⟩) | ⟨cs, cs', e, rfl, r⟩
  · have := r.one_left; simp [one] at this
  · cases e; exact ⟨_, rfl, r⟩
  · cases e
theorem VR.tup {m : MM} {cs : Array Value} {v' : Value} (r : VR m (.tuple cs) v') : ∃ cs', v' = .tuple cs' ∧ All2 (VA m) cs.toList cs'.toList := by
  rcases r with (r | ⟨cs, cs', e, rfl, r⟩) | ⟨cs, cs', e, rfl, r⟩
  · have := r.one_left; simp [one] at this
  · cases e
  · cases e; exact ⟨_, rfl, r⟩

structure Sim (lo base : Nat) (m : MM) (H : Heap) (h : Array Obj) : Prop where
  dom : ∀ b x, m b = some x → b < H.length
  cell : ∀ b x k, m b = some x → H[b]? = some k → ∃ cs t fr, h[x.blk]? = some (.cells cs t fr) ∧ ∀ (j : Nat) (v : Value), k.cells[j]? = some v → ∃ v', cs[x.off + j]? = some v' ∧ VR1 m v v'
  own : ∀ b x k, lo ≤ b → m b = some x → H[b]? = some k → base ≤ x.blk ∧ x.off = 0 ∧ (k.app = true → x.es = k.es ∧ x.et = k.et) ∧ ∃ cs, h[x.blk]? = some (.cells cs x.et (0, 0)) ∧ cs.size = x.cp
  sep : ∀ b b' x x' k k', b ≠ b' → lo ≤ b → lo ≤ b' → m b = some x → m b' = some x' → H[b]? = some k → H[b']? = some k' → x.blk = x'.blk →
    (k.cells = [] ∨ k'.cells = [] ∨ (k.solo = false ∧ k'.solo = false)) ∧ (k.app = true → k'.app = false ∧ k'.cells.length ≤ k.cells.length)
  old : ∀ b x, b < lo → m b = some x → x.blk < base
  bnd : base ≤ h.size
  low : lo ≤ H.length
  zc : ∀ b x k, m b = some x → H[b]? = some k → k.app = true → k.cells = [] → x.off = 0 ∧ x.es = k.es ∧ x.cp = 0

/-- Agreement below a number of ideal blocks. -/
def MM.agree (n : Nat) (m m' : MM) : Prop := ∀ b, b < n → m' b = m b
theorem MM.agree.sub {n : Nat} {m m' : MM} (h : MM.agree n m m') (hd : ∀ b x, m b = some x → b < n) : m.sub m' := fun b x hx => (h b (hd b x hx)).trans hx
theorem MM.agree.refl (n : Nat) (m : MM) : MM.agree n m m := fun _ _ => rfl
theorem MM.agree.trans {n n' : Nat} {m m' m'' : MM} (h : MM.agree n m m') (h' : MM.agree n' m' m'') (hn : n ≤ n') : MM.agree n m m'' := fun b hb => (h' b (by omega)).trans (h b hb)

def MM.put (m : MM) (b : Nat) (x : MB) : MM := fun i => if i = b then some x else m i
theorem MM.put_agree (m : MM) (n : Nat) (x : MB) : MM.agree n m (m.put n x) := fun b hb => by simp [MM.put, Nat.ne_of_lt hb]
theorem MM.put_self (m : MM) (b : Nat) (x : MB) : (m.put b x) b = some x := by simp [MM.put]
theorem MM.put_eq {m : MM} {b i : Nat} {x y : MB} (h : (m.put b x) i = some y) : (i = b ∧ x = y) ∨ (i ≠ b ∧ m i = some y) := by
  unfold MM.put at h
  split at h
  · exact .inl ⟨‹_›, by simpa using h⟩
  · exact .inr ⟨‹_›, h⟩

theorem get_snoc {H : Heap} {k k' : Blk} {b : Nat} (h : (H ++ [k])[b]? = some k') : (b < H.length ∧ H[b]? = some k') ∨ (b = H.length ∧ k' = k) := by
  rw [List.getElem?_append] at h
  split at h
  · exact .inl ⟨‹_›, h⟩
  · rename_i hb
    rcases Nat.eq_or_lt_of_le (Nat.le_of_not_lt hb) with he | hl
    · subst he; simp only [Nat.sub_self, List.getElem?_cons_zero, Option.some.injEq] at h; exact .inr ⟨rfl, h.symm⟩
    · rw [List.getElem?_eq_none (by simp; omega)] at h; cases h

/-- A new block of the run's own. -/
theorem Sim.snoc {lo base : Nat} {m : MM} {H : Heap} {h : Array Obj} (s : Sim lo base m H h) (k : Blk) (cs : Array Value) (x : MB)
    (hx : x.blk = h.size) (ho : x.off = 0) (he : x.es = k.es) (ht : k.app = true → x.et = k.et) (hc : cs.size = x.cp) (hz : k.app = true → k.cells = [] → x.cp = 0)
    (hv : ∀ (j : Nat) (v : Value), k.cells[j]? = some v → ∃ v', cs[j]? = some v' ∧ VR1 m v v') :
    Sim lo base (m.put H.length x) (H ++ [k]) (h.push (.cells cs x.et (0, 0))) := by
  have hag := MM.put_agree m H.length x
  have hsub := hag.sub s.dom
  have hnew : (h.push (.cells cs x.et (0, 0)))[x.blk]? = some (.cells cs x.et (0, 0)) := by rw [hx]; simp
  have hold : ∀ c o, h[c]? = some o → (h.push (.cells cs x.et (0, 0)))[c]? = some o := fun c o hc => by
    have : c < h.size := (Array.getElem?_eq_some_iff.1 hc).1
    rw [Array.getElem?_push_lt this]; rw [Array.getElem?_eq_getElem this] at hc; exact hc
  have hlt : ∀ b y k, m b = some y → H[b]? = some k → y.blk < h.size := fun b y k hm hk => by
    obtain ⟨cs, t, fr, hcs, _⟩ := s.cell b y k hm hk
    exact (Array.getElem?_eq_some_iff.1 hcs).1
  refine ⟨?_, ?_, ?_, ?_, ?_, ?_, ?_, ?_⟩
  · intro b y hy
    rcases MM.put_eq hy with ⟨rfl, _⟩ | ⟨_, hy⟩
    · simp
    · have := s.dom b y hy; simp; omega
  · intro b y k' hy hk
    rcases MM.put_eq hy with ⟨rfl, rfl⟩ | ⟨hb, hy⟩
    · rcases get_snoc hk with ⟨hl, _⟩ | ⟨_, rfl⟩
      · omega
      · refine ⟨cs, _, _, hnew, fun j v hj => ?_⟩
        obtain ⟨v', hv', r⟩ := hv j v hj
        exact ⟨v', by rw [ho, Nat.zero_add]; exact hv', VR1.mono hsub r⟩
    · rcases get_snoc hk with ⟨hl, hk⟩ | ⟨rfl, _⟩
      · obtain ⟨cs', t, fr, hcs, r⟩ := s.cell b y k' hy hk
        exact ⟨cs', t, fr, hold _ _ hcs, fun j v hj => let ⟨v', h1, h2⟩ := r j v hj; ⟨v', h1, VR1.mono hsub h2⟩⟩
      · exact absurd rfl hb
  · intro b y k' hlo hy hk
    rcases MM.put_eq hy with ⟨rfl, rfl⟩ | ⟨hb, hy⟩
    · rcases get_snoc hk with ⟨hl, _⟩ | ⟨_, rfl⟩
      · omega
      · exact ⟨by rw [hx]; exact s.bnd, ho, fun ha => ⟨he, ht ha⟩, cs, hnew, hc⟩
    · rcases get_snoc hk with ⟨hl, hk⟩ | ⟨rfl, _⟩
      · obtain ⟨h1, h2, h3, cs', h4, h5⟩ := s.own b y k' hlo hy hk
        exact ⟨h1, h2, h3, cs', hold _ _ h4, h5⟩
      · exact absurd rfl hb
  · intro b b' y y' k1 k2 hne hlo hlo' hy hy' hk hk' he'
    rcases MM.put_eq hy with ⟨rfl, rfl⟩ | ⟨hb, hy⟩
    · rcases MM.put_eq hy' with ⟨rfl, _⟩ | ⟨hb', hy'⟩
      · exact absurd rfl hne
      · rcases get_snoc hk' with ⟨hl, hk'⟩ | ⟨rfl, _⟩
        · have := hlt b' y' k2 hy' hk'; omega
        · exact absurd rfl hb'
    · rcases MM.put_eq hy' with ⟨rfl, rfl⟩ | ⟨hb', hy'⟩
      · rcases get_snoc hk with ⟨hl, hk⟩ | ⟨rfl, _⟩
        · have := hlt b y k1 hy hk; omega
        · exact absurd rfl hb
      · rcases get_snoc hk with ⟨hl, hk⟩ | ⟨rfl, _⟩
        · rcases get_snoc hk' with ⟨hl', hk'⟩ | ⟨rfl, _⟩
          · exact s.sep b b' y y' k1 k2 hne hlo hlo' hy hy' hk hk' he'
          · exact absurd rfl hb'
        · exact absurd rfl hb
  · intro b y hlo hy
    rcases MM.put_eq hy with ⟨rfl, rfl⟩ | ⟨hb, hy⟩
    · have := s.low; omega
    · exact s.old b y hlo hy
  · simp; have := s.bnd; omega
  · have := s.low; simp; omega
  · intro b y k' hy hk ha hc
    rcases MM.put_eq hy with ⟨rfl, rfl⟩ | ⟨hb, hy⟩
    · rcases get_snoc hk with ⟨hl, _⟩ | ⟨_, rfl⟩
      · omega
      · exact ⟨ho, he, hz ha hc⟩
    · rcases get_snoc hk with ⟨hl, hk⟩ | ⟨rfl, _⟩
      · exact s.zc b y k' hy hk ha hc
      · exact absurd rfl hb

theorem get_set {H : Heap} {k k' : Blk} {b i : Nat} (h : (H.set b k)[i]? = some k') : (i = b ∧ k' = k ∧ b < H.length) ∨ (i ≠ b ∧ H[i]? = some k') := by
  rw [List.getElem?_set] at h
  split at h
  · split at h
    · exact .inl ⟨by omega, by simpa using h.symm, by assumption⟩
    · cases h
  · exact .inr ⟨by omega, h⟩

theorem Sim.lt {lo base : Nat} {m : MM} {H : Heap} {h : Array Obj} (s : Sim lo base m H h) {b : Nat} {x : MB} {k : Blk} (hm : m b = some x) (hk : H[b]? = some k) : x.blk < h.size := by
  obtain ⟨cs, t, fr, hcs, _⟩ := s.cell b x k hm hk
  exact (Array.getElem?_eq_some_iff.1 hcs).1

/-- Cells of one of the run's own blocks are written. -/
theorem Sim.upd {lo base : Nat} {m : MM} {H : Heap} {h h' : Array Obj} (s : Sim lo base m H h) {b : Nat} {x : MB} {k : Blk} (hb : lo ≤ b) (hm : m b = some x) (hk : H[b]? = some k)
    (hs : k.solo = true) (hne : k.cells ≠ []) (kc : List Value) (hl : kc.length = k.cells.length) (cs' : Array Value) (hsz : h'.size = h.size)
    (h1 : h'[x.blk]? = some (.cells cs' x.et (0, 0))) (h2 : ∀ c, c ≠ x.blk → h'[c]? = h[c]?) (hcp : cs'.size = x.cp)
    (hv : ∀ (j : Nat) (v : Value), kc[j]? = some v → ∃ v', cs'[j]? = some v' ∧ VR1 m v v') : Sim lo base m (H.set b { k with cells := kc }) h' := by
  obtain ⟨o1, o2, o3, ocs, o4, o5⟩ := s.own b x k hb hm hk
  have hdisj : ∀ b' x' k', b' ≠ b → m b' = some x' → H[b']? = some k' → x'.blk = x.blk → lo ≤ b' ∧ k'.cells = [] := by
    intro b' x' k' hne' hm' hk' he
    rcases Nat.lt_or_ge b' lo with hl | hl
    · have := s.old b' x' hl hm'; omega
    · refine ⟨hl, ?_⟩
      rcases (s.sep b b' x x' k k' (Ne.symm hne') hb hl hm hm' hk hk' he.symm).1 with h | h | ⟨h, _⟩
      · exact absurd h hne
      · exact h
      · rw [hs] at h; cases h
  refine ⟨?_, ?_, ?_, ?_, ?_, ?_, ?_, ?_⟩
  · intro b' y hy; have := s.dom b' y hy; simpa using this
  · intro b' y k' hy hk'
    rcases get_set hk' with ⟨rfl, rfl, _⟩ | ⟨hb', hk'⟩
    · rw [hm] at hy; cases hy
      exact ⟨cs', _, _, h1, fun j v hj => let ⟨v', a, r⟩ := hv j v hj; ⟨v', by rw [o2, Nat.zero_add]; exact a, r⟩⟩
    · by_cases he : y.blk = x.blk
      · obtain ⟨_, hc⟩ := hdisj b' y k' hb' hy hk' he
        exact ⟨cs', _, _, by rw [he]; exact h1, fun j v hj => by rw [hc] at hj; simp at hj⟩
      · rw [h2 _ he]; exact s.cell b' y k' hy hk'
  · intro b' y k' hlo hy hk'
    rcases get_set hk' with ⟨rfl, rfl, _⟩ | ⟨hb', hk'⟩
    · rw [hm] at hy; cases hy
      exact ⟨o1, o2, o3, cs', h1, hcp⟩
    · obtain ⟨p1, p2, p3, pcs, p4, p5⟩ := s.own b' y k' hlo hy hk'
      by_cases he : y.blk = x.blk
      · rw [he] at p4
        rw [o4] at p4
        simp only [Option.some.injEq, Obj.cells.injEq] at p4
        obtain ⟨q1, q2, _⟩ := p4
        refine ⟨p1, p2, p3, cs', by rw [he, ← q2]; exact h1, ?_⟩
        rw [hcp, ← o5, q1, p5]
      · exact ⟨p1, p2, p3, pcs, by rw [h2 _ he]; exact p4, p5⟩
  · intro b1 b2 y1 y2 k1 k2 hn l1 l2 m1 m2 g1 g2 he
    rcases get_set g1 with ⟨rfl, rfl, _⟩ | ⟨n1, f1⟩
    · rcases get_set g2 with ⟨rfl, _⟩ | ⟨n2, f2⟩
      · exact absurd rfl hn
      · rw [hm] at m1; cases m1
        obtain ⟨_, hc⟩ := hdisj b2 y2 k2 n2 m2 f2 he.symm
        exact ⟨.inr (.inl hc), fun ha => ⟨((s.sep _ _ _ _ _ _ hn l1 l2 hm m2 hk f2 he).2 ha).1, by simp [hc]⟩⟩
    · rcases get_set g2 with ⟨rfl, rfl, _⟩ | ⟨n2, f2⟩
      · rw [hm] at m2; cases m2
        obtain ⟨_, hc⟩ := hdisj b1 y1 k1 n1 m1 f1 he
        refine ⟨.inl hc, fun ha => ?_⟩
        have := (s.sep _ _ _ _ _ _ hn l1 l2 m1 hm f1 hk he).2 ha
        rw [hc] at this
        exact absurd (List.eq_nil_of_length_eq_zero (by simpa using this.2)) hne
      · exact s.sep b1 b2 y1 y2 k1 k2 hn l1 l2 m1 m2 f1 f2 he
  · exact s.old
  · rw [hsz]; exact s.bnd
  · have := s.low; simpa using this
  · intro b' y k' hy hk' ha hc
    rcases get_set hk' with ⟨rfl, rfl, _⟩ | ⟨_, hk'⟩
    · exact absurd (List.eq_nil_of_length_eq_zero (by rw [← hl, show kc = [] from hc]; rfl)) hne
    · exact s.zc b' y k' hy hk' ha hc

/-- A block gives up what it may. -/
theorem Sim.flag {lo base : Nat} {m : MM} {H : Heap} {h : Array Obj} (s : Sim lo base m H h) {b : Nat} {k : Blk} (hk : H[b]? = some k) (so : Bool) (hso : so = true → k.solo = true)
    (kc : List Value) (hkc : kc = k.cells ∨ kc = []) : Sim lo base m (H.set b { k with app := false, solo := so, cells := kc }) h := by
  refine ⟨?_, ?_, ?_, ?_, ?_, ?_, ?_, ?_⟩
  · intro b' y hy; have := s.dom b' y hy; simpa using this
  · intro b' y k' hy hk'
    rcases get_set hk' with ⟨rfl, rfl, _⟩ | ⟨hb', hk'⟩
    · obtain ⟨cs, t, fr, h1, h2⟩ := s.cell b' y k hy hk
      refine ⟨cs, t, fr, h1, fun j v hj => ?_⟩
      rcases hkc with rfl | rfl
      · exact h2 j v hj
      · simp at hj
    · exact s.cell b' y k' hy hk'
  · intro b' y k' hlo hy hk'
    rcases get_set hk' with ⟨rfl, rfl, _⟩ | ⟨hb', hk'⟩
    · obtain ⟨p1, p2, p3, p4⟩ := s.own b' y k hlo hy hk
      exact ⟨p1, p2, fun hc => by simp at hc, p4⟩
    · exact s.own b' y k' hlo hy hk'
  · intro b1 b2 y1 y2 k1 k2 hn l1 l2 m1 m2 g1 g2 he
    rcases get_set g1 with ⟨rfl, rfl, _⟩ | ⟨n1, f1⟩
    · rcases get_set g2 with ⟨rfl, _⟩ | ⟨n2, f2⟩
      · exact absurd rfl hn
      · obtain ⟨q, _⟩ := s.sep _ _ _ _ _ _ hn l1 l2 m1 m2 hk f2 he
        refine ⟨?_, fun hc => by simp at hc⟩
        rcases q with q | q | ⟨q1, q2⟩
        · left; rcases hkc with rfl | rfl
          · exact q
          · rfl
        · exact .inr (.inl q)
        · right; right
          refine ⟨?_, q2⟩
          show so = false
          cases so with
          | false => rfl
          | true => rw [hso rfl] at q1; cases q1
    · rcases get_set g2 with ⟨rfl, rfl, _⟩ | ⟨n2, f2⟩
      · obtain ⟨q, q'⟩ := s.sep _ _ _ _ _ _ hn l1 l2 m1 m2 f1 hk he
        refine ⟨?_, fun hc => ⟨rfl, ?_⟩⟩
        · rcases q with q | q | ⟨q1, q2⟩
          · exact .inl q
          · right; left; rcases hkc with rfl | rfl
            · exact q
            · rfl
          · right; right
            refine ⟨q1, ?_⟩
            show so = false
            cases so with
            | false => rfl
            | true => rw [hso rfl] at q2; cases q2
        · rcases hkc with rfl | rfl
          · exact (q' hc).2
          · simp
      · exact s.sep b1 b2 y1 y2 k1 k2 hn l1 l2 m1 m2 f1 f2 he
  · exact s.old
  · exact s.bnd
  · have := s.low; simpa using this
  · intro b' y k' hy hk' ha hc
    rcases get_set hk' with ⟨rfl, rfl, _⟩ | ⟨_, hk'⟩
    · cases ha
    · exact s.zc b' y k' hy hk' ha hc

/-- A new block that lies where an old one did. -/
theorem Sim.place {lo base : Nat} {m : MM} {H : Heap} {h h' : Array Obj} (s : Sim lo base m H h) (x : MB) (nk : Blk) (cs cs' : Array Value) (L : Nat)
    (hb : base ≤ x.blk) (h0 : x.off = 0) (he : x.es = nk.es) (ht : x.et = nk.et) (hg : h[x.blk]? = some (.cells cs x.et (0, 0))) (hcs : cs.size = x.cp)
    (hsz : h'.size = h.size) (h1 : h'[x.blk]? = some (.cells cs' x.et (0, 0))) (h2 : ∀ c, c ≠ x.blk → h'[c]? = h[c]?) (hcp : cs'.size = x.cp)
    (hpre : ∀ j, j < L → cs'[j]? = cs[j]?) (hL : L ≤ nk.cells.length) (hnn : nk.cells ≠ [])
    (hv : ∀ (j : Nat) (v : Value), nk.cells[j]? = some v → ∃ v', cs'[j]? = some v' ∧ VR1 m v v')
    (hsh : ∀ b y k, lo ≤ b → m b = some y → H[b]? = some k → y.blk = x.blk → k.app = false ∧ k.cells.length ≤ L ∧ (k.cells = [] ∨ (k.solo = false ∧ nk.solo = false))) :
    Sim lo base (m.put H.length x) (H ++ [nk]) h' := by
  have hag := MM.put_agree m H.length x
  have hsub := hag.sub s.dom
  have holdne : ∀ b y, b < lo → m b = some y → y.blk ≠ x.blk := fun b y hl hm e => by have := s.old b y hl hm; omega
  refine ⟨?_, ?_, ?_, ?_, ?_, ?_, ?_, ?_⟩
  · intro b y hy
    rcases MM.put_eq hy with ⟨rfl, _⟩ | ⟨_, hy⟩
    · simp
    · have := s.dom b y hy; simp; omega
  · intro b y k' hy hk
    rcases MM.put_eq hy with ⟨rfl, rfl⟩ | ⟨hb', hy⟩
    · rcases get_snoc hk with ⟨hl, _⟩ | ⟨_, rfl⟩
      · omega
      · refine ⟨cs', _, _, h1, fun j v hj => ?_⟩
        obtain ⟨v', hv', r⟩ := hv j v hj
        exact ⟨v', by rw [h0, Nat.zero_add]; exact hv', VR1.mono hsub r⟩
    · rcases get_snoc hk with ⟨hl, hk⟩ | ⟨rfl, _⟩
      · obtain ⟨cs1, t, fr, hcs1, r⟩ := s.cell b y k' hy hk
        by_cases he1 : y.blk = x.blk
        · have hlo : lo ≤ b := by
            rcases Nat.lt_or_ge b lo with hh | hh
            · exact absurd he1 (holdne b y hh hy)
            · exact hh
          obtain ⟨_, q2, _⟩ := hsh b y k' hlo hy hk he1
          obtain ⟨_, p2, _⟩ := s.own b y k' hlo hy hk
          rw [he1, hg] at hcs1
          simp only [Option.some.injEq, Obj.cells.injEq] at hcs1
          obtain ⟨rfl, rfl, rfl⟩ := hcs1
          refine ⟨cs', _, _, by rw [he1]; exact h1, fun j v hj => ?_⟩
          obtain ⟨v', a1, a2⟩ := r j v hj
          have hjl : j < k'.cells.length := (List.getElem?_eq_some_iff.1 hj).1
          refine ⟨v', ?_, VR1.mono hsub a2⟩
          rw [p2, Nat.zero_add] at a1 ⊢
          rw [hpre j (by omega)]; exact a1
        · exact ⟨cs1, t, fr, by rw [h2 _ he1]; exact hcs1, fun j v hj => let ⟨v', a1, a2⟩ := r j v hj; ⟨v', a1, VR1.mono hsub a2⟩⟩
      · exact absurd rfl hb'
  · intro b y k' hlo hy hk
    rcases MM.put_eq hy with ⟨rfl, rfl⟩ | ⟨hb', hy⟩
    · rcases get_snoc hk with ⟨hl, _⟩ | ⟨_, rfl⟩
      · omega
      · exact ⟨hb, h0, fun _ => ⟨he, ht⟩, cs', h1, hcp⟩
    · rcases get_snoc hk with ⟨hl, hk⟩ | ⟨rfl, _⟩
      · obtain ⟨p1, p2, p3, pcs, p4, p5⟩ := s.own b y k' hlo hy hk
        by_cases he1 : y.blk = x.blk
        · rw [he1, hg] at p4
          simp only [Option.some.injEq, Obj.cells.injEq] at p4
          obtain ⟨q1, q2, _⟩ := p4
          exact ⟨p1, p2, p3, cs', by rw [he1, ← q2]; exact h1, by rw [hcp, ← hcs, q1, p5]⟩
        · exact ⟨p1, p2, p3, pcs, by rw [h2 _ he1]; exact p4, p5⟩
      · exact absurd rfl hb'
  · intro b b' y y' k1 k2 hne hlo hlo' hy hy' hk hk' he'
    rcases MM.put_eq hy with ⟨rfl, rfl⟩ | ⟨hb1, hy⟩
    · rcases MM.put_eq hy' with ⟨rfl, _⟩ | ⟨hb', hy'⟩
      · exact absurd rfl hne
      · rcases get_snoc hk' with ⟨hl, fk'⟩ | ⟨rfl, _⟩
        · rcases get_snoc hk with ⟨hl, _⟩ | ⟨_, rfl⟩
          · omega
          · obtain ⟨q1, q2, q3⟩ := hsh b' y' k2 hlo' hy' fk' he'.symm
            refine ⟨?_, fun _ => ⟨q1, by omega⟩⟩
            rcases q3 with q3 | ⟨q3, q4⟩
            · exact .inr (.inl q3)
            · exact .inr (.inr ⟨q4, q3⟩)
        · exact absurd rfl hb'
    · rcases MM.put_eq hy' with ⟨rfl, rfl⟩ | ⟨hb', hy'⟩
      · rcases get_snoc hk with ⟨hl, fk⟩ | ⟨rfl, _⟩
        · rcases get_snoc hk' with ⟨hl, _⟩ | ⟨_, rfl⟩
          · omega
          · obtain ⟨q1, q2, q3⟩ := hsh b y k1 hlo hy fk he'
            refine ⟨?_, fun hc => by rw [q1] at hc; cases hc⟩
            rcases q3 with q3 | ⟨q3, q4⟩
            · exact .inl q3
            · exact .inr (.inr ⟨q3, q4⟩)
        · exact absurd rfl hb1
      · rcases get_snoc hk with ⟨hl, fk⟩ | ⟨rfl, _⟩
        · rcases get_snoc hk' with ⟨hl', fk'⟩ | ⟨rfl, _⟩
          · exact s.sep b b' y y' k1 k2 hne hlo hlo' hy hy' fk fk' he'
          · exact absurd rfl hb'
        · exact absurd rfl hb1
  · intro b y hlo hy
    rcases MM.put_eq hy with ⟨rfl, rfl⟩ | ⟨hb', hy⟩
    · have := s.low; omega
    · exact s.old b y hlo hy
  · rw [hsz]; exact s.bnd
  · have := s.low; simp; omega
  · intro b y k' hy hk ha hc
    rcases MM.put_eq hy with ⟨rfl, rfl⟩ | ⟨hb, hy⟩
    · rcases get_snoc hk with ⟨hl, _⟩ | ⟨_, rfl⟩
      · omega
      · exact absurd hc hnn
    · rcases get_snoc hk with ⟨hl, hk⟩ | ⟨rfl, _⟩
      · exact s.zc b y k' hy hk ha hc
      · exact absurd rfl hb

end Go.Proofs.YtiekbdijpfnagaaI
end
section
/- The given code is laid over to the ideal machine's; each operation of it does what the ideal one does. -/
set_option linter.unusedVariables false
set_option linter.unusedSimpArgs false
namespace Go.Proofs.YtiekbdijpfnagaaI
open Go Go.RowKit

def okC : Value → Bool
  | .bool _ | .int _ _ | .string _ | .nilFunc | .pointer none | .slice none 0 0 => true
  | _ => false

def cOpd : Operand → Option Opd
  | .tmp t => some (.t t)
  | .const v => if okC v then some (.c v) else none
  | .func f => some (.f f)
  | .global _ => none

def cOpds : List Operand → Option (List Opd)
  | [] => some []
  | x :: r => (cOpd x).bind fun x' => (cOpds r).map (x' :: ·)

structure CM where
  md : Nat → Mode
  mt : Mode
  kl : Bool

def isEqN : BinOp → Bool
  | .eql | .neq => true
  | _ => false
def isNeq : BinOp → Bool
  | .neq => true
  | _ => false

def isAggD : TypeDesc → Bool
  | .struct _ | .array _ _ => true
  | _ => false

/-- The parts of a struct that is built. -/
def cParts (P : Program) (place : Nat → Option (Nat × Nat)) : List (Nat × Operand) → Option (List (Nat × Nat × Opd))
  | [] => some []
  | (i, x) :: r => (place i).bind fun p => (cOpd x).bind fun x' => (cParts P place r).map ((p.1, p.2, x') :: ·)

def fplaces (P : Program) (fs : Array Field) : Option (List (Nat × Nat)) :=
  fs.toList.mapM fun f => (P.info? f.type).map fun i => (f.offset, i.size)

def flatInts (P : Program) (fs : Array Field) : Bool :=
  fs.toList.zipIdx.all fun (f, j) => f.name != "_" && f.offset == j && (P.underlying f.type matches some (.int _)) && (P.info? f.type).any (·.size == 1)

def cOptO : Option Operand → Option (Option Opd)
  | none => some none
  | some x => (cOpd x).map some

def cOp0 (P : Program) (c : CM) (o : Oper) : Option IOp :=
  match o.op with
  | .move x | .assign x => (cOpd x).map .mov
  | .pick x y z => (cOpd x).bind fun x' => (cOpd y).bind fun y' => (cOpd z).map (.pick x' y' ·)
  | .alloc t => (P.info? t).bind fun i => i.zero.bind fun z => if z.cells.toList.all okC then some (.new z.cells.toList) else none
  | .box t x => (cOpd x).map .box
  | .build t ps => (P.info? t).bind fun i => i.zero.bind fun z => match P.underlying t with
    | some (.struct fs) => if z.cells.toList.all okC then (fplaces P fs).bind fun pl => (cParts P (pl[·]?) ps.toList).map (.build z.cells.toList ·) else none
    | _ => none
  | .buildSlice t len ps => match P.underlying t with
    | some (.slice el) => (P.info? el).bind fun i => i.zero.bind fun z =>
      if len * i.size ≤ 2 ^ 24 ∧ 0 < i.size ∧ z.cells.toList.all okC = true ∧ z.cells.size = i.size then
        (cParts P (fun j => some (j * i.size, i.size)) ps.toList).map (.lit i.size el len ((Array.range (len * i.size)).map (z.cells[· % z.cells.size]!)).toList ·) else none
    | _ => none
  | .load t x => match P.underlying t with
    | some d => (P.info? t).bind fun i => if isAggD d = true ∨ i.size = 1 then (cOpd x).map (.load (isAggD d) i.size ·) else none
    | none => none
  | .store t x y => (P.info? t).bind fun i => if 0 < i.size then (cOpd x).bind fun x' => (cOpd y).map (.store i.size x' ·) else none
  | .nilCheck x => (cOpd x).map .nilck
  | .binOp op t x y _ => (cOpd x).bind fun x' => (cOpd y).bind fun y' => match P.underlying t with
    | some (.int _) => some (.bin op x' y')
    | some .bool => if isEqN op = true then some (.beq (isNeq op) x' y') else none
    | some (.struct fs) =>
      if isEqN op = true ∧ flatInts P fs = true ∧ P.stoodInHeld t = false ∧ P.eqGuardType P.depth t = false then some (.eqs (isNeq op) fs.size x' y') else none
    | _ => none
  | .unOp op _ x => if op matches .not | .neg then (cOpd x).map (.un op ·) else none
  | .convert s d x => match P.underlying s, P.underlying d with
    | some _, some (.int k) => (cOpd x).map (.conv k ·)
    | _, _ => none
  | .makeSlice t l n => match P.underlying t with
    | some (.slice el) => (P.info? el).bind fun i => i.zero.bind fun z =>
      if 0 < i.size ∧ z.cells.toList.all okC = true ∧ z.cells.size = i.size then
        (cOpd l).bind fun l' => (cOpd n).map (.mks i.size el i.bytes z.cells.toList l' ·) else none
    | _ => none
  | .slice t x l h none => match P.underlying t with
    | some (.slice el) => (P.info? el).bind fun i => if 0 < i.size then (cOpd x).bind fun x' => (cOptO l).bind fun l' => (cOptO h).map (.sub i.size x' l' ·) else none
    | _ => none
  | .fieldAddr s x f => match P.underlying s with
    | some (.struct fs) => fs[f]?.bind fun fd => (P.info? fd.type).bind fun i => if i.size = 0 then none else (cOpd x).map (.fad fd.offset ·)
    | _ => none
  | .field s x f => match P.underlying s with
    | some (.struct fs) => fs[f]?.bind fun fd => (P.info? fd.type).bind fun i => (P.underlying fd.type).bind fun d =>
        if isAggD d = true ∨ i.size = 1 then (cOpd x).map (.fld (isAggD d) fd.offset i.size ·) else none
    | _ => none
  | .indexAddr t x i => match P.underlying t with
    | some (.slice el) => (P.info? el).bind fun inf => (cOpd x).bind fun x' => (cOpd i).map (.iad inf.size x' ·)
    | _ => none
  | .extract x i => (cOpd x).map (.ext · i)
  | .makeFunc (.func f) a b => (cOpds a.toList).bind fun a' => (cOpds b.toList).map (.mkf f a' ·)
  | .call ⟨.builtin .len, args, ts⟩ => match args.toList, ts.toList with
    | [x], t :: _ => match P.underlying t with
      | some (.slice _) => (cOpd x).map .len
      | _ => none
    | _, _ => none
  | .call ⟨.builtin .max, args, ts⟩ => match args.toList with
    | [x, y] => (cOpd x).bind fun x' => (cOpd y).map (.max2 x' ·)
    | _ => none
  | .call ⟨.builtin .append, args, ts⟩ => match args.toList, ts.toList with
    | [x, y], [t, t'] => match P.underlying t with
      | some (.slice el) => (P.info? el).bind fun i => i.zero.bind fun z =>
        if t' = t ∧ 0 < i.size ∧ z.cells.size = i.size then
          (cOpd x).bind fun x' => (cOpd y).map (.app i.size el i.bytes c.kl x' ·) else none
      | _ => none
    | _, _ => none
  | _ => none

def notCall : IOp → Bool
  | .call .. => false
  | _ => true

def cOp (P : Program) (c : CM) (o : Oper) : Option IOp :=
  match o.op with
  | .call ⟨.value f, args, _⟩ => (cOpd f).bind fun f' => (cOpds args.toList).map (.call (match f' with | .f g => c.md g | _ => c.mt) f' ·)
  | _ => (cOp0 P c o).filter notCall

/-- What the machine's operands stand to. -/
def OkU (m : MM) (e : Env) (a : Act) (xs : Array Operand) : Prop := ∀ t, Operand.tmp t ∈ xs → VR m (e t) (a.eval (.tmp t))

theorem VR.okC {m : MM} {v : Value} (h : okC v = true) : VR m v v := by
  refine VR.of0 ?_
  cases v with
  | pointer a => cases a with
    | none => rfl
    | some a => simp [Go.Proofs.YtiekbdijpfnagaaI.okC] at h
  | slice a n c => cases a with
    | none =>
      simp only [Go.Proofs.YtiekbdijpfnagaaI.okC] at h
      split at h <;> first | exact ⟨rfl, rfl⟩ | cases h | skip
      all_goals simp_all
      all_goals exact ⟨rfl, rfl⟩
    | some a => simp [Go.Proofs.YtiekbdijpfnagaaI.okC] at h
  | _ => first | rfl | (simp [Go.Proofs.YtiekbdijpfnagaaI.okC] at h)

theorem VR1.okC {m : MM} {v : Value} (h : okC v = true) : VR1 m v v := (VR.okC h).to1 (by cases v <;> first | rfl | (simp [Go.Proofs.YtiekbdijpfnagaaI.okC] at h))

theorem OkU.ev {m : MM} {e : Env} {a : Act} {xs : Array Operand} (h : OkU m e a xs) {x : Operand} {x' : Opd} (hx : x ∈ xs) (hc : cOpd x = some x') : VR m (x'.ev e) (a.eval x) := by
  cases x with
  | tmp t => cases hc; exact h t hx
  | const v =>
    simp only [cOpd] at hc
    split at hc
    · cases hc; exact VR.okC ‹_›
    · cases hc
  | func f => cases hc; exact VR.of1 (.inr ⟨f, #[], #[], #[], #[], rfl, rfl, All2.nil, All2.nil⟩)
  | global g => cases hc

/-- What an operation of the machine must do: 'v' is told, the heap is 'H1'. -/
def OpDoes (P : Program) (o : Oper) (a : Act) (w : World) (lo base : Nat) (m : MM) (H : Heap) (v : Value) (H1 : Heap) : Prop :=
  ∃ v' w' m', ((execOp a.eval o).run P w = .ok (.value v') w' ∨ ((execOp a.eval o).run P w = .ok .skip w' ∧ v' = undef)) ∧
    MM.agree H.length m m' ∧ Sim lo base m' H1 w'.heap ∧ VR m' v v' ∧ Below base w w' ∧ H.length ≤ H1.length

section
variable {P : Program} {c : CM} {o : Oper} {io : IOp} {lo base : Nat} {m : MM} {H H1 : Heap} {w : World} {a : Act} {e : Env} {v : Value}

/-- Nothing is written. -/
theorem OpDoes.still (s : Sim lo base m H w.heap) {v' : Value} (hr : (execOp a.eval o).run P w = .ok (.value v') w) (r : VR m v v') : OpDoes P o a w lo base m H v H :=
  ⟨v', w, m, .inl hr, MM.agree.refl _ _, s, r, Below.refl _ _, Nat.le_refl _⟩

/-- A new block. -/
theorem OpDoes.newB (s : Sim lo base m H w.heap) (k : Blk) (cs : Array Value) (t cap n : Nat) (sl : Bool)
    (hr : ∃ w0 : World, w0.heap = w.heap ∧ Below base w w0 ∧ (execOp a.eval o).run P w = .ok (.value (if sl then .slice (some ⟨w.heap.size, 0, none⟩) n cap else .pointer (some ⟨w.heap.size, 0, none⟩))) (w0.alloc (.cells cs t)))
    (hv : ∀ (j : Nat) (v : Value), k.cells[j]? = some v → ∃ v', cs[j]? = some v' ∧ VR1 m v v') (ht : k.app = true → t = k.et) (hz : k.app = true → k.cells = [] → cs.size = 0) (hn : sl = true → n ≤ cap ∧ cap * k.es ≤ cs.size) :
    OpDoes P o a w lo base m H (if sl then sli H.length 0 n else ptr H.length 0) (H ++ [k]) := by
  obtain ⟨w0, hw0, hb0, hr⟩ := hr
  have s' := s.snoc k cs ⟨w.heap.size, 0, k.es, t, cs.size⟩ rfl rfl rfl ht rfl hz hv
  refine ⟨_, _, m.put H.length ⟨w.heap.size, 0, k.es, t, cs.size⟩, .inl hr, MM.put_agree _ _ _, ?_, ?_, ?_, by simp⟩
  · show Sim lo base _ _ (w0.heap.push _)
    rw [hw0]; exact s'
  · cases sl with
    | true =>
      refine VR.of0 (.inl ⟨_, MM.put_self _ _ _, rfl, cap, ?_, (hn rfl).1, fun _ => (hn rfl).2⟩)
      simp
    | false => exact VR.of0 ⟨_, MM.put_self _ _ _, rfl, by simp⟩
  · exact hb0.alloc (by rw [hw0]; exact s.bnd) _

theorem does_mov {x : Operand} (ho : o.op = .move x ∨ o.op = .assign x) {x' : Opd} (hx : cOpd x = some x') (s : Sim lo base m H w.heap) (u : OkU m e a o.op.operands) :
    OpDoes P o a w lo base m H (x'.ev e) H := by
  have hm : x ∈ o.op.operands := by rcases ho with h | h <;> simp [h, Op.operands]
  refine OpDoes.still s ?_ (u.ev hm hx)
  rcases ho with h | h <;> simp [execOp, h]

theorem does_pick {x y z : Operand} (ho : o.op = .pick x y z) {x' y' z' : Opd} (hx : cOpd x = some x') (hy : cOpd y = some y') (hz : cOpd z = some z') {t : Bool} (ht : x'.ev e = .bool t)
    (s : Sim lo base m H w.heap) (u : OkU m e a o.op.operands) : OpDoes P o a w lo base m H (if t then y'.ev e else z'.ev e) H := by
  have h1 := u.ev (x := x) (by simp [ho, Op.operands]) hx
  have h2 := u.ev (x := y) (by simp [ho, Op.operands]) hy
  have h3 := u.ev (x := z) (by simp [ho, Op.operands]) hz
  rw [ht] at h1
  have h4 := h1.bool
  refine OpDoes.still s (v' := if t then a.eval y else a.eval z) ?_ ?_
  · simp [execOp, ho, h4, asBool]
  · cases t <;> simpa

theorem does_alloc {t : TypeId} (ho : o.op = .alloc t) {i : TypeInfo} (hi : P.info? t = some i) {z : Value} (hz : i.zero = some z) (hc : z.cells.toList.all okC = true)
    (s : Sim lo base m H w.heap) : OpDoes P o a w lo base m H (ptr H.length 0) (H ++ [⟨z.cells.toList, 0, 0, false, true⟩]) := by
  refine OpDoes.newB s ⟨z.cells.toList, 0, 0, false, true⟩ z.cells t 0 0 false ⟨w, rfl, Below.refl _ _, ?_⟩ ?_ (by simp) (by simp) (by simp)
  · simp [execOp, ho, Instr.alloc, zeroValue, typeInfo, hi, hz, newVar, newRow]
  · intro j v hj
    refine ⟨v, by simpa using hj, VR1.okC (List.all_eq_true.1 hc _ (List.mem_of_getElem? hj))⟩

theorem does_box {t : TypeId} {x : Operand} (ho : o.op = .box t x) {x' : Opd} (hx : cOpd x = some x') (hc : (x'.ev e).cells.toList.all one = true)
    (s : Sim lo base m H w.heap) (u : OkU m e a o.op.operands) : OpDoes P o a w lo base m H (ptr H.length 0) (H ++ [⟨(x'.ev e).cells.toList, 0, 0, false, true⟩]) := by
  have hv := (u.ev (x := x) (by simp [ho, Op.operands]) hx).cells hc
  refine OpDoes.newB s ⟨(x'.ev e).cells.toList, 0, 0, false, true⟩ (a.eval x).cells t 0 0 false ⟨w, rfl, Below.refl _ _, ?_⟩ ?_ (by simp) (by simp) (by simp)
  · simp [execOp, ho, Instr.box, newVar, newRow]
  · intro j v hj
    obtain ⟨v', h1, h2⟩ := hv.2 j v hj
    exact ⟨v', by simpa using h1, h2⟩

theorem setL_length : ∀ (vs cs : List Value) (o : Nat), (setL cs o vs).length = cs.length
  | [], cs, o => rfl
  | v :: vs, cs, o => by simp [setL, setL_length vs]
theorem setL_eq : ∀ (vs cs : List Value) (o : Nat), o + vs.length ≤ cs.length → setL cs o vs = cs.take o ++ vs ++ cs.drop (o + vs.length)
  | [], cs, o, _ => by simp [setL]
  | v :: vs, cs, o, h => by
    simp only [List.length_cons] at h
    rw [setL, setL_eq vs (cs.set o v) (o + 1) (by simp; omega)]
    have := list_seg_step cs o v vs (by omega)
    simpa [Nat.add_comm, Nat.add_left_comm] using this
theorem All2.setL {R : Value → Value → Prop} : ∀ {vs vs' : List Value} {cs cs' : List Value} (o : Nat), All2 R vs vs' → All2 R cs cs' → All2 R (Go.Proofs.YtiekbdijpfnagaaI.setL cs o vs) (Go.Proofs.YtiekbdijpfnagaaI.setL cs' o vs')
  | [], [], cs, cs', o, _, h => h
  | v :: vs, v' :: vs', cs, cs', o, hv, h => by
    have h0 : R v v' := by obtain ⟨y, hy, r⟩ := hv.2 0 v rfl; simp at hy; subst hy; exact r
    exact All2.setL (o + 1) ⟨by simpa using hv.1, fun i x hx => hv.2 (i + 1) x (by simpa using hx)⟩ (h.set o h0)
  | [], v' :: vs', cs, cs', o, hv, h => by have := hv.1; simp at this
  | v :: vs, [], cs, cs', o, hv, h => by have := hv.1; simp at this

theorem foldl_setL : ∀ (vs : List Value) (k o : Nat) (cs : Array Value), ((vs.zipIdx k).foldl (fun cs (x : Value × Nat) => cs.setIfInBounds (o + x.2) x.1) cs).toList = setL cs.toList (o + k) vs
  | [], k, o, cs => by simp [setL]
  | v :: vs, k, o, cs => by
    simp only [List.zipIdx_cons, List.foldl_cons]
    rw [foldl_setL vs (k + 1) o]
    simp [setL, Nat.add_assoc]

theorem fill_does (pl : Nat → Option (Nat × Nat)) : ∀ (ps : List (Nat × Operand)) (ps' : List (Nat × Nat × Opd)) (cs : List Value) (cs' : Array Value) (out : List Value),
    cParts P pl ps = some ps' → (∀ t, (∃ i, (i, Operand.tmp t) ∈ ps) → VR m (e t) (a.eval (.tmp t))) → All2 (VR1 m) cs cs'.toList → fillL e cs ps' = some out →
    ∃ out', Instr.fill pl cs' (ps.map fun x => (x.1, a.eval x.2)) = some out' ∧ All2 (VR1 m) out out'.toList
  | [], ps', cs, cs', out, hp, hu, hr, hf => by
    simp only [cParts, Option.some.injEq] at hp
    subst hp
    simp only [fillL, Option.some.injEq] at hf
    subst hf
    exact ⟨cs', rfl, hr⟩
  | (i, x) :: ps, ps', cs, cs', out, hp, hu, hr, hf => by
    simp only [cParts, Option.bind_eq_some_iff, Option.map_eq_some_iff] at hp
    obtain ⟨⟨o', n⟩, hpl, x', hx, ps1, hp1, rfl⟩ := hp
    simp only [fillL] at hf
    split at hf
    case isFalse => cases hf
    case isTrue hc =>
      obtain ⟨h1, h2, h3⟩ := hc
      have hv : VR m (x'.ev e) (a.eval x) := by
        cases x with
        | tmp t => cases hx; exact hu t ⟨i, by simp⟩
        | const v => exact OkU.ev (xs := #[.const v]) (fun t ht => by simp at ht) (by simp) hx
        | func f => exact OkU.ev (xs := #[.func f]) (fun t ht => by simp at ht) (by simp) hx
        | global g => cases hx
      have hv' := hv.cells h3
      have hl : (a.eval x).cells.size = n := by have := hv'.1; simp at this h1; omega
      have hcs : cs'.size = cs.length := by have := hr.1; simpa using this.symm
      have hset := All2.setL o' hv' hr
      obtain ⟨out', h4, h5⟩ := fill_does pl ps ps1 _ ((a.eval x).cells.zipIdx.foldl (fun cs (c, j) => cs.setIfInBounds (o' + j) c) cs') out hp1
        (fun t ⟨j, hj⟩ => hu t ⟨j, by simp [hj]⟩) (by
          have := foldl_setL (a.eval x).cells.toList 0 o' cs'
          rw [Nat.add_zero] at this
          rw [← Array.foldl_toList, Array.toList_zipIdx]
          refine Eq.mp ?_ hset
          congr 1
          rw [← this]) hf
      refine ⟨out', ?_, h5⟩
      simp only [List.map_cons, Instr.fill, hpl]
      rw [if_neg (by simp only [Bool.or_eq_true, decide_eq_true_eq, not_or]; omega)]
      exact h4

theorem does_build {t : TypeId} {ps : Array (Nat × Operand)} (ho : o.op = .build t ps) {i : TypeInfo} (hi : P.info? t = some i) {z : Value} (hz : i.zero = some z) {fs : Array Field}
    (hu : P.underlying t = some (.struct fs)) (hc : z.cells.toList.all okC = true) {pl : List (Nat × Nat)} (hp : fplaces P fs = some pl) {ps' : List (Nat × Nat × Opd)} (hps : cParts P (pl[·]?) ps.toList = some ps')
    {out : List Value} (hf : fillL e z.cells.toList ps' = some out) (s : Sim lo base m H w.heap) (u : OkU m e a o.op.operands) : OpDoes P o a w lo base m H (.agg out.toArray) H := by
  obtain ⟨out', h1, h2⟩ := fill_does (P := P) (a := a) (m := m) (pl[·]?) ps.toList ps' z.cells.toList z.cells out hps
    (fun t ⟨j, hj⟩ => u t (by simp only [ho, Op.operands, List.mem_toArray, List.mem_map]; exact ⟨_, hj, rfl⟩))
    ⟨rfl, fun j v hj => ⟨v, hj, VR1.okC (List.all_eq_true.1 hc _ (List.mem_of_getElem? hj))⟩⟩ hf
  refine OpDoes.still s (v' := .agg out') ?_ (.inl (.inr ⟨_, _, rfl, rfl, by simpa using h2⟩))
  have hb : P.built t (ps.map fun (i, x) => (i, a.eval x)).toList = some out' := by
    unfold Program.built
    simp only [hi, hu, hz]
    unfold fplaces at hp
    rw [hp]
    simpa [Array.toList_map] using h1
  simp [execOp, ho, run_build w t _ out' hb]

theorem does_lit {t el : TypeId} {len : Nat} {ps : Array (Nat × Operand)} (ho : o.op = .buildSlice t len ps) (hu : P.underlying t = some (.slice el)) {i : TypeInfo} (hi : P.info? el = some i) {z : Value} (hz : i.zero = some z)
    (h24 : len * i.size ≤ 2 ^ 24) (hpos : 0 < i.size) (hc : z.cells.toList.all okC = true) (hsz : z.cells.size = i.size)
    {ps' : List (Nat × Nat × Opd)} (hps : cParts P (fun j => some (j * i.size, i.size)) ps.toList = some ps')
    {out : List Value} (hf : fillL e ((Array.range (len * i.size)).map (z.cells[· % z.cells.size]!)).toList ps' = some out) (s : Sim lo base m H w.heap) (u : OkU m e a o.op.operands) :
    OpDoes P o a w lo base m H (sli H.length 0 len) (H ++ [⟨out, i.size, el, true, true⟩]) := by
  have hz0 : ∀ (j : Nat) (v : Value), ((Array.range (len * i.size)).map (z.cells[· % z.cells.size]!)).toList[j]? = some v → VR1 m v v := by
    intro j v hj
    refine VR1.okC (List.all_eq_true.1 hc _ ?_)
    simp only [Array.toList_map, List.getElem?_map, Option.map_eq_some_iff] at hj
    obtain ⟨q, _, rfl⟩ := hj
    have hlt : q % z.cells.size < z.cells.size := Nat.mod_lt _ (by omega)
    rw [getElem!_pos z.cells _ hlt]
    simp
  obtain ⟨out', h1, h2⟩ := fill_does (P := P) (a := a) (m := m) (fun j => some (j * i.size, i.size)) ps.toList ps' _ ((Array.range (len * i.size)).map (z.cells[· % z.cells.size]!)) out hps
    (fun t ⟨j, hj⟩ => u t (by simp only [ho, Op.operands, List.mem_toArray, List.mem_map]; exact ⟨_, hj, rfl⟩))
    ⟨rfl, fun j v hj => ⟨v, hj, hz0 j v hj⟩⟩ hf
  have hlen : out'.size = len * i.size := by
    have hfl : ∀ (ps : List (Nat × Nat × Opd)) (cs out : List Value), fillL e cs ps = some out → out.length = cs.length := by
      intro ps
      induction ps with
      | nil => intro cs out h; simp only [fillL, Option.some.injEq] at h; subst h; rfl
      | cons p ps ih =>
        intro cs out h
        obtain ⟨o1, n1, x1⟩ := p
        simp only [fillL] at h
        split at h
        · rw [ih _ _ h, setL_length]
        · cases h
    have := hfl _ _ _ hf
    have h3 := h2.1
    simp at this h3
    omega
  have key := OpDoes.newB (P := P) (o := o) (a := a) (base := base) s ⟨out, i.size, el, true, true⟩ out' el len len true ⟨w, rfl, Below.refl _ _, ?_⟩ ?_ (fun _ => rfl) ?_ (fun _ => ⟨Nat.le_refl _, by show len * i.size ≤ out'.size; omega⟩)
  · simpa using key
  · by_cases h0 : len * i.size = 0
    · have hlen0 : len = 0 := by rcases Nat.mul_eq_zero.1 h0 with h | h <;> omega
      subst hlen0
      have hf' : Instr.fill (fun j => some (j * i.size, i.size)) #[] (List.map (fun x => (x.fst, a.eval x.snd)) ps.toList) = some out' := by simpa [Array.range_zero'] using h1
      simp [execOp, ho, Instr.buildSlice, run_underlying hu, sizeOf, typeInfo, hi, newRow, hf', Array.range_zero']
    · have hr := run_buildSlice (P := P) w t el len (ps.map fun (i, x) => (i, a.eval x)) out' i z hu hi hz (by omega) h0 (by simpa [Array.toList_map] using h1)
      simp [execOp, ho, hr]
  · intro j v hj
    obtain ⟨v', q1, q2⟩ := h2.2 j v hj
    exact ⟨v', by simpa using q1, q2⟩
  · intro _ h
    have h3 := h2.1
    rw [show out = [] from h] at h3
    simpa using h3.symm

/-- What a run of cells reads as. -/
theorem Sim.read (s : Sim lo base m H w.heap) {b o n : Nat} {cs : List Value} (hg : getCells H b o n = some cs) {x : MB} (hx : m b = some x) :
    ∃ cs' : List Value, All2 (VR1 m) cs cs' ∧ (∀ j v, cs'[j]? = some v → w.cell? ⟨x.blk, x.off + o + j, none⟩ = some v) ∧ cs.length = n := by
  unfold getCells at hg
  split at hg
  case h_2 => cases hg
  case h_1 k hk =>
    split at hg
    case isFalse => cases hg
    case isTrue hle =>
      simp only [Option.some.injEq] at hg
      subst hg
      obtain ⟨c, t, fr, h1, h2⟩ := s.cell b x k hx hk
      refine ⟨(c.toList.drop (x.off + o)).take n, ⟨?_, ?_⟩, ?_, ?_⟩
      · have hsz : x.off + o + n ≤ c.size ∨ n = 0 := by
          rcases Nat.eq_zero_or_pos n with h0 | hp
          · exact .inr h0
          · left
            obtain ⟨v', hv', _⟩ := h2 (o + (n - 1)) (k.cells[o + (n - 1)]'(by omega)) (List.getElem?_eq_getElem (by omega))
            have := (Array.getElem?_eq_some_iff.1 hv').1
            omega
        simp only [List.length_take, List.length_drop, Array.length_toList]
        omega
      · intro j v hj
        rw [List.getElem?_take] at hj ⊢
        split at hj
        · rename_i hjn
          rw [if_pos hjn]
          rw [List.getElem?_drop] at hj ⊢
          obtain ⟨v', q1, q2⟩ := h2 _ v hj
          exact ⟨v', by simpa [Nat.add_assoc] using q1, q2⟩
        · cases hj
      · intro j v hj
        rw [List.getElem?_take] at hj
        split at hj
        · rw [List.getElem?_drop] at hj
          simp only [World.cell?, h1, Option.isSome_none, Bool.false_eq_true, if_false]
          simpa using hj
        · cases hj
      · simp only [List.length_take, List.length_drop]; omega

theorem valOf_does {agg : Bool} {cs cs' : List Value} (h : All2 (VR1 m) cs cs') (hv : valOf agg cs = some v) :
    ∃ v', VR m v v' ∧ (if agg then v' = .agg cs'.toArray else cs' = [v']) := by
  cases agg with
  | true =>
    simp only [valOf, if_true, Option.some.injEq] at hv
    subst hv
    exact ⟨_, .inl (.inr ⟨_, _, rfl, rfl, by simpa using h⟩), by simp⟩
  | false =>
    unfold valOf at hv
    simp only [Bool.false_eq_true, if_false] at hv
    split at hv
    · simp only [Option.some.injEq] at hv
      subst hv
      obtain ⟨y, hy, r⟩ := h.2 0 _ rfl
      refine ⟨y, VR.of1 r, ?_⟩
      have hl := h.1
      simp only [Bool.false_eq_true, if_false]
      cases cs' with
      | nil => simp at hy
      | cons z zs => simp at hy hl; subst hy; rw [hl]
    · cases hv

theorem does_load {t : TypeId} {x : Operand} (ho : o.op = .load t x) {d : TypeDesc} (hu : P.underlying t = some d) {i : TypeInfo} (hi : P.info? t = some i) (hd : isAggD d = true ∨ i.size = 1)
    {x' : Opd} (hx : cOpd x = some x') {ad : Addr} (hp : x'.ev e = .pointer (some ad)) {cs : List Value} (hg : getCells H ad.block ad.off i.size = some cs) (hv : valOf (isAggD d) cs = some v)
    (s : Sim lo base m H w.heap) (u : OkU m e a o.op.operands) : OpDoes P o a w lo base m H v H := by
  have h1 := u.ev (x := x) (by simp [ho, Op.operands]) hx
  rw [hp] at h1
  obtain ⟨mb, hm, _, hax⟩ := h1.ptr
  obtain ⟨cs', h2, h3, h4⟩ := s.read hg hm
  obtain ⟨v', h5, h6⟩ := valOf_does h2 hv
  refine OpDoes.still s (v' := v') ?_ h5
  have hl : cs'.length = i.size := by rw [← h2.1, h4]
  have hread : ∀ j v, cs'[j]? = some v → w.cell? ((⟨mb.blk, mb.off + ad.off, none⟩ : Addr).add j) = some v := fun j v hj => by
    rw [Addr.add_lit]; exact h3 j v hj
  cases hagg : isAggD d with
  | true =>
    rw [hagg] at h6
    simp only [if_true] at h6
    subst h6
    have hlc := run_loadCells_list (P := P) w _ cs' hread
    rw [hl] at hlc
    have hia : (isAgg t).run P w = .ok true w := by
      simp only [isAgg, Sem.run_bind, run_underlying hu, Result.andThen_ok]
      cases d <;> simp [isAggD] at hagg <;> rfl
    simp [execOp, ho, hax, Instr.loadAt, Instr.sureAddr, loadVar, hia, sizeOf, typeInfo, hi, hlc]
  | false =>
    rw [hagg] at h6
    simp only [Bool.false_eq_true, if_false] at h6
    subst h6
    have hc := hread 0 v' rfl
    rw [Addr.add_zero'] at hc
    have hia : (isAgg t).run P w = .ok false w := by
      simp only [isAgg, Sem.run_bind, run_underlying hu, Result.andThen_ok]
      cases d <;> simp [isAggD] at hagg <;> rfl
    simp [execOp, ho, hax, Instr.loadAt, Instr.sureAddr, loadVar, hia, hc]

theorem does_store {t : TypeId} {x y : Operand} (ho : o.op = .store t x y) {i : TypeInfo} (hi : P.info? t = some i) (hpos : 0 < i.size) {x' y' : Opd} (hx : cOpd x = some x') (hy : cOpd y = some y')
    {ad : Addr} (hp : x'.ev e = .pointer (some ad)) {k : Blk} (hk : H[ad.block]? = some k) (hlo : lo ≤ ad.block) (hs : k.solo = true) (hn : (y'.ev e).cells.toList.length = i.size)
    (hle : ad.off + i.size ≤ k.cells.length) (hone : (y'.ev e).cells.toList.all one = true) (s : Sim lo base m H w.heap) (u : OkU m e a o.op.operands) :
    OpDoes P o a w lo base m H undef (H.set ad.block { k with cells := setL k.cells ad.off (y'.ev e).cells.toList }) := by
  have h1 := u.ev (x := x) (by simp [ho, Op.operands]) hx
  have h2 := (u.ev (x := y) (by simp [ho, Op.operands]) hy).cells hone
  rw [hp] at h1
  obtain ⟨mb, hm, _, hax⟩ := h1.ptr
  obtain ⟨o1, o2, o3, cs, o4, o5⟩ := s.own ad.block mb k hlo hm hk
  obtain ⟨cs0, t0, fr0, c1, c2⟩ := s.cell ad.block mb k hm hk
  rw [o4] at c1
  simp only [Option.some.injEq, Obj.cells.injEq] at c1
  obtain ⟨rfl, _, _⟩ := c1
  have hlen : (a.eval y).cells.toList.length = i.size := by rw [← h2.1, hn]
  have hlen' : (a.eval y).cells.size = i.size := by simpa using hlen
  have hksz : k.cells.length ≤ cs.size := by
    rcases Nat.eq_zero_or_pos k.cells.length with h0 | hp'
    · omega
    · obtain ⟨v', q, _⟩ := c2 (k.cells.length - 1) (k.cells[k.cells.length - 1]'(by omega)) (List.getElem?_eq_getElem (by omega))
      have := (Array.getElem?_eq_some_iff.1 q).1
      rw [o2] at this
      omega
  have hst := run_storeCells_at P mb.blk (mb.off + ad.off) mb.et (a.eval y).cells.toList 0 cs w o4 (by rw [o2]; omega) (fun v hv => by
    obtain ⟨v0, _, r⟩ := h2.mem_right hv
    exact r.one_right)
  simp only [Nat.add_zero, o2, Nat.zero_add] at hst
  rw [← setL_eq _ _ _ (by simp only [Array.length_toList] at hlen ⊢; omega)] at hst
  refine ⟨undef, w.setRow mb.blk (setL cs.toList ad.off (a.eval y).cells.toList).toArray, m, .inr ⟨?_, rfl⟩, MM.agree.refl _ _, ?_, VR.mono (m := fun _ => none) (fun b x hx => by cases hx) (.inr ⟨#[], #[], rfl, rfl, All2.nil⟩), ?_, by simp⟩
  · have hsz : (a.eval y).cells.size = i.size := by simpa using hlen
    simp [execOp, ho, hax, Instr.storeAt, Instr.sureAddr, storeVar, sizeOf, typeInfo, hi, hsz, o2, hst]
  · refine s.upd hlo hm hk hs (by intro h0; rw [h0] at hle; simp at hle; omega) _ (setL_length _ _ _) _ (setRow_size _ _ _) (setRow_heap w _ _ _ _ _ o4) (fun c hc => setRow_other w _ _ _ hc) (by simp [setL_length, o5]) ?_
    intro j v hj
    have hall : All2 (VR1 m) k.cells (cs.toList.take k.cells.length) := by
      refine ⟨by simp only [List.length_take, Array.length_toList]; omega, fun i x hx => ?_⟩
      obtain ⟨v', q1, q2⟩ := c2 i x hx
      have hi' := (List.getElem?_eq_some_iff.1 hx).1
      rw [o2, Nat.zero_add] at q1
      exact ⟨v', by rw [List.getElem?_take, if_pos hi']; simpa using q1, q2⟩
    obtain ⟨v', q1, q2⟩ := (All2.setL ad.off h2 hall).2 j v hj
    refine ⟨v', ?_, q2⟩
    have hjl : j < k.cells.length := by have := (List.getElem?_eq_some_iff.1 hj).1; rwa [setL_length] at this
    rw [setL_eq _ _ _ (by rw [hlen, List.length_take, Array.length_toList]; omega)] at q1
    simp only [List.getElem?_toArray]
    rw [setL_eq _ _ _ (by rw [hlen, Array.length_toList]; omega)]
    rw [← q1]
    simp only [List.getElem?_append, List.length_append, List.length_take, List.getElem?_take, List.getElem?_drop, Array.length_toList]
    have e1 : min ad.off (min k.cells.length cs.size) = ad.off := by omega
    have e2 : min ad.off cs.size = ad.off := by omega
    rw [e1, e2]
    repeat' split
    all_goals first | rfl | (exfalso; omega) | omega
  · exact ⟨rfl, rfl, rfl, by simp, fun c hc => setRow_other w _ _ _ (by omega)⟩

theorem does_nilck {x : Operand} (ho : o.op = .nilCheck x) {x' : Opd} (hx : cOpd x = some x')
    (hp : (∃ ad, x'.ev e = .pointer (some ad)) ∨ ∃ g f c, x'.ev e = .func (.func g) f c) (s : Sim lo base m H w.heap) (u : OkU m e a o.op.operands) : OpDoes P o a w lo base m H (x'.ev e) H := by
  have h1 := u.ev (x := x) (by simp [ho, Op.operands]) hx
  refine OpDoes.still s (v' := a.eval x) ?_ h1
  rcases hp with ⟨ad, hp⟩ | ⟨g, f, c, hp⟩
  · rw [hp] at h1
    obtain ⟨mb, _, _, hax⟩ := h1.ptr
    simp [execOp, ho, hax]
  · rw [hp] at h1
    obtain ⟨f', c', hax, _⟩ := h1.func
    simp [execOp, ho, hax]

theorem does_un {op : UnOp} {t : TypeId} {x : Operand} (ho : o.op = .unOp op t x) {x' : Opd} (hx : cOpd x = some x') (hv : unV op (x'.ev e) = some v)
    (s : Sim lo base m H w.heap) (u : OkU m e a o.op.operands) : OpDoes P o a w lo base m H v H := by
  have h1 := u.ev (x := x) (by simp [ho, Op.operands]) hx
  unfold unV at hv
  split at hv
  · rename_i b he
    cases hv
    rw [he] at h1
    refine OpDoes.still s (v' := .bool (!b)) ?_ (VR.of0 rfl)
    simp [execOp, ho, h1.bool, Op.unary]
  · rename_i k n he
    cases hv
    rw [he] at h1
    refine OpDoes.still s (v' := .int k (k.wrap (0 - n))) ?_ (VR.of0 rfl)
    simp [execOp, ho, h1.int, Op.unary, Op.intArith]
  · cases hv

theorem does_conv {sT dT : TypeId} {x : Operand} (ho : o.op = .convert sT dT x) {d : TypeDesc} (hs : P.underlying sT = some d) {k : IntKind} (hd : P.underlying dT = some (.int k)) {x' : Opd} (hx : cOpd x = some x')
    {k0 : IntKind} {n : Int} (he : x'.ev e = .int k0 n) (s : Sim lo base m H w.heap) (u : OkU m e a o.op.operands) : OpDoes P o a w lo base m H (.int k (k.wrap n)) H := by
  have h1 := u.ev (x := x) (by simp [ho, Op.operands]) hx
  rw [he] at h1
  refine OpDoes.still s (v' := .int k (k.wrap n)) ?_ (VR.of0 rfl)
  cases d <;> simp [execOp, ho, h1.int, convert, run_underlying hs, run_underlying hd, Conv.intToInt]

theorem does_fad {sT : TypeId} {x : Operand} {f : Nat} (ho : o.op = .fieldAddr sT x f) {fs : Array Field} (hu : P.underlying sT = some (.struct fs)) {fd : Field} (hf : fs[f]? = some fd) {i : TypeInfo} (hi : P.info? fd.type = some i)
    (h0 : i.size ≠ 0) {x' : Opd} (hx : cOpd x = some x') {ad : Addr} (he : x'.ev e = .pointer (some ad)) (s : Sim lo base m H w.heap) (u : OkU m e a o.op.operands) :
    OpDoes P o a w lo base m H (ptr ad.block (ad.off + fd.offset)) H := by
  have h1 := u.ev (x := x) (by simp [ho, Op.operands]) hx
  rw [he] at h1
  obtain ⟨mb, hm, _, hax⟩ := h1.ptr
  refine OpDoes.still s (v' := .pointer (some ⟨mb.blk, mb.off + ad.off + fd.offset, none⟩)) ?_ (VR.of0 ⟨mb, hm, rfl, by simp [Nat.add_assoc]⟩)
  simp [execOp, ho, hax, Instr.fieldAt, run_underlying hu, hf, Instr.sureAddr, fieldPlace, sizeOf, typeInfo, hi, h0, Addr.add_lit]

theorem does_fld {sT : TypeId} {x : Operand} {f : Nat} (ho : o.op = .field sT x f) {fs : Array Field} (hu : P.underlying sT = some (.struct fs)) {fd : Field} (hf : fs[f]? = some fd) {i : TypeInfo} (hi : P.info? fd.type = some i)
    {d : TypeDesc} (hd : P.underlying fd.type = some d) (h1 : isAggD d = true ∨ i.size = 1) {x' : Opd} (hx : cOpd x = some x') {cs : Array Value} (he : x'.ev e = .agg cs) (hle : fd.offset + i.size ≤ cs.toList.length)
    (hv : valOf (isAggD d) ((cs.toList.drop fd.offset).take i.size) = some v) (s : Sim lo base m H w.heap) (u : OkU m e a o.op.operands) : OpDoes P o a w lo base m H v H := by
  have h2 := u.ev (x := x) (by simp [ho, Op.operands]) hx
  rw [he] at h2
  obtain ⟨cs', hax, hr⟩ := h2.agg
  obtain ⟨v', h5, h6⟩ := valOf_does ((hr.drop fd.offset).take i.size) hv
  refine OpDoes.still s (v' := v') ?_ h5
  have hl : cs'.size = cs.size := by have := hr.1; simpa using this.symm
  cases hagg : isAggD d with
  | true =>
    rw [hagg] at h6
    simp only [if_true] at h6
    subst h6
    have hia : (isAgg fd.type).run P w = .ok true w := by
      simp only [isAgg, Sem.run_bind, run_underlying hd, Result.andThen_ok]
      cases d <;> simp [isAggD] at hagg <;> rfl
    have hex : cs'.extract fd.offset (fd.offset + i.size) = (List.take i.size (List.drop fd.offset cs'.toList)).toArray := by
      apply Array.ext'
      simp [Array.toList_extract, List.extract_eq_take_drop]
    simp [execOp, ho, hax, Instr.field, run_underlying hu, hf, asAgg, part, hia, sizeOf, typeInfo, hi, hex]
  | false =>
    rw [hagg] at h6
    simp only [Bool.false_eq_true, if_false] at h6
    have hia : (isAgg fd.type).run P w = .ok false w := by
      simp only [isAgg, Sem.run_bind, run_underlying hd, Result.andThen_ok]
      cases d <;> simp [isAggD] at hagg <;> rfl
    have hc : cs'[fd.offset]? = some v' := by
      have := congrArg (fun l => l[0]?) h6
      rcases h1 with h1 | h1
      · rw [hagg] at h1; cases h1
      · simpa [List.getElem?_take, h1] using this
    simp [execOp, ho, hax, Instr.field, run_underlying hu, hf, asAgg, part, hia, hc]

theorem does_iad {t el : TypeId} {x y : Operand} (ho : o.op = .indexAddr t x y) (hu : P.underlying t = some (.slice el)) {i : TypeInfo} (hi : P.info? el = some i) {x' y' : Opd} (hx : cOpd x = some x') (hy : cOpd y = some y')
    {ad : Addr} {n c' : Nat} (he : x'.ev e = .slice (some ad) n c') {k : IntKind} {j : Int} (hj : y'.ev e = .int k j) (h0 : 0 ≤ j) (hn : j < n) (s : Sim lo base m H w.heap) (u : OkU m e a o.op.operands) :
    OpDoes P o a w lo base m H (ptr ad.block (ad.off + j.toNat * i.size)) H := by
  have h1 := u.ev (x := x) (by simp [ho, Op.operands]) hx
  have h2 := u.ev (x := y) (by simp [ho, Op.operands]) hy
  rw [he] at h1
  rw [hj] at h2
  obtain ⟨mb, hm, _, c1, hax, _⟩ | ⟨hz, _⟩ := h1.sl
  · refine OpDoes.still s (v' := .pointer (some ⟨mb.blk, mb.off + ad.off + j.toNat * i.size, none⟩)) ?_ (VR.of0 ⟨mb, hm, rfl, by simp [Nat.add_assoc]⟩)
    simp [execOp, ho, hax, h2.int, Instr.indexAt, asIntOf, run_underlying hu, h0, hn, sizeOf, typeInfo, hi, Addr.add_lit]
  · omega

theorem does_ext {x : Operand} {i : Nat} (ho : o.op = .extract x i) {x' : Opd} (hx : cOpd x = some x') {vs : Array Value} (he : x'.ev e = .tuple vs) (hv : vs.toList[i]? = some v)
    (s : Sim lo base m H w.heap) (u : OkU m e a o.op.operands) : OpDoes P o a w lo base m H v H := by
  have h1 := u.ev (x := x) (by simp [ho, Op.operands]) hx
  rw [he] at h1
  obtain ⟨vs', hax, hr⟩ := h1.tup
  obtain ⟨v', h2, h3⟩ := hr.2 i v hv
  refine OpDoes.still s (v' := v') ?_ (.inl h3)
  have h2' : vs'[i]? = some v' := by simpa using h2
  simp [execOp, ho, hax, Instr.extract, h2']

theorem does_len {x : Operand} {t : TypeId} {ts : Array TypeId} (ho : o.op = .call ⟨.builtin .len, #[x], ts⟩) (ht : ts[0]? = some t) {el : TypeId} (hu : P.underlying t = some (.slice el)) {x' : Opd} (hx : cOpd x = some x')
    {ad : Option Addr} {n c' : Nat} (he : x'.ev e = .slice ad n c') (s : Sim lo base m H w.heap) (u : OkU m e a o.op.operands) : OpDoes P o a w lo base m H (.int .i64 n) H := by
  have h1 := u.ev (x := x) (by simp [ho, Op.operands, Call.operands]) hx
  rw [he] at h1
  refine OpDoes.still s (v' := .int .i64 n) ?_ (VR.of0 rfl)
  have hs : ∃ A c1, a.eval x = .slice A n c1 := by
    cases ad with
    | none => obtain ⟨rfl, h⟩ := h1.slN; exact ⟨_, _, h⟩
    | some ad =>
      obtain ⟨mb, _, _, c1, hax, _⟩ | ⟨rfl, _, A, c1, hax⟩ := h1.sl
      · exact ⟨_, _, hax⟩
      · exact ⟨_, _, hax⟩
  obtain ⟨A, c1, hax⟩ := hs
  simp [execOp, ho, resolve, hax, invoke, builtin, Builtin.len_, ht, run_underlying hu, goInt]

theorem does_max {x y : Operand} {ts : Array TypeId} (ho : o.op = .call ⟨.builtin .max, #[x, y], ts⟩) {x' y' : Opd} (hx : cOpd x = some x') (hy : cOpd y = some y') {k k' : IntKind} {p q : Int}
    (he : x'.ev e = .int k p) (hf : y'.ev e = .int k' q) (s : Sim lo base m H w.heap) (u : OkU m e a o.op.operands) : OpDoes P o a w lo base m H (.int k (if q > p then q else p)) H := by
  have h1 := u.ev (x := x) (by simp [ho, Op.operands, Call.operands]) hx
  have h2 := u.ev (x := y) (by simp [ho, Op.operands, Call.operands]) hy
  rw [he] at h1
  rw [hf] at h2
  refine OpDoes.still s (v' := .int k (if q > p then q else p)) ?_ (VR.of0 rfl)
  simp [execOp, ho, resolve, h1.int, h2.int, invoke, builtin, Builtin.max_, Builtin.max2]

theorem does_bin {op : BinOp} {t ty : TypeId} {x y : Operand} (ho : o.op = .binOp op t x y ty) {x' y' : Opd} (hx : cOpd x = some x') (hy : cOpd y = some y') (hv : binV op (x'.ev e) (y'.ev e) = some v)
    (s : Sim lo base m H w.heap) (u : OkU m e a o.op.operands) : OpDoes P o a w lo base m H v H := by
  have h1 := u.ev (x := x) (by simp [ho, Op.operands]) hx
  have h2 := u.ev (x := y) (by simp [ho, Op.operands]) hy
  unfold binV at hv
  split at hv
  case h_2 => cases hv
  case h_1 k p k' q hp hq =>
    rw [hp] at h1
    rw [hq] at h2
    have e1 := h1.int
    have e2 := h2.int
    by_cases hk : shiftOp op = true ∨ k = k'
    case neg => rw [if_neg hk] at hv; cases hv
    case pos =>
      rw [if_pos hk] at hv
      cases op <;> simp only [binI] at hv
      case quo =>
        split at hv
        · cases hv
        · rename_i hq0
          cases hv
          refine OpDoes.still s ?_ (VR.of0 rfl)
          simp [shiftOp] at hk
          subst hk
          simp [execOp, ho, e1, e2, eqGuard, binOp, Op.intDiv, hq0]
      case rem =>
        split at hv
        · cases hv
        · rename_i hq0
          cases hv
          refine OpDoes.still s ?_ (VR.of0 rfl)
          simp [shiftOp] at hk
          subst hk
          simp [execOp, ho, e1, e2, eqGuard, binOp, Op.intDiv, hq0]
      case shl =>
        split at hv
        · cases hv
        · rename_i hq0
          cases hv
          refine OpDoes.still s ?_ (VR.of0 rfl)
          simp [execOp, ho, e1, e2, eqGuard, binOp, Op.shift, hq0]
      case shr =>
        split at hv
        · cases hv
        · rename_i hq0
          cases hv
          refine OpDoes.still s ?_ (VR.of0 rfl)
          simp [execOp, ho, e1, e2, eqGuard, binOp, Op.shift, hq0]
      all_goals
        cases hv
        refine OpDoes.still s ?_ (VR.of0 rfl)
        simp [shiftOp] at hk
        subst hk
        simp [execOp, ho, e1, e2, eqGuard, binOp, Op.intArith, Op.intBits, Op.intCmp]

theorem does_beq {op : BinOp} {t ty : TypeId} {x y : Operand} (ho : o.op = .binOp op t x y ty) (hu : P.underlying t = some .bool) (hop : op = .eql ∨ op = .neq) {x' y' : Opd} (hx : cOpd x = some x') (hy : cOpd y = some y')
    {p q : Bool} (hp : x'.ev e = .bool p) (hq : y'.ev e = .bool q) (s : Sim lo base m H w.heap) (u : OkU m e a o.op.operands) :
    OpDoes P o a w lo base m H (.bool (if isNeq op then !(p == q) else p == q)) H := by
  have h1 := u.ev (x := x) (by simp [ho, Op.operands]) hx
  have h2 := u.ev (x := y) (by simp [ho, Op.operands]) hy
  rw [hp] at h1
  rw [hq] at h2
  refine OpDoes.still s (v' := .bool (if isNeq op then !(p == q) else p == q)) ?_ (VR.of0 rfl)
  rcases hop with rfl | rfl <;> simp [execOp, ho, h1.bool, h2.bool, eqGuard, binOp, run_equal_bool w t _ _ hu, isNeq]

theorem eqCells_eqFields (d : Nat) : ∀ (fs : List Field) (j : Nat) (xs ys : Array Value) (r : Bool),
    ((fs.zipIdx j).all fun (f, j) => f.name != "_" && f.offset == j && (P.underlying f.type matches some (.int _)) && (P.info? f.type).any (·.size == 1)) = true →
    eqCells (xs.toList.drop j) (ys.toList.drop j) = some r → xs.size = j + fs.length → ys.size = j + fs.length → (Op.eqFields (d + 1) xs ys fs).run P w = .ok r w
  | [], j, xs, ys, r, _, he, hx, hy => by
    simp only [List.length_nil] at hx hy
    rw [List.drop_eq_nil_of_le (by simp; omega), List.drop_eq_nil_of_le (by simp; omega)] at he
    simp only [eqCells, Option.some.injEq] at he
    subst he
    simp [Op.eqFields]
  | f :: fs, j, xs, ys, r, hall, he, hx, hy => by
    simp only [List.zipIdx_cons, List.all_cons, Bool.and_eq_true, bne_iff_ne, ne_eq, beq_iff_eq] at hall
    obtain ⟨⟨⟨⟨hn, hoff⟩, hint⟩, _⟩, hrest⟩ := hall
    simp only [List.length_cons] at hx hy
    obtain ⟨k, hk⟩ : ∃ k, P.underlying f.type = some (.int k) := by
      revert hint
      cases hq : P.underlying f.type with
      | none => simp
      | some d => cases d <;> simp
    have hxj : xs.toList.drop j = xs[j]'(by omega) :: xs.toList.drop (j + 1) := by
      rw [List.drop_eq_getElem_cons (by simp; omega)]; simp
    have hyj : ys.toList.drop j = ys[j]'(by omega) :: ys.toList.drop (j + 1) := by
      rw [List.drop_eq_getElem_cons (by simp; omega)]; simp
    rw [hxj, hyj] at he
    have hia : (isAgg f.type).run P w = .ok false w := by
      simp only [isAgg, Sem.run_bind, run_underlying hk, Result.andThen_ok]; rfl
    have hpx : (part f.type xs f.offset).run P w = .ok (xs[j]'(by omega)) w := by
      simp [part, hia, hoff, Array.getElem?_eq_getElem (show j < xs.size by omega)]
    have hpy : (part f.type ys f.offset).run P w = .ok (ys[j]'(by omega)) w := by
      simp [part, hia, hoff, Array.getElem?_eq_getElem (show j < ys.size by omega)]
    generalize xs[j]'(by omega) = vx at he hpx
    generalize ys[j]'(by omega) = vy at he hpy
    obtain ⟨k1, p, q, ys1, r', rfl, h2, hr', rfl⟩ := eqCells_cons he
    simp only [List.cons.injEq] at h2
    obtain ⟨rfl, rfl⟩ := h2
    have ih := eqCells_eqFields d fs (j + 1) xs ys r' hrest hr' (by omega) (by omega)
    have hq := run_equalIn_int (P := P) w d f.type k1 k p q hk
    by_cases hpq : p = q
    · subst hpq
      simp [Op.eqFields, hn, hpx, hpy, hq, ih]
    · have : (p == q) = false := by simpa using hpq
      simp [Op.eqFields, hn, hpx, hpy, hq, this]

theorem does_eqs {op : BinOp} {t ty : TypeId} {x y : Operand} (ho : o.op = .binOp op t x y ty) {fs : Array Field} (hu : P.underlying t = some (.struct fs)) (hop : op = .eql ∨ op = .neq) (hfl : flatInts P fs = true)
    (hst : P.stoodInHeld t = false) (hg : P.eqGuardType P.depth t = false) {x' y' : Opd} (hx : cOpd x = some x') (hy : cOpd y = some y') {p q : Array Value} (hp : x'.ev e = .agg p) (hq : y'.ev e = .agg q)
    (hpl : p.toList.length = fs.size) (hql : q.toList.length = fs.size) {r : Bool} (hr : eqCells p.toList q.toList = some r) (s : Sim lo base m H w.heap) (u : OkU m e a o.op.operands) :
    OpDoes P o a w lo base m H (.bool (if isNeq op then !r else r)) H := by
  have h1 := u.ev (x := x) (by simp [ho, Op.operands]) hx
  have h2 := u.ev (x := y) (by simp [ho, Op.operands]) hy
  rw [hp] at h1
  rw [hq] at h2
  obtain ⟨p', e1, r1⟩ := h1.agg
  obtain ⟨q', e2, r2⟩ := h2.agg
  have heq : ∀ (xs xs' ys ys' : List Value) (r : Bool), All2 (VR1 m) xs xs' → All2 (VR1 m) ys ys' → eqCells xs ys = some r → eqCells xs' ys' = some r := by
    intro xs
    induction xs with
    | nil =>
      intro xs' ys ys' r h1 h2 h
      cases ys with
      | nil =>
        have := h1.1; have := h2.1
        cases xs' <;> cases ys' <;> simp_all
      | cons => simp [eqCells] at h
    | cons v xs ih =>
      intro xs' ys ys' r h1 h2 h
      obtain ⟨k1, p, q, ys1, r', rfl, rfl, hr', rfl⟩ := eqCells_cons h
      cases xs' with
      | nil => have := h1.1; simp at this
      | cons v1 xs' =>
        cases ys' with
        | nil => have := h2.1; simp at this
        | cons v2 ys' =>
          obtain ⟨y1, w1, w2⟩ := h1.2 0 _ rfl
          obtain ⟨y2, w3, w4⟩ := h2.2 0 _ rfl
          simp only [List.getElem?_cons_zero, Option.some.injEq] at w1 w3
          subst w1 w3
          have e1 := (VR.of1 w2).int
          have e2 := (VR.of1 w4).int
          subst e1 e2
          have := ih xs' ys1 ys' r' ⟨by simpa using h1.1, fun i z hz => h1.2 (i + 1) z (by simpa using hz)⟩ ⟨by simpa using h2.1, fun i z hz => h2.2 (i + 1) z (by simpa using hz)⟩ hr'
          simp [eqCells, this]
  have hr' := heq _ _ _ _ r r1 r2 hr
  refine OpDoes.still s (v' := .bool (if isNeq op then !r else r)) ?_ (VR.of0 rfl)
  have hfo : P.fieldsOf t = fs := by simp [Program.fieldsOf, hu]
  have hsz1 : p'.size = fs.size := by have := r1.1; simp at this hpl; omega
  have hsz2 : q'.size = fs.size := by have := r2.1; simp at this hql; omega
  have hrun : (Op.equalIn 10000 t (.agg p') (.agg q')).run P w = .ok r w := by
    rw [run_equalIn_struct w 9999 t p' q' (by rw [hfo]; exact hu) hst, hfo]
    refine eqCells_eqFields 9998 fs.toList 0 p' q' r ?_ (by simpa using hr') (by simpa using hsz1) (by simpa using hsz2)
    unfold flatInts at hfl
    simpa using hfl
  rcases hop with rfl | rfl
  · simp [execOp, ho, e1, e2, run_eqGuard_agg w .eql t x y p' q' hg, run_eql_struct, hrun, isNeq]
  · simp [execOp, ho, e1, e2, run_eqGuard_agg w .neq t x y p' q' hg, run_neq_struct, hrun, isNeq]

theorem sim0_VR0 {m : MM} {v v' : Value} (h : sim0 v = true) (r : VR m v v') : VR0 m v v' := by
  rcases r.to1 (by cases v <;> first | rfl | (simp [sim0] at h)) with r | ⟨g, f, c, f', c', rfl, _⟩
  · exact r
  · simp [sim0] at h

theorem cOpds_does : ∀ (xs : List Operand) (xs' : List Opd), cOpds xs = some xs' → (∀ t, Operand.tmp t ∈ xs → VR m (e t) (a.eval (.tmp t))) →
    All2 (VR m) (xs'.map (·.ev e)) (xs.map a.eval)
  | [], xs', h, _ => by simp only [cOpds, Option.some.injEq] at h; subst h; exact All2.nil
  | x :: xs, xs', h, hu => by
    simp only [cOpds, Option.bind_eq_some_iff, Option.map_eq_some_iff] at h
    obtain ⟨x', hx, xs1, h1, rfl⟩ := h
    refine All2.cons ?_ (cOpds_does xs xs1 h1 fun t ht => hu t (by simp [ht]))
    cases x with
    | tmp t => cases hx; exact hu t (by simp)
    | const v => exact OkU.ev (xs := #[.const v]) (fun t ht => by simp at ht) (by simp) hx
    | func f => exact OkU.ev (xs := #[.func f]) (fun t ht => by simp at ht) (by simp) hx
    | global g => cases hx

theorem does_mkf {f : Nat} {xs ys : Array Operand} (ho : o.op = .makeFunc (.func f) xs ys) {xs' ys' : List Opd} (hx : cOpds xs.toList = some xs') (hy : cOpds ys.toList = some ys')
    (h1 : (xs'.map (·.ev e)).all sim0 = true) (h2 : (ys'.map (·.ev e)).all sim0 = true) (s : Sim lo base m H w.heap) (u : OkU m e a o.op.operands) :
    OpDoes P o a w lo base m H (.func (.func f) (xs'.map (·.ev e)).toArray (ys'.map (·.ev e)).toArray) H := by
  have r1 := cOpds_does (e := e) (m := m) (a := a) xs.toList xs' hx (fun t ht => u t (by simp [ho, Op.operands]; exact .inl (by simpa using ht)))
  have r2 := cOpds_does (e := e) (m := m) (a := a) ys.toList ys' hy (fun t ht => u t (by simp [ho, Op.operands]; exact .inr (by simpa using ht)))
  refine OpDoes.still s (v' := .func (.func f) (xs.map a.eval) (ys.map a.eval)) ?_ (VR.of1 (.inr ⟨f, _, _, _, _, rfl, rfl, ?_, ?_⟩))
  · simp [execOp, ho, Instr.makeFunc]
  · simpa [Array.toList_map] using r1.mono fun x y hm r => sim0_VR0 (List.all_eq_true.1 h1 _ hm) r
  · simpa [Array.toList_map] using r2.mono fun x y hm r => sim0_VR0 (List.all_eq_true.1 h2 _ hm) r

theorem get_flatten_replicate (z : List Value) : ∀ (n j : Nat) (v : Value), ((List.replicate n z).flatten)[j]? = some v → 0 < z.length ∧ j < n * z.length ∧ z[j % z.length]? = some v
  | 0, j, v, h => by simp at h
  | n + 1, j, v, h => by
    simp only [List.replicate_succ, List.flatten_cons, List.getElem?_append] at h
    split at h
    · rename_i hj
      refine ⟨by omega, by rw [Nat.succ_mul]; omega, ?_⟩
      rw [Nat.mod_eq_of_lt hj]; exact h
    · rename_i hj
      obtain ⟨h1, h2, h3⟩ := get_flatten_replicate z n _ v h
      refine ⟨h1, by rw [Nat.succ_mul]; omega, ?_⟩
      rw [Nat.mod_eq_sub_mod (by omega)]
      exact h3

theorem does_mks {t el : TypeId} {x y : Operand} (ho : o.op = .makeSlice t x y) (hu : P.underlying t = some (.slice el)) {i : TypeInfo} (hi : P.info? el = some i) {z : Value} (hz : i.zero = some z)
    (hpos : 0 < i.size) (hc : z.cells.toList.all okC = true) (hsz : z.cells.size = i.size) {x' y' : Opd} (hx : cOpd x = some x') (hy : cOpd y = some y') {k k' : IntKind} {n : Int} (hp : x'.ev e = .int k n) (hq : y'.ev e = .int k' n)
    (h0 : 0 ≤ n) (hb : n * i.bytes ≤ 140737488355328) (h63 : n ≤ 9223372036854775807) (s : Sim lo base m H w.heap) (u : OkU m e a o.op.operands) :
    OpDoes P o a w lo base m H (sli H.length 0 n.toNat) (H ++ [⟨(List.replicate n.toNat z.cells.toList).flatten, i.size, el, true, true⟩]) := by
  have h1 := u.ev (x := x) (by simp [ho, Op.operands]) hx
  have h2 := u.ev (x := y) (by simp [ho, Op.operands]) hy
  rw [hp] at h1
  rw [hq] at h2
  have hr := run_make (P := P) w t el i z hu hi hz k k' n n h0 (Int.le_refl _) (by rw [Int.mul_comm]; omega) h63
  have key := OpDoes.newB (P := P) (o := o) (a := a) (base := base) s ⟨(List.replicate n.toNat z.cells.toList).flatten, i.size, el, true, true⟩ (madeCells z.cells (n.toNat * i.size)) el n.toNat n.toNat true
    ⟨w, rfl, Below.refl _ _, ?_⟩ ?_ (fun _ => rfl) ?_ (fun _ => ⟨Nat.le_refl _, by rw [size_madeCells]; exact Nat.le_refl _⟩)
  · simpa using key
  · simp [execOp, ho, h1.int, h2.int, hr]
  · intro j v hj
    obtain ⟨q1, q2, q3⟩ := get_flatten_replicate _ _ _ _ hj
    simp only [Array.length_toList] at q1 q2 q3
    refine ⟨v, ?_, VR1.okC (List.all_eq_true.1 hc _ (List.mem_of_getElem? q3))⟩
    have hlt : j % z.cells.size < z.cells.size := Nat.mod_lt _ q1
    unfold madeCells
    rw [Array.getElem?_map, Array.getElem?_range]
    rw [hsz] at q2
    rw [if_pos q2]
    simp only [Option.map_some, Option.some.injEq]
    rw [getElem!_pos z.cells _ hlt]
    have : z.cells[j % z.cells.size]? = some v := by simpa using q3
    rw [Array.getElem?_eq_getElem hlt] at this
    simpa using this
  · intro _ h
    rw [size_madeCells]
    have h3 := congrArg List.length (show (List.replicate n.toNat z.cells.toList).flatten = [] from h)
    simp only [List.length_flatten, List.map_replicate, List.sum_replicate_nat, Array.length_toList, List.length_nil, hsz] at h3
    exact h3

theorem bound_does {n d : Nat} {cap : Nat} (hn : n ≤ cap) {x : Option Operand} {x' : Option Opd} (hx : cOptO x = some x') {r : Nat} (hr : subB n e d x' = some r) (hu : ∀ t, x = some (.tmp t) → VR m (e t) (a.eval (.tmp t))) :
    (x = none ∧ r = d) ∨ ∃ y k i, x = some y ∧ a.eval y = .int k i ∧ 0 ≤ i ∧ i ≤ n ∧ r = i.toNat := by
  cases x with
  | none => cases hx; simp only [subB, Option.some.injEq] at hr; exact .inl ⟨rfl, hr.symm⟩
  | some x =>
    simp only [cOptO, Option.map_eq_some_iff] at hx
    obtain ⟨y', hy, rfl⟩ := hx
    have hv : VR m (y'.ev e) (a.eval x) := by
      cases x with
      | tmp t => cases hy; exact hu t rfl
      | const v => exact OkU.ev (xs := #[.const v]) (fun t ht => by simp at ht) (by simp) hy
      | func f => exact OkU.ev (xs := #[.func f]) (fun t ht => by simp at ht) (by simp) hy
      | global g => cases hy
    simp only [subB] at hr
    split at hr
    · rename_i k i he
      rw [he] at hv
      split at hr
      · rename_i hb
        simp only [Option.some.injEq] at hr
        exact .inr ⟨x, k, i, rfl, hv.int, hb.1, hb.2, hr.symm⟩
      · cases hr
    · cases hr

theorem does_sub {t el : TypeId} {x : Operand} {l h : Option Operand} (ho : o.op = .slice t x l h none) (hu : P.underlying t = some (.slice el)) {i : TypeInfo} (hi : P.info? el = some i) (hpos : 0 < i.size)
    {x' : Opd} {l' h' : Option Opd} (hx : cOpd x = some x') (hl : cOptO l = some l') (hh : cOptO h = some h') {ad : Option Addr} {n c' : Nat} (he : x'.ev e = .slice ad n c') {hi' lo' : Nat}
    (h1 : subB n e n h' = some hi') (h2 : subB hi' e 0 l' = some lo') (s : Sim lo base m H w.heap) (u : OkU m e a o.op.operands) :
    OpDoes P o a w lo base m H (.slice (ad.map fun a => ⟨a.block, a.off + lo' * i.size, none⟩) (hi' - lo') (hi' - lo')) H := by
  have hv := u.ev (x := x) (by simp [ho, Op.operands]) hx
  rw [he] at hv
  have hhi : hi' ≤ n := by
    rcases bound_does (a := a) (m := m) (Nat.le_refl n) hh h1 (fun t ht => u t (by simp [ho, Op.operands, ht])) with ⟨_, rfl⟩ | ⟨y, k, j, _, _, q1, q2, rfl⟩ <;> omega
  have hlo : lo' ≤ hi' := by
    rcases bound_does (a := a) (m := m) (Nat.le_refl hi') hl h2 (fun t ht => u t (by simp [ho, Op.operands, ht])) with ⟨_, rfl⟩ | ⟨y, k, j, _, _, q1, q2, rfl⟩ <;> omega
  have hrun : ∀ (A : Option Addr) (c1 : Nat), n ≤ c1 → a.eval x = .slice A n c1 →
      (execOp a.eval o).run P w = .ok (.value (.slice (if c1 = lo' then A else A.map (·.add (lo' * i.size))) (hi' - lo') (c1 - lo'))) w := by
    intro A c1 hc hax
    have b1 := bound_does (a := a) (m := m) hc hh h1 (fun t ht => u t (by simp [ho, Op.operands, ht]))
    have b2 := bound_does (a := a) (m := m) (Nat.le_refl hi') hl h2 (fun t ht => u t (by simp [ho, Op.operands, ht]))
    have hsb : (Instr.sliceBounds true n c1 (l.map a.eval) (h.map a.eval) none).run P w = .ok (lo', hi', c1) w := by
      rcases b1 with ⟨rfl, rfl⟩ | ⟨y, k, j, rfl, ey, q1, q2, rfl⟩
      · rcases b2 with ⟨rfl, rfl⟩ | ⟨y2, k2, j2, rfl, ey2, q3, q4, rfl⟩
        · simp [Instr.sliceBounds]
        · simp [Instr.sliceBounds, ey2, run_sliceBound w k2 j2 _ _ q3 q4]
      · rcases b2 with ⟨rfl, rfl⟩ | ⟨y2, k2, j2, rfl, ey2, q3, q4, rfl⟩
        · simp [Instr.sliceBounds, ey, run_sliceBound w k j c1 _ q1 (by omega)]
        · simp [Instr.sliceBounds, ey, ey2, run_sliceBound w k j c1 _ q1 (by omega), run_sliceBound w k2 j2 _ _ q3 q4]
    simp [execOp, ho, hax, Instr.sliceAt, Instr.slice, run_underlying hu, hsb, sizeOf, typeInfo, hi]
  cases ad with
  | none =>
    obtain ⟨rfl, hax⟩ := hv.slN
    have h00 : hi' = 0 := by omega
    subst h00
    have h01 : lo' = 0 := by omega
    subst h01
    refine OpDoes.still s (hrun none 0 (Nat.le_refl _) hax) ?_
    exact VR.of0 ⟨rfl, by simp⟩
  | some ad =>
    obtain ⟨mb, hm, _, c1, hax, hc, hcp⟩ | ⟨rfl, hoff, A, c1, hax⟩ := hv.sl
    · refine OpDoes.still s (hrun _ c1 hc hax) (VR.of0 ?_)
      rcases Nat.eq_zero_or_pos lo' with h0 | hp
      · subst h0
        left
        refine ⟨mb, hm, rfl, c1 - 0, ?_, by omega, fun h0 => by simpa using hcp (by simpa using h0)⟩
        simp only [Nat.zero_mul, Nat.add_zero, Addr.add_zero', Option.map_some, ite_self]
      · rcases Nat.eq_zero_or_pos (hi' - lo') with h0 | hp2
        · right
          refine ⟨h0, ?_, _, _, by rw [h0]⟩
          have : 0 < lo' * i.size := Nat.mul_pos hp hpos
          show 0 < ad.off + lo' * i.size
          omega
        · left
          refine ⟨mb, hm, rfl, c1 - lo', ?_, by omega, fun h0 => ?_⟩
          · rw [if_neg (by omega)]
            simp [Addr.add_lit, Nat.add_assoc]
          · have : 0 < lo' * i.size := Nat.mul_pos hp hpos
            have h0' : ad.off + lo' * i.size = 0 := h0
            omega
    · have h00 : hi' = 0 := by omega
      subst h00
      have h01 : lo' = 0 := by omega
      subst h01
      refine OpDoes.still s (hrun A c1 (by omega) hax) (VR.of0 (.inr ⟨by simp, by simpa using hoff, _, _, rfl⟩))

theorem does_app_none {x y : Operand} {t el : TypeId} (ho : o.op = .call ⟨.builtin .append, #[x, y], #[t, t]⟩) (hu : P.underlying t = some (.slice el)) {i : TypeInfo} (hi : P.info? el = some i) {x' y' : Opd} (hx : cOpd x = some x') (hy : cOpd y = some y')
    {ad : Option Addr} {c' : Nat} (he : y'.ev e = .slice ad 0 c') (hsl : ∃ b n c, x'.ev e = .slice b n c) (s : Sim lo base m H w.heap) (u : OkU m e a o.op.operands) : OpDoes P o a w lo base m H (x'.ev e) H := by
  have h1 := u.ev (x := x) (by simp [ho, Op.operands, Call.operands]) hx
  have h2 := u.ev (x := y) (by simp [ho, Op.operands, Call.operands]) hy
  obtain ⟨b, n, c, hxs⟩ := hsl
  refine OpDoes.still s (v' := a.eval x) ?_ h1
  rw [he] at h2
  have hys : ∃ A c1, a.eval y = .slice A 0 c1 := by
    cases ad with
    | none => obtain ⟨_, h⟩ := h2.slN; exact ⟨_, _, h⟩
    | some ad =>
      obtain ⟨mb, _, _, c1, hax, _⟩ | ⟨_, _, A, c1, hax⟩ := h2.sl
      · exact ⟨_, _, hax⟩
      · exact ⟨_, _, hax⟩
  obtain ⟨A, c1, hay⟩ := hys
  rw [hxs] at h1
  have hxs' : ∃ A n c1, a.eval x = .slice A n c1 ∧ n ≤ c1 := by
    cases b with
    | none => obtain ⟨_, h⟩ := h1.slN; exact ⟨_, _, _, h, Nat.le_refl _⟩
    | some ad =>
      obtain ⟨mb, _, _, c1, hax, hc, _⟩ | ⟨_, _, A, c1, hax⟩ := h1.sl
      · exact ⟨_, _, _, hax, hc⟩
      · exact ⟨_, _, _, hax, Nat.zero_le _⟩
  obtain ⟨A2, n2, c2, hax, hle⟩ := hxs'
  have hf : (Builtin.firstCells i.size 0 (.slice A 0 c1)).run P w = .ok #[] w := by
    cases A <;> simp [Builtin.firstCells, loadCells, loadCellsFrom]
  cases A2 <;> simp [execOp, ho, resolve, hax, hay, invoke, builtin, Builtin.append_, run_underlying hu, sizeOf, typeInfo, hi, Builtin.lenOf, hle, hf, storeCells]

theorem does_app_nil {x y : Operand} {t el : TypeId} (ho : o.op = .call ⟨.builtin .append, #[x, y], #[t, t]⟩) (hu : P.underlying t = some (.slice el)) {i : TypeInfo} (hi : P.info? el = some i) {z : Value} (hz : i.zero = some z) (hpos : 0 < i.size) (hsz : z.cells.size = i.size)
    {x' y' : Opd} (hx : cOpd x = some x') (hy : cOpd y = some y') {ad : Addr} {n m' c c' : Nat} (hm0 : m' ≠ 0) (he : y'.ev e = .slice (some ad) m' c') (hxs : x'.ev e = .slice none n c) {ys : List Value} (hg : getCells H ad.block ad.off (m' * i.size) = some ys)
    (hb : m' * i.bytes ≤ 140737488355328) (h63 : m' ≤ 9223372036854775807) (s : Sim lo base m H w.heap) (u : OkU m e a o.op.operands) : OpDoes P o a w lo base m H (sli H.length 0 m') (H ++ [⟨ys, i.size, el, true, true⟩]) := by
  have h1 := u.ev (x := x) (by simp [ho, Op.operands, Call.operands]) hx
  have h2 := u.ev (x := y) (by simp [ho, Op.operands, Call.operands]) hy
  rw [hxs] at h1
  rw [he] at h2
  obtain ⟨_, hax⟩ := h1.slN
  obtain ⟨mb, hmb, _, c1, hay, _⟩ | ⟨h0, _⟩ := h2.sl
  case inr => exact absurd h0 hm0
  obtain ⟨ys', r1, r2, r3⟩ := s.read hg hmb
  have hl : ys'.length = m' * i.size := by rw [← r1.1, r3]
  have hr := run_append_nil (P := P) w t o.type el i z hu hi hz ⟨mb.blk, mb.off + ad.off, none⟩ m' c1 ys' hl (fun j v hj => by rw [Addr.add_lit]; exact r2 j v hj) (by omega) (by omega) (by omega)
  have hge := grownCap_ge w m' 0 el
  have hysn : ys ≠ [] := fun h => by
    have h1 : m' * i.size = 0 := by rw [← hl, ← r1.1, h]; rfl
    rcases Nat.mul_eq_zero.1 h1 with h1 | h1 <;> omega
  have hcs : (ys'.toArray ++ Builtin.zeroCells z.cells (grownCap w m' 0 el - m')).size = grownCap w m' 0 el * i.size := by
    rw [Array.size_append, size_zeroCells, hsz]
    simp only [List.size_toArray, hl]
    rw [← Nat.add_mul]
    congr 1
    omega
  have key := OpDoes.newB (P := P) (o := o) (a := a) (base := base) s ⟨ys, i.size, el, true, true⟩ (ys'.toArray ++ Builtin.zeroCells z.cells (grownCap w m' 0 el - m')) el (grownCap w m' 0 el) m' true
    ⟨w.drew, rfl, (Below.refl _ _).drew, ?_⟩ ?_ (fun _ => rfl) (fun _ h => absurd h hysn) (fun _ => ⟨hge, by show grownCap w m' 0 el * i.size ≤ _; omega⟩)
  · simpa using key
  · simp [execOp, ho, resolve, hax, hay, invoke, builtin, hr]
  · intro j v hj
    obtain ⟨v', q1, q2⟩ := r1.2 j v hj
    refine ⟨v', ?_, q2⟩
    have hjl := (List.getElem?_eq_some_iff.1 q1).1
    rw [Array.getElem?_append_left (by simpa using hjl)]
    simpa using q1

theorem does_app_lit {x y : Operand} {t el : TypeId} (ho : o.op = .call ⟨.builtin .append, #[x, y], #[t, t]⟩) (hu : P.underlying t = some (.slice el)) {i : TypeInfo} (hi : P.info? el = some i) {z : Value} (hz : i.zero = some z) (hpos : 0 < i.size) (hsz : z.cells.size = i.size)
    {x' y' : Opd} (hx : cOpd x = some x') (hy : cOpd y = some y') {ad bd : Addr} {m' c c' : Nat} (hm0 : m' ≠ 0) (he : y'.ev e = .slice (some ad) m' c') (hxs : x'.ev e = .slice (some bd) 0 c) {ys : List Value} (hg : getCells H ad.block ad.off (m' * i.size) = some ys)
    {k : Blk} (hk : H[bd.block]? = some k) (hoff : bd.off = 0) (happ : k.app = true) (hes : k.es = i.size) (hcs0 : k.cells = [])
    (hb : m' * i.bytes ≤ 140737488355328) (h63 : m' ≤ 9223372036854775807) (s : Sim lo base m H w.heap) (u : OkU m e a o.op.operands) : OpDoes P o a w lo base m H (sli H.length 0 m') (H ++ [⟨ys, i.size, el, true, true⟩]) := by
  have h1 := u.ev (x := x) (by simp [ho, Op.operands, Call.operands]) hx
  have h2 := u.ev (x := y) (by simp [ho, Op.operands, Call.operands]) hy
  rw [hxs] at h1
  rw [he] at h2
  obtain ⟨xb, hxb, _, cx, hax, hncx, hcpx⟩ | ⟨_, h0, _⟩ := h1.sl
  case inr => omega
  obtain ⟨mb, hmb, _, c1, hay, _⟩ | ⟨h0, _⟩ := h2.sl
  case inr => exact absurd h0 hm0
  obtain ⟨z1, z2, z3⟩ := s.zc bd.block xb k hxb hk happ hcs0
  have hcx : cx = 0 := by
    have h3 := hcpx hoff
    rw [z2, hes, z3] at h3
    have h4 : cx * i.size = 0 := by omega
    rcases Nat.mul_eq_zero.1 h4 with h4 | h4 <;> omega
  subst hcx
  rw [z1, hoff] at hax
  simp only [Nat.add_zero] at hax
  obtain ⟨ys', r1, r2, r3⟩ := s.read hg hmb
  have hl : ys'.length = m' * i.size := by rw [← r1.1, r3]
  have hread : ∀ j v, ys'[j]? = some v → w.cell? ((⟨mb.blk, mb.off + ad.off, none⟩ : Addr).add j) = some v := fun j v hj => by rw [Addr.add_lit]; exact r2 j v hj
  have hysn : ys ≠ [] := fun h => by
    have h1 : m' * i.size = 0 := by rw [← hl, ← r1.1, h]; rfl
    rcases Nat.mul_eq_zero.1 h1 with h1 | h1 <;> omega
  have hgf := growslice_fits (need := 0 + m') (old := 0) (by omega) (by simpa using hb)
  have hr := run_append_grow (P := P) w t o.type el i z hu hi hz ⟨xb.blk, 0, none⟩ 0 0 [] (by simp) (fun j v hj => by simp at hj) ⟨mb.blk, mb.off + ad.off, none⟩ m' c1 ys' hl hread (by omega) (by omega) hgf
  have hge := grownCap_ge w (0 + m') 0 el
  generalize hG : grownCap w (0 + m') 0 el = G at hr hge
  have hcs : (([] : List Value).toArray ++ ys'.toArray ++ Builtin.zeroCells z.cells (G - (0 + m'))).size = G * i.size := by
    rw [Array.size_append, Array.size_append, size_zeroCells, hsz]
    simp only [List.size_toArray, hl, List.length_nil, Nat.zero_add]
    rw [← Nat.add_mul]
    congr 1
    omega
  have key := OpDoes.newB (P := P) (o := o) (a := a) (base := base) s ⟨ys, i.size, el, true, true⟩
    (([] : List Value).toArray ++ ys'.toArray ++ Builtin.zeroCells z.cells (G - (0 + m'))) el G m' true
    ⟨w.drew, rfl, (Below.refl _ _).drew, ?_⟩ ?_ (fun _ => rfl) (fun _ h => absurd h hysn) (fun _ => ⟨by omega, by show G * i.size ≤ _; omega⟩)
  · simpa using key
  · simp at hr
    simp [execOp, ho, resolve, hax, hay, invoke, builtin, hr]
  · intro j v hj
    obtain ⟨v', b1, b2⟩ := r1.2 j v hj
    have hjl2 := (List.getElem?_eq_some_iff.1 b1).1
    refine ⟨v', ?_, b2⟩
    rw [Array.getElem?_append_left (by simp; omega), Array.getElem?_append_right (by simp)]
    simpa using b1

theorem does_app {x y : Operand} {t el : TypeId} (ho : o.op = .call ⟨.builtin .append, #[x, y], #[t, t]⟩) (hu : P.underlying t = some (.slice el)) {i : TypeInfo} (hi : P.info? el = some i) {z : Value} (hz : i.zero = some z) (hpos : 0 < i.size) (hsz : z.cells.size = i.size)
    {x' y' : Opd} (hx : cOpd x = some x') (hy : cOpd y = some y') {ad bd : Addr} {n m' c c' : Nat} (hm0 : m' ≠ 0) (he : y'.ev e = .slice (some ad) m' c') (hxs : x'.ev e = .slice (some bd) n c) {ys : List Value} (hg : getCells H ad.block ad.off (m' * i.size) = some ys)
    {k : Blk} (hk : H[bd.block]? = some k) (hlo : lo ≤ bd.block) (hoff : bd.off = 0) (happ : k.app = true) (hes : k.es = i.size) (het : k.et = el) (hlen : k.cells.length = n * i.size)
    (hb : (n + m') * i.bytes ≤ 140737488355328) (h63 : n + m' ≤ 9223372036854775807) (kill : Bool) (s : Sim lo base m H w.heap) (u : OkU m e a o.op.operands) :
    OpDoes P o a w lo base m H (sli H.length 0 (n + m'))
      (H.set bd.block { k with app := false, solo := k.solo && n == 0, cells := if kill then [] else k.cells } ++ [⟨k.cells ++ ys, i.size, el, true, k.solo && (n == 0 || kill)⟩]) := by
  have h1 := u.ev (x := x) (by simp [ho, Op.operands, Call.operands]) hx
  have h2 := u.ev (x := y) (by simp [ho, Op.operands, Call.operands]) hy
  rw [hxs] at h1
  rw [he] at h2
  obtain ⟨xb, hxb, _, cx, hax, hncx, hcpx⟩ | ⟨_, h0, _⟩ := h1.sl
  case inr => omega
  obtain ⟨mb, hmb, _, c1, hay, _⟩ | ⟨h0, _⟩ := h2.sl
  case inr => exact absurd h0 hm0
  obtain ⟨ys', r1, r2, r3⟩ := s.read hg hmb
  have hl : ys'.length = m' * i.size := by rw [← r1.1, r3]
  obtain ⟨o1, o2, o3, cur, o4, o5⟩ := s.own bd.block xb k hlo hxb hk
  obtain ⟨e1, e2⟩ := o3 happ
  obtain ⟨cs0, t0, fr0, q1, q2⟩ := s.cell bd.block xb k hxb hk
  rw [o4] at q1
  simp only [Option.some.injEq, Obj.cells.injEq] at q1
  obtain ⟨rfl, _, _⟩ := q1
  rw [o2, hoff] at hax
  simp only [Nat.add_zero] at hax
  have hcp := hcpx hoff
  rw [e1, hes] at hcp
  have het' : xb.et = el := by rw [e2, het]
  have o4' : w.heap[xb.blk]? = some (.cells cur el (0, 0)) := by rw [← het']; exact o4
  have hnsz : n * i.size ≤ cur.size := by
    have : n * i.size ≤ cx * i.size := Nat.mul_le_mul_right _ hncx
    omega
  have hread : ∀ j v, ys'[j]? = some v → w.cell? ((⟨mb.blk, mb.off + ad.off, none⟩ : Addr).add j) = some v := fun j v hj => by rw [Addr.add_lit]; exact r2 j v hj
  have hflag := s.flag hk (k.solo && n == 0) (fun h => by simp at h; exact h.1) (if kill then [] else k.cells) (by cases kill <;> simp)
  have hlenH : (H.set bd.block { k with app := false, solo := k.solo && n == 0, cells := if kill then [] else k.cells }).length = H.length := by simp
  have hold : ∀ (j : Nat) (v : Value), k.cells[j]? = some v → ∃ v', cur[j]? = some v' ∧ VR1 m v v' := fun j v hj => by
    obtain ⟨v', a1, a2⟩ := q2 j v hj
    rw [o2, Nat.zero_add] at a1
    exact ⟨v', a1, a2⟩
  have hcn : k.cells ++ ys ≠ [] := fun h => by
    have h0 := (List.append_eq_nil_iff.1 h).2
    have h1 : m' * i.size = 0 := by rw [← hl, ← r1.1, h0]; rfl
    rcases Nat.mul_eq_zero.1 h1 with h1 | h1 <;> omega
  by_cases hroom : n + m' ≤ cx
  · have hfit : n * i.size + ys'.length ≤ cur.size := by
      rw [hl, ← Nat.add_mul]
      have : (n + m') * i.size ≤ cx * i.size := Nat.mul_le_mul_right _ hroom
      omega
    have hr := run_append_room (P := P) w t o.type el i hu hi xb.blk n cx cur o4' ⟨mb.blk, mb.off + ad.off, none⟩ m' c1 ys' hl hread (fun v hv => by
      obtain ⟨v0, _, r⟩ := r1.mem_right hv
      exact r.one_right) hroom hfit
    generalize hnew : (cur.toList.take (n * i.size) ++ ys' ++ cur.toList.drop (n * i.size + ys'.length)).toArray = cur' at hr
    have hsz' : cur'.size = cur.size := by rw [← hnew]; simp; omega
    have hpre : ∀ j, j < n * i.size → cur'[j]? = cur[j]? := by
      intro j hj
      rw [← hnew]
      simp only [List.getElem?_toArray, List.append_assoc]
      rw [List.getElem?_append_left (by simp; omega), List.getElem?_take, if_pos hj]
      simp
    have hnews : ∀ j, j < ys'.length → cur'[n * i.size + j]? = ys'[j]? := by
      intro j hj
      rw [← hnew]
      simp only [List.getElem?_toArray, List.append_assoc]
      rw [List.getElem?_append_right (by simp; omega)]
      simp only [List.length_take, Array.length_toList]
      rw [List.getElem?_append_left (by omega)]
      congr 1
      omega
    have hpl := hflag.place (h' := (w.setRow xb.blk cur').heap) ⟨xb.blk, 0, i.size, xb.et, xb.cp⟩ ⟨k.cells ++ ys, i.size, el, true, k.solo && (n == 0 || kill)⟩ cur cur' (n * i.size)
      o1 rfl rfl het' o4 o5 (setRow_size _ _ _) (setRow_heap w _ _ _ _ _ o4) (fun c hc => setRow_other w _ _ _ hc) (by rw [hsz', o5]) hpre (by simp [hlen]) hcn ?_ ?_
    · rw [hlenH] at hpl
      refine ⟨.slice (some ⟨xb.blk, 0, none⟩) (n + m') cx, w.setRow xb.blk cur', _, .inl ?_, MM.put_agree _ _ _, hpl, ?_, ?_, by simp⟩
      · simp [execOp, ho, resolve, hax, hay, invoke, builtin, hr]
      · exact VR.of0 (.inl ⟨_, MM.put_self _ _ _, rfl, cx, by simp, hroom, fun _ => hcp⟩)
      · exact ⟨rfl, rfl, rfl, by simp, fun c hc => setRow_other w _ _ _ (by omega)⟩
    · intro j v hj
      rw [List.getElem?_append] at hj
      split at hj
      · rename_i hjl
        obtain ⟨v', a1, a2⟩ := hold j v hj
        exact ⟨v', by rw [hpre j (by omega)]; exact a1, a2⟩
      · rename_i hjl
        obtain ⟨v', a1, a2⟩ := r1.2 _ v hj
        have hjl2 := (List.getElem?_eq_some_iff.1 a1).1
        refine ⟨v', ?_, a2⟩
        have := hnews _ hjl2
        rw [show n * i.size + (j - k.cells.length) = j by omega] at this
        rw [this, a1]
    · intro b y kb hlob hyb hkb hblk
      rcases get_set hkb with ⟨rfl, rfl, _⟩ | ⟨hbne, hkb⟩
      · refine ⟨rfl, ?_, ?_⟩
        · cases kill <;> simp [hlen]
        · cases kill with
          | true => left; rfl
          | false =>
            by_cases hn0 : n = 0
            · left
              show k.cells = []
              exact List.eq_nil_of_length_eq_zero (by rw [hlen, hn0]; simp)
            · right
              have : (n == 0) = false := by simpa using hn0
              simp [this]
      · obtain ⟨g1, g2⟩ := s.sep bd.block b xb y k kb (Ne.symm hbne) hlo hlob hxb hyb hk hkb hblk.symm
        obtain ⟨g3, g4⟩ := g2 happ
        refine ⟨g3, by omega, ?_⟩
        rcases g1 with g1 | g1 | ⟨g1, g5⟩
        · left; exact List.eq_nil_of_length_eq_zero (by rw [g1] at g4; simpa using g4)
        · exact .inl g1
        · right; exact ⟨g5, by simp [g1]⟩
  · have hgf := growslice_fits (need := n + m') (old := cx) (by omega) hb
    have holds : ∀ j v, (cur.toList.take (n * i.size))[j]? = some v → w.cell? ((⟨xb.blk, 0, none⟩ : Addr).add j) = some v := by
      intro j v hj
      rw [List.getElem?_take] at hj
      split at hj
      · rw [Addr.add_lit, Nat.zero_add]
        simp only [World.cell?, o4, Option.isSome_none, Bool.false_eq_true, if_false]
        simpa using hj
      · cases hj
    have hr := run_append_grow (P := P) w t o.type el i z hu hi hz ⟨xb.blk, 0, none⟩ n cx (cur.toList.take (n * i.size)) (by simp; omega) holds ⟨mb.blk, mb.off + ad.off, none⟩ m' c1 ys' hl hread (by omega) (by omega) hgf
    have hge := grownCap_ge w (n + m') cx el
    generalize hG : grownCap w (n + m') cx el = G at hr hge
    have hcs : ((cur.toList.take (n * i.size)).toArray ++ ys'.toArray ++ Builtin.zeroCells z.cells (G - (n + m'))).size = G * i.size := by
      rw [Array.size_append, Array.size_append, size_zeroCells, hsz]
      simp only [List.size_toArray, hl, List.length_take, Array.length_toList]
      rw [Nat.min_eq_left hnsz, ← Nat.add_mul, ← Nat.add_mul]
      congr 1
      omega
    have key := OpDoes.newB (P := P) (o := o) (a := a) (base := base) hflag ⟨k.cells ++ ys, i.size, el, true, k.solo && (n == 0 || kill)⟩
      ((cur.toList.take (n * i.size)).toArray ++ ys'.toArray ++ Builtin.zeroCells z.cells (G - (n + m'))) el G (n + m') true
      ⟨w.drew, rfl, (Below.refl _ _).drew, ?_⟩ ?_ (fun _ => rfl) (fun _ h => absurd h hcn) (fun _ => ⟨hge, by show G * i.size ≤ _; omega⟩)
    · rw [hlenH] at key
      obtain ⟨v', w', m2, a1, a2, a3, a4, a5, a6⟩ := key
      rw [hlenH] at a2
      exact ⟨v', w', m2, a1, a2, a3, by simpa using a4, a5, by rw [hlenH] at a6; exact a6⟩
    · simp [execOp, ho, resolve, hax, hay, invoke, builtin, hr]
    · intro j v hj
      rw [List.getElem?_append] at hj
      split at hj
      · rename_i hjl
        obtain ⟨v', b1, b2⟩ := hold j v hj
        refine ⟨v', ?_, b2⟩
        rw [Array.getElem?_append_left (by simp; omega), Array.getElem?_append_left (by simp; omega)]
        simp only [List.getElem?_toArray, List.getElem?_take]
        rw [if_pos (by omega)]
        simpa using b1
      · rename_i hjl
        obtain ⟨v', b1, b2⟩ := r1.2 _ v hj
        have hjl2 := (List.getElem?_eq_some_iff.1 b1).1
        refine ⟨v', ?_, b2⟩
        rw [Array.getElem?_append_left (by simp; omega), Array.getElem?_append_right (by simp; omega)]
        simp only [List.getElem?_toArray, List.size_toArray, List.length_take, Array.length_toList]
        rw [Nat.min_eq_left hnsz, ← hlen]
        exact b1

theorem prim_sound0 (hc : cOp0 P c o = some io) (hi : iop lo io e H = some (v, H1)) (s : Sim lo base m H w.heap) (u : OkU m e a o.op.operands) : OpDoes P o a w lo base m H v H1 := by
  cases ho : o.op with
  | move x =>
    simp only [cOp0, ho, Option.map_eq_some_iff] at hc
    obtain ⟨x', hx, rfl⟩ := hc
    simp only [iop, Option.some.injEq, Prod.mk.injEq] at hi
    obtain ⟨rfl, rfl⟩ := hi
    exact does_mov (.inl ho) hx s u
  | assign x =>
    simp only [cOp0, ho, Option.map_eq_some_iff] at hc
    obtain ⟨x', hx, rfl⟩ := hc
    simp only [iop, Option.some.injEq, Prod.mk.injEq] at hi
    obtain ⟨rfl, rfl⟩ := hi
    exact does_mov (.inr ho) hx s u
  | pick x y z =>
    simp only [cOp0, ho, Option.bind_eq_some_iff, Option.map_eq_some_iff] at hc
    obtain ⟨x', hx, y', hy, z', hz, rfl⟩ := hc
    simp only [iop] at hi
    split at hi
    case h_2 => cases hi
    case h_1 t ht =>
      simp only [Option.some.injEq, Prod.mk.injEq] at hi
      obtain ⟨rfl, rfl⟩ := hi
      exact does_pick ho hx hy hz ht s u
  | alloc t =>
    simp only [cOp0, ho, Option.bind_eq_some_iff] at hc
    obtain ⟨i, hi1, z, hz, hc⟩ := hc
    split at hc
    case isFalse => cases hc
    case isTrue hok =>
      cases hc
      simp only [iop, Option.some.injEq, Prod.mk.injEq] at hi
      obtain ⟨rfl, rfl⟩ := hi
      exact does_alloc ho hi1 hz hok s
  | box t x =>
    simp only [cOp0, ho, Option.map_eq_some_iff] at hc
    obtain ⟨x', hx, rfl⟩ := hc
    simp only [iop] at hi
    split at hi
    case isFalse => cases hi
    case isTrue hok =>
      simp only [Option.some.injEq, Prod.mk.injEq] at hi
      obtain ⟨rfl, rfl⟩ := hi
      exact does_box ho hx hok s u
  | build t ps =>
    simp only [cOp0, ho, Option.bind_eq_some_iff] at hc
    obtain ⟨i, hi1, z, hz, hc⟩ := hc
    split at hc
    case h_2 => cases hc
    case h_1 fs hu =>
      split at hc
      case isFalse => cases hc
      case isTrue hok =>
        simp only [Option.bind_eq_some_iff, Option.map_eq_some_iff] at hc
        obtain ⟨pl, hpl, ps', hps, rfl⟩ := hc
        simp only [iop, Option.map_eq_some_iff, Prod.mk.injEq] at hi
        obtain ⟨out, hf, rfl, rfl⟩ := hi
        exact does_build ho hi1 hz hu hok hpl hps hf s u
  | buildSlice t len ps =>
    simp only [cOp0, ho] at hc
    split at hc
    case h_2 => cases hc
    case h_1 el hu =>
      simp only [Option.bind_eq_some_iff] at hc
      obtain ⟨i, hi1, z, hz, hc⟩ := hc
      split at hc
      case isFalse => cases hc
      case isTrue hok =>
        simp only [Option.map_eq_some_iff] at hc
        obtain ⟨ps', hps, rfl⟩ := hc
        simp only [iop, Option.map_eq_some_iff, Prod.mk.injEq] at hi
        obtain ⟨out, hf, rfl, rfl⟩ := hi
        exact does_lit ho hu hi1 hz hok.1 hok.2.1 hok.2.2.1 hok.2.2.2 hps hf s u
  | load t x =>
    simp only [cOp0, ho] at hc
    split at hc
    case h_2 => cases hc
    case h_1 d hu =>
      simp only [Option.bind_eq_some_iff] at hc
      obtain ⟨i, hi1, hc⟩ := hc
      split at hc
      case isFalse => cases hc
      case isTrue hok =>
        simp only [Option.map_eq_some_iff] at hc
        obtain ⟨x', hx, rfl⟩ := hc
        simp only [iop] at hi
        split at hi
        case h_2 => cases hi
        case h_1 ad hp =>
          simp only [Option.bind_eq_some_iff, Option.map_eq_some_iff, Prod.mk.injEq] at hi
          obtain ⟨cs, hg, v', hv, rfl, rfl⟩ := hi
          exact does_load ho hu hi1 hok hx hp hg hv s u
  | store t x y =>
    simp only [cOp0, ho, Option.bind_eq_some_iff] at hc
    obtain ⟨i, hi1, hc⟩ := hc
    split at hc
    case isFalse => cases hc
    case isTrue hok =>
      simp only [Option.bind_eq_some_iff, Option.map_eq_some_iff] at hc
      obtain ⟨x', hx, y', hy, rfl⟩ := hc
      simp only [iop] at hi
      split at hi
      case h_2 => cases hi
      case h_1 ad hp =>
        split at hi
        case h_2 => cases hi
        case h_1 k hk =>
          split at hi
          case isFalse => cases hi
          case isTrue hq =>
            simp only [Option.some.injEq, Prod.mk.injEq] at hi
            obtain ⟨rfl, rfl⟩ := hi
            exact does_store ho hi1 hok hx hy hp hk hq.1 hq.2.1 hq.2.2.1 hq.2.2.2.1 hq.2.2.2.2 s u
  | nilCheck x =>
    simp only [cOp0, ho, Option.map_eq_some_iff] at hc
    obtain ⟨x', hx, rfl⟩ := hc
    simp only [iop] at hi
    split at hi
    case h_1 ad hp =>
      simp only [Option.some.injEq, Prod.mk.injEq] at hi
      obtain ⟨rfl, rfl⟩ := hi
      rw [← hp]
      exact does_nilck ho hx (.inl ⟨_, hp⟩) s u
    case h_2 g f c hp =>
      simp only [Option.some.injEq, Prod.mk.injEq] at hi
      obtain ⟨rfl, rfl⟩ := hi
      rw [← hp]
      exact does_nilck ho hx (.inr ⟨_, _, _, hp⟩) s u
    case h_3 => cases hi
  | binOp op t x y ty =>
    simp only [cOp0, ho, Option.bind_eq_some_iff] at hc
    obtain ⟨x', hx, y', hy, hc⟩ := hc
    split at hc
    case h_1 k hu =>
      cases hc
      simp only [iop, Option.map_eq_some_iff, Prod.mk.injEq] at hi
      obtain ⟨v', hv, rfl, rfl⟩ := hi
      exact does_bin ho hx hy hv s u
    case h_2 hu =>
      split at hc
      case isFalse => cases hc
      case isTrue hok =>
      have hop : op = .eql ∨ op = .neq := by cases op <;> simp [isEqN] at hok <;> simp
      cases hc
      simp only [iop] at hi
      split at hi
      case h_2 => cases hi
      case h_1 p q hp hq =>
        simp only [Option.some.injEq, Prod.mk.injEq] at hi
        obtain ⟨rfl, rfl⟩ := hi
        exact does_beq ho hu hop hx hy hp hq s u
    case h_3 fs hu =>
      split at hc
      case isFalse => cases hc
      case isTrue hok =>
        have hop : op = .eql ∨ op = .neq := by have := hok.1; cases op <;> simp [isEqN] at this <;> simp
        cases hc
        simp only [iop] at hi
        split at hi
        case h_2 => cases hi
        case h_1 p q hp hq =>
          split at hi
          case isFalse => cases hi
          case isTrue hl =>
            simp only [Option.map_eq_some_iff, Prod.mk.injEq] at hi
            obtain ⟨r, hr, rfl, rfl⟩ := hi
            exact does_eqs ho hu hop hok.2.1 hok.2.2.1 hok.2.2.2 hx hy hp hq hl.1 hl.2 hr s u
    case h_4 => cases hc
  | unOp op t x =>
    simp only [cOp0, ho] at hc
    have hc' : ∃ x', cOpd x = some x' ∧ io = .un op x' := by
      cases op <;> simp at hc <;> (obtain ⟨x', hx, rfl⟩ := hc; exact ⟨x', hx, rfl⟩)
    obtain ⟨x', hx, rfl⟩ := hc'
    simp only [iop, Option.map_eq_some_iff, Prod.mk.injEq] at hi
    obtain ⟨v', hv, rfl, rfl⟩ := hi
    exact does_un ho hx hv s u
  | convert sT dT x =>
    simp only [cOp0, ho] at hc
    split at hc
    case h_2 => cases hc
    case h_1 d k hs hd =>
      simp only [Option.map_eq_some_iff] at hc
      obtain ⟨x', hx, rfl⟩ := hc
      simp only [iop] at hi
      split at hi
      case h_2 => cases hi
      case h_1 k0 n he =>
        simp only [Option.some.injEq, Prod.mk.injEq] at hi
        obtain ⟨rfl, rfl⟩ := hi
        exact does_conv ho hs hd hx he s u
  | makeSlice t l n =>
    simp only [cOp0, ho] at hc
    split at hc
    case h_2 => cases hc
    case h_1 el hu =>
      simp only [Option.bind_eq_some_iff] at hc
      obtain ⟨i, hi1, z, hz, hc⟩ := hc
      split at hc
      case isFalse => cases hc
      case isTrue hok =>
        simp only [Option.bind_eq_some_iff, Option.map_eq_some_iff] at hc
        obtain ⟨x', hx, y', hy, rfl⟩ := hc
        simp only [iop] at hi
        split at hi
        case h_2 => cases hi
        case h_1 k n k' n' hp hq =>
          split at hi
          case isFalse => cases hi
          case isTrue hl =>
            simp only [Option.some.injEq, Prod.mk.injEq] at hi
            obtain ⟨rfl, rfl⟩ := hi
            obtain ⟨h0, rfl, hb, h63⟩ := hl
            exact does_mks ho hu hi1 hz hok.1 hok.2.1 hok.2.2 hx hy hp hq h0 hb h63 s u
  | slice t x l h mx =>
    cases mx with
    | some mx => simp only [cOp0, ho] at hc; cases hc
    | none =>
      simp only [cOp0, ho] at hc
      split at hc
      case h_2 => cases hc
      case h_1 el hu =>
        simp only [Option.bind_eq_some_iff] at hc
        obtain ⟨i, hi1, hc⟩ := hc
        split at hc
        case isFalse => cases hc
        case isTrue hok =>
          simp only [Option.bind_eq_some_iff, Option.map_eq_some_iff] at hc
          obtain ⟨x', hx, l', hl, h', hh, rfl⟩ := hc
          simp only [iop] at hi
          split at hi
          case h_2 => cases hi
          case h_1 ad n c' he =>
            split at hi
            case h_2 => cases hi
            case h_1 q1 hq1 =>
              split at hi
              case h_2 => cases hi
              case h_1 q2 hq2 =>
                simp only [Option.some.injEq, Prod.mk.injEq] at hi
                obtain ⟨rfl, rfl⟩ := hi
                exact does_sub ho hu hi1 hok hx hl hh he hq1 hq2 s u
  | fieldAddr sT x f =>
    simp only [cOp0, ho] at hc
    split at hc
    case h_2 => cases hc
    case h_1 fs hu =>
      simp only [Option.bind_eq_some_iff] at hc
      obtain ⟨fd, hf, i, hi1, hc⟩ := hc
      split at hc
      case isTrue => cases hc
      case isFalse hok =>
        simp only [Option.map_eq_some_iff] at hc
        obtain ⟨x', hx, rfl⟩ := hc
        simp only [iop] at hi
        split at hi
        case h_2 => cases hi
        case h_1 ad he =>
          simp only [Option.some.injEq, Prod.mk.injEq] at hi
          obtain ⟨rfl, rfl⟩ := hi
          exact does_fad ho hu hf hi1 hok hx he s u
  | field sT x f =>
    simp only [cOp0, ho] at hc
    split at hc
    case h_2 => cases hc
    case h_1 fs hu =>
      simp only [Option.bind_eq_some_iff] at hc
      obtain ⟨fd, hf, i, hi1, d, hd, hc⟩ := hc
      split at hc
      case isFalse => cases hc
      case isTrue hok =>
        simp only [Option.map_eq_some_iff] at hc
        obtain ⟨x', hx, rfl⟩ := hc
        simp only [iop] at hi
        split at hi
        case h_2 => cases hi
        case h_1 cs he =>
          split at hi
          case isFalse => cases hi
          case isTrue hle =>
            simp only [Option.map_eq_some_iff, Prod.mk.injEq] at hi
            obtain ⟨v', hv, rfl, rfl⟩ := hi
            exact does_fld ho hu hf hi1 hd hok hx he hle hv s u
  | indexAddr t x y =>
    simp only [cOp0, ho] at hc
    split at hc
    case h_2 => cases hc
    case h_1 el hu =>
      simp only [Option.bind_eq_some_iff, Option.map_eq_some_iff] at hc
      obtain ⟨i, hi1, x', hx, y', hy, rfl⟩ := hc
      simp only [iop] at hi
      split at hi
      case h_2 => cases hi
      case h_1 ad n c' k j he hj =>
        split at hi
        case isFalse => cases hi
        case isTrue hb =>
          simp only [Option.some.injEq, Prod.mk.injEq] at hi
          obtain ⟨rfl, rfl⟩ := hi
          exact does_iad ho hu hi1 hx hy he hj hb.1 hb.2 s u
  | extract x i =>
    simp only [cOp0, ho, Option.map_eq_some_iff] at hc
    obtain ⟨x', hx, rfl⟩ := hc
    simp only [iop] at hi
    split at hi
    case h_2 => cases hi
    case h_1 vs he =>
      simp only [Option.map_eq_some_iff, Prod.mk.injEq] at hi
      obtain ⟨v', hv, rfl, rfl⟩ := hi
      exact does_ext ho hx he hv s u
  | makeFunc fn xs ys =>
    cases fn with
    | func f =>
      simp only [cOp0, ho, Option.bind_eq_some_iff, Option.map_eq_some_iff] at hc
      obtain ⟨xs', hx, ys', hy, rfl⟩ := hc
      simp only [iop] at hi
      split at hi
      case isFalse => cases hi
      case isTrue hok =>
        simp only [Option.some.injEq, Prod.mk.injEq] at hi
        obtain ⟨rfl, rfl⟩ := hi
        exact does_mkf ho hx hy hok.1 hok.2 s u
    | _ => simp only [cOp0, ho] at hc; cases hc
  | call cl =>
    obtain ⟨callee, ⟨args⟩, ⟨ts⟩⟩ := cl
    cases callee with
    | value f => simp only [cOp0, ho] at hc; cases hc
    | invoke r n => simp only [cOp0, ho] at hc; cases hc
    | builtin b =>
      cases b with
      | len =>
        simp only [cOp0, ho] at hc
        split at hc
        case h_2 => cases hc
        case h_1 _ _ x t ts' =>
          split at hc
          case h_2 => cases hc
          case h_1 el hu =>
            simp only [Option.map_eq_some_iff] at hc
            obtain ⟨x', hx, rfl⟩ := hc
            simp only [iop] at hi
            split at hi
            case h_2 => cases hi
            case h_1 ad n c' he =>
              simp only [Option.some.injEq, Prod.mk.injEq] at hi
              obtain ⟨rfl, rfl⟩ := hi
              exact does_len ho (by simp) hu hx he s u
      | max =>
        simp only [cOp0, ho] at hc
        split at hc
        case h_2 => cases hc
        case h_1 _ x y =>
          simp only [Option.bind_eq_some_iff, Option.map_eq_some_iff] at hc
          obtain ⟨x', hx, y', hy, rfl⟩ := hc
          simp only [iop] at hi
          split at hi
          case h_2 => cases hi
          case h_1 k p k' q he hf =>
            simp only [Option.some.injEq, Prod.mk.injEq] at hi
            obtain ⟨rfl, rfl⟩ := hi
            exact does_max ho hx hy he hf s u
      | append =>
        simp only [cOp0, ho] at hc
        split at hc
        case h_2 => cases hc
        case h_1 _ _ x y t t' =>
          split at hc
          case h_2 => cases hc
          case h_1 el hu =>
            simp only [Option.bind_eq_some_iff] at hc
            obtain ⟨i, hi1, z, hz, hc⟩ := hc
            split at hc
            case isFalse => cases hc
            case isTrue hok =>
              obtain ⟨rfl, hpos, hsz⟩ := hok
              simp only [Option.bind_eq_some_iff, Option.map_eq_some_iff] at hc
              obtain ⟨x', hx, y', hy, rfl⟩ := hc
              simp only [iop] at hi
              split at hi
              case h_2 => cases hi
              case h_1 b n cc ad m' c' hxs he =>
                split at hi
                case isTrue h0 =>
                  simp only [Option.some.injEq, Prod.mk.injEq] at hi
                  obtain ⟨rfl, rfl⟩ := hi
                  subst h0
                  rw [← hxs]
                  exact does_app_none ho hu hi1 hx hy he ⟨_, _, _, hxs⟩ s u
                case isFalse h0 =>
                  cases ad with
                  | none => cases hi
                  | some ad =>
                    simp only at hi
                    split at hi
                    case h_1 => cases hi
                    case h_2 ys hg =>
                      cases b with
                      | none =>
                        simp only at hi
                        split at hi
                        case isFalse => cases hi
                        case isTrue hb =>
                          simp only [Option.some.injEq, Prod.mk.injEq] at hi
                          obtain ⟨rfl, rfl⟩ := hi
                          exact does_app_nil ho hu hi1 hz hpos hsz hx hy h0 he hxs hg hb.1 hb.2 s u
                      | some b =>
                        simp only at hi
                        split at hi
                        case h_1 => cases hi
                        case h_2 k hk =>
                          split at hi
                          case isFalse =>
                            split at hi
                            case isFalse => cases hi
                            case isTrue hb =>
                              simp only [Option.some.injEq, Prod.mk.injEq] at hi
                              obtain ⟨rfl, rfl⟩ := hi
                              obtain ⟨b1, b2, b3, b4, b5, rfl, b7, b8⟩ := hb
                              exact does_app_lit ho hu hi1 hz hpos hsz hx hy h0 he hxs hg hk b1 b2 b3 b5 b7 b8 s u
                          case isTrue hb =>
                            simp only [Option.some.injEq, Prod.mk.injEq] at hi
                            obtain ⟨rfl, rfl⟩ := hi
                            obtain ⟨b1, b2, b3, b4, b5, b6, b7, b8⟩ := hb
                            exact does_app ho hu hi1 hz hpos hsz hx hy h0 he hxs hg hk b1 b2 b3 b4 b5 b6 b7 b8 _ s u
      | _ => simp only [cOp0, ho] at hc; cases hc
  | _ => simp only [cOp0, ho] at hc; cases hc

theorem prim_sound (hc : cOp P c o = some io) (hi : iop lo io e H = some (v, H1)) (s : Sim lo base m H w.heap) (u : OkU m e a o.op.operands) : OpDoes P o a w lo base m H v H1 := by
  unfold cOp at hc
  split at hc
  · simp only [Option.bind_eq_some_iff, Option.map_eq_some_iff] at hc
    obtain ⟨f', _, xs', _, rfl⟩ := hc
    simp [iop] at hi
  · exact prim_sound0 (Option.filter_eq_some_iff.1 hc).1 hi s u

end
end Go.Proofs.YtiekbdijpfnagaaI
end
end
