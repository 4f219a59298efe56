/- The ideal machine: a small evaluator of values over numbered blocks, to which the given program's functions are compared. Nothing here speaks of one program. -/
import Derived.Tactics
import Derived.Below
import Derived.Orders
set_option linter.unusedVariables false
namespace Go.Proofs.YtkdhdklggdbgdaaI
open Go Go.RowKit

inductive Opd where
  | t (n : Nat)
  | c (v : Value)
  | f (n : Nat)

inductive Mode where
  | n | k | q

inductive IOp where
  | mov (x : Opd)
  | pick (c a b : Opd)
  | new (z : List Value)
  | box (x : Opd)
  | build (z : List Value) (ps : List (Nat × Nat × Opd))
  | lit (es et len : Nat) (z : List Value) (ps : List (Nat × Nat × Opd))
  | load (agg : Bool) (n : Nat) (x : Opd)
  | store (n : Nat) (x y : Opd)
  | nilck (x : Opd)
  | bin (op : BinOp) (x y : Opd)
  | beq (ne : Bool) (x y : Opd)
  | eqs (ne : Bool) (n : Nat) (x y : Opd)
  | un (op : UnOp) (x : Opd)
  | conv (k : IntKind) (x : Opd)
  | mks (es et bytes : Nat) (z : List Value) (l c : Opd)
  | sub (es : Nat) (x : Opd) (lo hi : Option Opd)
  | fad (off : Nat) (x : Opd)
  | fld (agg : Bool) (off n : Nat) (x : Opd)
  | iad (es : Nat) (x i : Opd)
  | ext (x : Opd) (i : Nat)
  | mkf (fn : Nat) (first cap : List Opd)
  | len (x : Opd)
  | max2 (x y : Opd)
  | app (es et bytes : Nat) (kill : Bool) (x y : Opd)
  | call (m : Mode) (fn : Opd) (args : List Opd)

structure IOper where
  dst : Option Nat
  guard : Option (Nat × Bool)
  op : IOp

inductive ICode where
  | skip
  | reg (draw : Option Nat) (l : List IOper)
  | seq (a b : ICode)
  | cond (c : Opd) (a b : ICode)
  | block (id : Nat) (c : ICode)
  | loop (c : ICode)
  | exit (id : Nat)
  | ret

inductive IRes where
  | t (n : Nat)
  | cell (agg : Bool) (n : Nat) (tmp : Nat)

structure IFn where
  np : Nat
  nt : Nat
  res : List IRes
  body : ICode

structure Blk where
  cells : List Value
  es : Nat
  et : Nat
  app : Bool
  solo : Bool

abbrev Heap := List Blk
abbrev Env := Nat → Value

def Opd.ev (e : Env) : Opd → Value
  | .t n => e n
  | .c v => v
  | .f n => .func (.func n) #[] #[]

def one : Value → Bool
  | .agg _ | .tuple _ => false
  | _ => true

def setL : List Value → Nat → List Value → List Value
  | cs, _, [] => cs
  | cs, o, v :: vs => setL (cs.set o v) (o + 1) vs

def fillL (e : Env) (cs : List Value) : List (Nat × Nat × Opd) → Option (List Value)
  | [] => some cs
  | (o, n, x) :: r =>
    if (x.ev e).cells.toList.length = n ∧ o + n ≤ cs.length ∧ (x.ev e).cells.toList.all one = true then fillL e (setL cs o (x.ev e).cells.toList) r else none

def getCells (H : Heap) (b o n : Nat) : Option (List Value) :=
  match H[b]? with
  | some k => if o + n ≤ k.cells.length then some ((k.cells.drop o).take n) else none
  | none => none

def valOf (agg : Bool) (cs : List Value) : Option Value :=
  if agg then some (.agg cs.toArray) else match cs with
    | [v] => some v
    | _ => none

def ptr (b o : Nat) : Value := .pointer (some ⟨b, o, none⟩)
def sli (b o n : Nat) : Value := .slice (some ⟨b, o, none⟩) n n
def nilS : Value := .slice none 0 0

def binI (op : BinOp) (k : IntKind) (x y : Int) : Option Value :=
  match op with
  | .add => some (.int k (k.wrap (x + y)))
  | .sub => some (.int k (k.wrap (x - y)))
  | .mul => some (.int k (k.wrap (x * y)))
  | .quo => if y = 0 then none else some (.int k (k.wrap (x.tdiv y)))
  | .rem => if y = 0 then none else some (.int k (x.tmod y))
  | .and => some (.int k (k.wrap ((BitVec.ofInt k.bits x &&& BitVec.ofInt k.bits y).toNat : Nat)))
  | .or => some (.int k (k.wrap ((BitVec.ofInt k.bits x ||| BitVec.ofInt k.bits y).toNat : Nat)))
  | .xor => some (.int k (k.wrap ((BitVec.ofInt k.bits x ^^^ BitVec.ofInt k.bits y).toNat : Nat)))
  | .andNot => some (.int k (k.wrap ((BitVec.ofInt k.bits x &&& ~~~ BitVec.ofInt k.bits y).toNat : Nat)))
  | .eql => some (.bool (x == y))
  | .neq => some (.bool (x != y))
  | .lss => some (.bool (decide (x < y)))
  | .leq => some (.bool (decide (x ≤ y)))
  | .gtr => some (.bool (decide (x > y)))
  | .geq => some (.bool (decide (x ≥ y)))
  | .shl => if y < 0 then none else some (.int k (k.wrap (x * 2 ^ (min y.toNat k.bits))))
  | .shr => if y < 0 then none else some (.int k (x.fdiv (2 ^ (min y.toNat k.bits))))

def shiftOp : BinOp → Bool
  | .shl | .shr => true
  | _ => false

def binV (op : BinOp) (x y : Value) : Option Value :=
  match x, y with
  | .int k a, .int k' b => if shiftOp op = true ∨ k = k' then binI op k a b else none
  | _, _ => none

def sim0 : Value → Bool
  | .bool _ | .int _ _ | .string _ | .nilFunc | .pointer _ | .slice _ _ _ => true
  | _ => false

def eqCells : List Value → List Value → Option Bool
  | [], [] => some true
  | .int k a :: xs, .int k' b :: ys => if k = k' then (eqCells xs ys).map ((a == b) && ·) else none
  | _, _ => none

theorem eqCells_cons {v : Value} {xs ys : List Value} {r : Bool} (h : eqCells (v :: xs) ys = some r) :
    ∃ k p q ys1 r', v = .int k p ∧ ys = .int k q :: ys1 ∧ eqCells xs ys1 = some r' ∧ r = ((p == q) && r') := by
  cases ys with
  | nil => cases v <;> simp [eqCells] at h
  | cons y ys =>
    cases v <;> cases y <;> simp only [eqCells] at h <;> try (cases h; done)
    rename_i k p k' q
    by_cases hk : k = k'
    · subst hk
      rw [if_pos rfl] at h
      obtain ⟨r', h1, h2⟩ := Option.map_eq_some_iff.1 h
      exact ⟨k, p, q, ys, r', rfl, rfl, h1, h2.symm⟩
    · rw [if_neg hk] at h; cases h

def unV (op : UnOp) (x : Value) : Option Value :=
  match op, x with
  | .not, .bool b => some (.bool (!b))
  | .neg, .int k n => some (.int k (k.wrap (0 - n)))
  | _, _ => none

def subB (n : Nat) (e : Env) (d : Nat) : Option Opd → Option Nat
  | none => some d
  | some x => match x.ev e with
    | .int _ i => if 0 ≤ i ∧ i ≤ n then some i.toNat else none
    | _ => none

def newBlk (H : Heap) (k : Blk) : Option (Value × Heap) := some (ptr H.length 0, H ++ [k])

/-- One operation that calls nothing: its value and the heap behind it. -/
def iop (lo : Nat) (o : IOp) (e : Env) (H : Heap) : Option (Value × Heap) :=
  match o with
  | .mov x => some (x.ev e, H)
  | .pick c a b => match c.ev e with
    | .bool t => some (if t then a.ev e else b.ev e, H)
    | _ => none
  | .new z => some (ptr H.length 0, H ++ [⟨z, 0, 0, false, true⟩])
  | .box x => if (x.ev e).cells.toList.all one = true then some (ptr H.length 0, H ++ [⟨(x.ev e).cells.toList, 0, 0, false, true⟩]) else none
  | .build z ps => (fillL e z ps).map fun cs => (.agg cs.toArray, H)
  | .lit es et len z ps => (fillL e z ps).map fun cs => (sli H.length 0 len, H ++ [⟨cs, es, et, true, true⟩])
  | .load agg n x => match x.ev e with
    | .pointer (some a) => (getCells H a.block a.off n).bind fun cs => (valOf agg cs).map fun v => (v, H)
    | _ => none
  | .store n x y => match x.ev e with
    | .pointer (some a) => match H[a.block]? with
      | some k =>
        if lo ≤ a.block ∧ k.solo = true ∧ (y.ev e).cells.toList.length = n ∧ a.off + n ≤ k.cells.length ∧ (y.ev e).cells.toList.all one = true
        then some (undef, H.set a.block { k with cells := setL k.cells a.off (y.ev e).cells.toList }) else none
      | none => none
    | _ => none
  | .nilck x => match x.ev e with
    | .pointer (some a) => some (.pointer (some a), H)
    | .func (.func g) first cap => some (.func (.func g) first cap, H)
    | _ => none
  | .bin op x y => (binV op (x.ev e) (y.ev e)).map fun v => (v, H)
  | .beq ne x y => match x.ev e, y.ev e with
    | .bool a, .bool b => some (.bool (if ne then !(a == b) else a == b), H)
    | _, _ => none
  | .eqs ne n x y => match x.ev e, y.ev e with
    | .agg a, .agg b => if a.toList.length = n ∧ b.toList.length = n then (eqCells a.toList b.toList).map fun t => (.bool (if ne then !t else t), H) else none
    | _, _ => none
  | .un op x => (unV op (x.ev e)).map fun v => (v, H)
  | .conv k x => match x.ev e with
    | .int _ n => some (.int k (k.wrap n), H)
    | _ => none
  | .mks es et bytes z l c => match l.ev e, c.ev e with
    | .int _ n, .int _ n' =>
      if 0 ≤ n ∧ n' = n ∧ n * bytes ≤ 140737488355328 ∧ n ≤ 9223372036854775807 then
        some (sli H.length 0 n.toNat, H ++ [⟨(List.replicate n.toNat z).flatten, es, et, true, true⟩]) else none
    | _, _ => none
  | .sub es x l h => match x.ev e with
    | .slice a n _ => match subB n e n h with
      | some h' => match subB h' e 0 l with
        | some l' => some (.slice (a.map fun a => ⟨a.block, a.off + l' * es, none⟩) (h' - l') (h' - l'), H)
        | none => none
      | none => none
    | _ => none
  | .fad off x => match x.ev e with
    | .pointer (some a) => some (ptr a.block (a.off + off), H)
    | _ => none
  | .fld agg off n x => match x.ev e with
    | .agg cs => if off + n ≤ cs.toList.length then (valOf agg ((cs.toList.drop off).take n)).map fun v => (v, H) else none
    | _ => none
  | .iad es x i => match x.ev e, i.ev e with
    | .slice (some a) n _, .int _ j => if 0 ≤ j ∧ j < n then some (ptr a.block (a.off + j.toNat * es), H) else none
    | _, _ => none
  | .ext x i => match x.ev e with
    | .tuple vs => vs.toList[i]?.map fun v => (v, H)
    | _ => none
  | .mkf fn first cap => if (first.map (·.ev e)).all sim0 = true ∧ (cap.map (·.ev e)).all sim0 = true then some (.func (.func fn) (first.map (·.ev e)).toArray (cap.map (·.ev e)).toArray, H) else none
  | .len x => match x.ev e with
    | .slice _ n _ => some (.int .i64 n, H)
    | _ => none
  | .max2 x y => match x.ev e, y.ev e with
    | .int k a, .int _ b => some (.int k (if b > a then b else a), H)
    | _, _ => none
  | .app es et bytes kill x y => match x.ev e, y.ev e with
    | .slice b n c, .slice a m _ =>
      if m = 0 then some (.slice b n c, H) else
      match a with
      | none => none
      | some a => match getCells H a.block a.off (m * es) with
        | none => none
        | some ys => match b with
          | none => if m * bytes ≤ 140737488355328 ∧ m ≤ 9223372036854775807 then some (sli H.length 0 m, H ++ [⟨ys, es, et, true, true⟩]) else none
          | some b => match H[b.block]? with
            | none => none
            | some k =>
              if lo ≤ b.block ∧ b.off = 0 ∧ k.app = true ∧ k.es = es ∧ k.et = et ∧ k.cells.length = n * es ∧ (n + m) * bytes ≤ 140737488355328 ∧ n + m ≤ 9223372036854775807 then
                some (sli H.length 0 (n + m),
                  H.set b.block { k with app := false, solo := k.solo && n == 0, cells := if kill then [] else k.cells } ++
                    [⟨k.cells ++ ys, es, et, true, k.solo && (n == 0 || kill)⟩])
              else none
    | _, _ => none
  | .call _ _ _ => none

inductive X where
  | n
  | e (id : Nat)
  | r

def X.out (id : Nat) : X → X
  | .e i => if i = id then .n else .e i
  | x => x

inductive Task where
  | code (c : ICode)
  | lp (c : ICode)
  | ops (l : List IOper)
  | pre (p : Nat) (l : List IOper)
  | op (d : Option Nat) (o : IOp)

def putE (e : Env) (d : Option Nat) (v : Value) : Env :=
  match d with
  | some d => fun i => if i = d then v else e i
  | none => e

def IOper.runs (o : IOper) (e : Env) : Bool :=
  match o.guard with
  | none => true
  | some (g, w) => match e g with
    | .bool b => b == w
    | _ => false

def ini (args : List Value) : Env := fun i => args.getD i undef

def res1 (e : Env) (H : Heap) : IRes → Option Value
  | .t n => some (e n)
  | .cell agg n t => match e t with
    | .pointer (some a) => (getCells H a.block a.off n).bind (valOf agg)
    | _ => none

def resL (e : Env) (H : Heap) : List IRes → Option (List Value)
  | [] => some []
  | r :: rs => (res1 e H r).bind fun v => (resL e H rs).map (v :: ·)

def notT : Value → Bool
  | .tuple _ => false
  | _ => true

def resV (rs : List IRes) (e : Env) (H : Heap) : Option Value :=
  match rs with
  | [r] => res1 e H r
  | rs => (resL e H rs).bind fun vs => if vs.all notT = true then some (.tuple vs.toArray) else none

def scal1 : Value → Bool
  | .bool _ | .int _ _ | .string _ => true
  | _ => false
def scalA : Value → Bool
  | .agg cs => cs.toList.all scal1
  | v => scal1 v
def scal : Value → Bool
  | .tuple vs => vs.toList.all scalA
  | v => scalA v

/-- What runs: big steps. 'lo': blocks below it are not written. -/
inductive BS (F : Nat → Option IFn) : Nat → Task → Env → Heap → X → Env → Heap → Prop where
  | skip {lo e H} : BS F lo (.code .skip) e H .n e H
  | reg {lo l e H e1 H1} : BS F lo (.ops l) e H .n e1 H1 → BS F lo (.code (.reg none l)) e H .n e1 H1
  | regD {lo p l e H e1 H1} : BS F lo (.pre p l) e H .n e1 H1 → BS F lo (.code (.reg (some p) l)) e H .n e1 H1
  | seqN {lo a b e H e1 H1 x e2 H2} : BS F lo (.code a) e H .n e1 H1 → BS F lo (.code b) e1 H1 x e2 H2 → BS F lo (.code (.seq a b)) e H x e2 H2
  | seqX {lo a b e H e1 H1 x} : x ≠ .n → BS F lo (.code a) e H x e1 H1 → BS F lo (.code (.seq a b)) e H x e1 H1
  | cond {lo c a b e H e1 H1 x t} : c.ev e = .bool t → BS F lo (.code (if t then a else b)) e H x e1 H1 → BS F lo (.code (.cond c a b)) e H x e1 H1
  | block {lo id c e H e1 H1 x} : BS F lo (.code c) e H x e1 H1 → BS F lo (.code (.block id c)) e H (x.out id) e1 H1
  | loop {lo c e H e1 H1 x} : BS F lo (.lp c) e H x e1 H1 → BS F lo (.code (.loop c)) e H x e1 H1
  | lpN {lo c e H e1 H1 x e2 H2} : BS F lo (.code c) e H .n e1 H1 → BS F lo (.lp c) e1 H1 x e2 H2 → BS F lo (.lp c) e H x e2 H2
  | lpX {lo c e H e1 H1 x} : x ≠ .n → BS F lo (.code c) e H x e1 H1 → BS F lo (.lp c) e H x e1 H1
  | exit {lo id e H} : BS F lo (.code (.exit id)) e H (.e id) e H
  | ret {lo e H} : BS F lo (.code .ret) e H .r e H
  | nil {lo e H} : BS F lo (.ops []) e H .n e H
  | skp {lo o r e H e1 H1} : o.runs e = false → BS F lo (.ops r) (putE e o.dst undef) H .n e1 H1 → BS F lo (.ops (o :: r)) e H .n e1 H1
  | cons {lo o r e H e1 H1 e2 H2} : o.runs e = true → BS F lo (.op o.dst o.op) e H .n e1 H1 → BS F lo (.ops r) e1 H1 .n e2 H2 → BS F lo (.ops (o :: r)) e H .n e2 H2
  | pre0 {lo l e H e1 H1} : BS F lo (.ops l) e H .n e1 H1 → BS F lo (.pre 0 l) e H .n e1 H1
  | preSkp {lo p o r e H e1 H1} : o.runs e = false → BS F lo (.pre p r) (putE e o.dst undef) H .n e1 H1 → BS F lo (.pre (p + 1) (o :: r)) e H .n e1 H1
  | preCons {lo p o r e H e1 H1 e2 H2} : o.runs e = true → BS F H.length (.op o.dst o.op) e H .n e1 H1 → BS F lo (.pre p r) e1 H1 .n e2 H2 → BS F lo (.pre (p + 1) (o :: r)) e H .n e2 H2
  | prim {lo d o e H v H1} : iop lo o e H = some (v, H1) → BS F lo (.op d o) e H .n (putE e d v) H1
  | callN {lo d f args e H g first cap fn x e1 H1 v} : f.ev e = .func (.func g) first cap → F g = some fn →
      (first.toList ++ args.map (·.ev e) ++ cap.toList).length = fn.np →
      BS F lo (.code fn.body) (ini (first.toList ++ args.map (·.ev e) ++ cap.toList)) H x e1 H1 → (x = .n ∨ x = .r) → resV fn.res e1 H1 = some v →
      BS F lo (.op d (.call .n f args)) e H .n (putE e d v) H1
  | callK {lo d f args e H g first cap fn x e1 H1 v} : f.ev e = .func (.func g) first cap → F g = some fn →
      (first.toList ++ args.map (·.ev e) ++ cap.toList).length = fn.np →
      BS F H.length (.code fn.body) (ini (first.toList ++ args.map (·.ev e) ++ cap.toList)) H x e1 H1 → (x = .n ∨ x = .r) → resV fn.res e1 H1 = some v →
      BS F lo (.op d (.call .k f args)) e H .n (putE e d v) H1
  | callQ {lo d f args e H g first cap fn x e1 H1 v} : f.ev e = .func (.func g) first cap → F g = some fn →
      (first.toList ++ args.map (·.ev e) ++ cap.toList).length = fn.np →
      BS F H.length (.code fn.body) (ini (first.toList ++ args.map (·.ev e) ++ cap.toList)) H x e1 H1 → (x = .n ∨ x = .r) → resV fn.res e1 H1 = some v → scal v = true →
      BS F lo (.op d (.call .q f args)) e H .n (putE e d v) H

end Go.Proofs.YtkdhdklggdbgdaaI
