/- Texts of this proof, merged: M1. -/
import Derived.Tactics
import Derived.Below
import Derived.Orders
import Derived.Laws.CopyRow
import Derived.Laws.Cells
import Derived.Laws.AppendOwn
section
section
set_option linter.unusedVariables false
namespace Go.Proofs.YtbjeldblaclpnaaGreatI
open Go Go.RowKit
inductive Opd where
 | t (n : Nat)
 | c (v : Value)
 | f (n : Nat)
inductive Mode where
 | n | k | q
inductive IOp where
 | mov (x : Opd)
 | pick (c a b : Opd)
 | new (z : List Value)
 | box (x : Opd)
 | build (z : List Value) (ps : List (Nat × Nat × Opd))
 | lit (es et len : Nat) (z : List Value) (ps : List (Nat × Nat × Opd))
 | load (agg : Bool) (n : Nat) (x : Opd)
 | store (n : Nat) (x y : Opd)
 | nilck (x : Opd)
 | bin (op : BinOp) (x y : Opd)
 | beq (ne : Bool) (x y : Opd)
 | eqs (ne : Bool) (n : Nat) (x y : Opd)
 | un (op : UnOp) (x : Opd)
 | conv (k : IntKind) (x : Opd)
 | mks (es et bytes : Nat) (z : List Value) (l c : Opd)
 | sub (es : Nat) (x : Opd) (lo hi : Option Opd)
 | fad (off : Nat) (x : Opd)
 | fld (agg : Bool) (off n : Nat) (x : Opd)
 | iad (es : Nat) (x i : Opd)
 | ext (x : Opd) (i : Nat)
 | mkf (fn : Nat) (first cap : List Opd)
 | len (x : Opd)
 | max2 (x y : Opd)
 | app (es et bytes : Nat) (kill : Bool) (x y : Opd)
 | call (m : Mode) (fn : Opd) (args : List Opd)
structure IOper where
 dst : Option Nat
 guard : Option (Nat × Bool)
 op : IOp
inductive ICode where
 | skip
 | reg (draw : Option Nat) (l : List IOper)
 | regW (q : Nat) (l : List IOper)
 | seq (a b : ICode)
 | cond (c : Opd) (a b : ICode)
 | block (id : Nat) (c : ICode)
 | loop (c : ICode)
 | exit (id : Nat)
 | ret
inductive IRes where
 | t (n : Nat)
 | cell (agg : Bool) (n : Nat) (tmp : Nat)
structure IFn where
 np : Nat
 nt : Nat
 res : List IRes
 body : ICode
structure Blk where
 cells : List Value
 es : Nat
 et : Nat
 app : Bool
 solo : Bool
abbrev Heap := List Blk
abbrev Env := Nat -> Value
def Opd.ev (e : Env) : Opd -> Value
 | .t n => e n
 | .c v => v
 | .f n => .func (.func n) #[] #[]
def one : Value -> Bool
 | .agg _ | .tuple _ => false
 | _ => true
def setL : List Value -> Nat -> List Value -> List Value
 | cs,_,[] => cs
 | cs,o,v :: vs => setL (cs.set o v) (o + 1) vs
def fillL (e : Env) (cs : List Value) : List (Nat × Nat × Opd) -> Option (List Value)
 | [] => some cs
 | (o,n,x) :: r =>
   if (x.ev e).cells.toList.length = n /\ o + n <= cs.length /\ (x.ev e).cells.toList.all one = true then fillL e (setL cs o (x.ev e).cells.toList) r else none
def getCells (H : Heap) (b o n : Nat) : Option (List Value) :=
 match H[b]? with
 | some k => if o + n <= k.cells.length then some ((k.cells.drop o).take n) else none
 | none => none
def valOf (agg : Bool) (cs : List Value) : Option Value :=
 if agg then some (.agg cs.toArray) else match cs with
  | [v] => some v
  | _ => none
def ptr (b o : Nat) : Value := .pointer (some ⟨b,o,none⟩)
def sli (b o n : Nat) : Value := .slice (some ⟨b,o,none⟩) n n
def nilS : Value := .slice none 0 0
def binI (op : BinOp) (k : IntKind) (x y : Int) : Option Value :=
 match op with
 | .add => some (.int k (k.wrap (x + y)))
 | .sub => some (.int k (k.wrap (x - y)))
 | .mul => some (.int k (k.wrap (x * y)))
 | .quo => if y = 0 then none else some (.int k (k.wrap (x.tdiv y)))
 | .rem => if y = 0 then none else some (.int k (x.tmod y))
 | .and => some (.int k (k.wrap ((BitVec.ofInt k.bits x &&& BitVec.ofInt k.bits y).toNat : Nat)))
 | .or => some (.int k (k.wrap ((BitVec.ofInt k.bits x ||| BitVec.ofInt k.bits y).toNat : Nat)))
 | .xor => some (.int k (k.wrap ((BitVec.ofInt k.bits x ^^^ BitVec.ofInt k.bits y).toNat : Nat)))
 | .andNot => some (.int k (k.wrap ((BitVec.ofInt k.bits x &&& ~~~ BitVec.ofInt k.bits y).toNat : Nat)))
 | .eql => some (.bool (x == y))
 | .neq => some (.bool (x != y))
 | .lss => some (.bool (decide (x < y)))
 | .leq => some (.bool (decide (x <= y)))
 | .gtr => some (.bool (decide (x > y)))
 | .geq => some (.bool (decide (x ≥ y)))
 | .shl => if y < 0 then none else some (.int k (k.wrap (x * 2 ^ (min y.toNat k.bits))))
 | .shr => if y < 0 then none else some (.int k (x.fdiv (2 ^ (min y.toNat k.bits))))
def shiftOp : BinOp -> Bool
 | .shl | .shr => true
 | _ => false
def binV (op : BinOp) (x y : Value) : Option Value :=
 match x,y with
 | .int k a,.int k' b => if shiftOp op = true \/ k = k' then binI op k a b else none
 | _,_ => none
def sim0 : Value -> Bool
 | .bool _ | .int _ _ | .string _ | .nilFunc | .pointer _ | .slice _ _ _ => true
 | _ => false
def eqCells : List Value -> List Value -> Option Bool
 | [],[] => some true
 | .int k a :: xs,.int k' b :: ys => if k = k' then (eqCells xs ys).map ((a == b) && ·) else none
 | _,_ => none
theorem eqCells_cons {v : Value} {xs ys : List Value} {r : Bool} (h : eqCells (v :: xs) ys = some r) :
  ∃ k p q ys1 r',v = .int k p /\ ys = .int k q :: ys1 /\ eqCells xs ys1 = some r' /\ r = ((p == q) && r') := by
 cases ys with
 | nil => cases v <;> simp [eqCells] at h
 | cons y ys =>
   cases v <;> cases y <;> simp only [eqCells] at h <;> try (cases h; done)
   rename_i k p k' q
   by_cases hk : k = k'
   ·subst hk
    rw [if_pos rfl] at h
    obtain ⟨r',h1,h2⟩ := Option.map_eq_some_iff.1 h
    exact ⟨k,p,q,ys,r',rfl,rfl,h1,h2.symm⟩
   ·rw [if_neg hk] at h; cases h
def unV (op : UnOp) (x : Value) : Option Value :=
 match op,x with
 | .not,.bool b => some (.bool (!b))
 | .neg,.int k n => some (.int k (k.wrap (0 - n)))
 | _,_ => none
def subB (n : Nat) (e : Env) (d : Nat) : Option Opd -> Option Nat
 | none => some d
 | some x => match x.ev e with
   | .int _ i => if 0 <= i /\ i <= n then some i.toNat else none
   | _ => none
def iop (lo : Nat) (o : IOp) (e : Env) (H : Heap) : Option (Value × Heap) :=
 match o with
 | .mov x => some (x.ev e,H)
 | .pick c a b => match c.ev e with
   | .bool t => some (if t then a.ev e else b.ev e,H)
   | _ => none
 | .new z => some (ptr H.length 0,H ++ [⟨z,0,0,false,true⟩])
 | .box x => if (x.ev e).cells.toList.all one = true then some (ptr H.length 0,H ++ [⟨(x.ev e).cells.toList,0,0,false,true⟩]) else none
 | .build z ps => (fillL e z ps).map fun cs => (.agg cs.toArray,H)
 | .lit es et len z ps => (fillL e z ps).map fun cs => (sli H.length 0 len,H ++ [⟨cs,es,et,true,true⟩])
 | .load agg n x => match x.ev e with
   | .pointer (some a) => (getCells H a.block a.off n).bind fun cs => (valOf agg cs).map fun v => (v,H)
   | _ => none
 | .store n x y => match x.ev e with
   | .pointer (some a) => match H[a.block]? with
     | some k =>
       if lo <= a.block /\ k.solo = true /\ (y.ev e).cells.toList.length = n /\ a.off + n <= k.cells.length /\ (y.ev e).cells.toList.all one = true
       then some (undef,H.set a.block { k with cells := setL k.cells a.off (y.ev e).cells.toList }) else none
     | none => none
   | _ => none
 | .nilck x => match x.ev e with
   | .pointer (some a) => some (.pointer (some a),H)
   | .func (.func g) first cap => some (.func (.func g) first cap,H)
   | _ => none
 | .bin op x y => (binV op (x.ev e) (y.ev e)).map fun v => (v,H)
 | .beq ne x y => match x.ev e,y.ev e with
   | .bool a,.bool b => some (.bool (if ne then !(a == b) else a == b),H)
   | _,_ => none
 | .eqs ne n x y => match x.ev e,y.ev e with
   | .agg a,.agg b => if a.toList.length = n /\ b.toList.length = n then (eqCells a.toList b.toList).map fun t => (.bool (if ne then !t else t),H) else none
   | _,_ => none
 | .un op x => (unV op (x.ev e)).map fun v => (v,H)
 | .conv k x => match x.ev e with
   | .int _ n => some (.int k (k.wrap n),H)
   | _ => none
 | .mks es et bytes z l c => match l.ev e,c.ev e with
   | .int _ n,.int _ n' =>
     if 0 <= n /\ n' = n /\ n * bytes <= 140737488355328 /\ n <= 9223372036854775807 then
      some (sli H.length 0 n.toNat,H ++ [⟨(List.replicate n.toNat z).flatten,es,et,true,true⟩]) else none
   | _,_ => none
 | .sub es x l h => match x.ev e with
   | .slice a n _ => match subB n e n h with
     | some h' => match subB h' e 0 l with
       | some l' => some (.slice (a.map fun a => ⟨a.block,a.off + l' * es,none⟩) (h' - l') (h' - l'),H)
       | none => none
     | none => none
   | _ => none
 | .fad off x => match x.ev e with
   | .pointer (some a) => some (ptr a.block (a.off + off),H)
   | _ => none
 | .fld agg off n x => match x.ev e with
   | .agg cs => if off + n <= cs.toList.length then (valOf agg ((cs.toList.drop off).take n)).map fun v => (v,H) else none
   | _ => none
 | .iad es x i => match x.ev e,i.ev e with
   | .slice (some a) n _,.int _ j => if 0 <= j /\ j < n then some (ptr a.block (a.off + j.toNat * es),H) else none
   | _,_ => none
 | .ext x i => match x.ev e with
   | .tuple vs => vs.toList[i]?.map fun v => (v,H)
   | _ => none
 | .mkf fn first cap => if (first.map (·.ev e)).all sim0 = true /\ (cap.map (·.ev e)).all sim0 = true then some (.func (.func fn) (first.map (·.ev e)).toArray (cap.map (·.ev e)).toArray,H) else none
 | .len x => match x.ev e with
   | .slice _ n _ => some (.int .i64 n,H)
   | _ => none
 | .max2 x y => match x.ev e,y.ev e with
   | .int k a,.int _ b => some (.int k (if b > a then b else a),H)
   | _,_ => none
 | .app es et bytes kill x y => match x.ev e,y.ev e with
   | .slice b n c,.slice a m _ =>
     if m = 0 then some (.slice b n c,H) else
     match a with
     | none => none
     | some a => match getCells H a.block a.off (m * es) with
       | none => none
       | some ys => match b with
         | none => if m * bytes <= 140737488355328 /\ m <= 9223372036854775807 then some (sli H.length 0 m,H ++ [⟨ys,es,et,true,true⟩]) else none
         | some b => match H[b.block]? with
           | none => none
           | some k =>
             if lo <= b.block /\ b.off = 0 /\ k.app = true /\ k.es = es /\ k.et = et /\ k.cells.length = n * es /\ (n + m) * bytes <= 140737488355328 /\ n + m <= 9223372036854775807 then
              some (sli H.length 0 (n + m),
               H.set b.block { k with app := false,solo := k.solo && n == 0,cells := if kill then [] else k.cells } ++
                [⟨k.cells ++ ys,es,et,true,k.solo && (n == 0 || kill)⟩])
             else if b.off = 0 /\ k.app = true /\ k.es = es /\ k.et = et /\ k.cells = [] /\ n = 0 /\ m * bytes <= 140737488355328 /\ m <= 9223372036854775807 then
              some (sli H.length 0 m,H ++ [⟨ys,es,et,true,true⟩])
             else none
   | _,_ => none
 | .call _ _ _ => none
inductive X where
 | n
 | e (id : Nat)
 | r
def X.out (id : Nat) : X -> X
 | .e i => if i = id then .n else .e i
 | x => x
inductive Task where
 | code (c : ICode)
 | lp (c : ICode)
 | ops (l : List IOper)
 | pre (p : Nat) (l : List IOper)
 | prw (q : Nat) (l : List IOper)
 | prx (X : List Nat) (p : Nat) (l : List IOper)
 | op (d : Option Nat) (o : IOp)
def putE (e : Env) (d : Option Nat) (v : Value) : Env :=
 match d with
 | some d => fun i => if i = d then v else e i
 | none => e
def IOper.runs (o : IOper) (e : Env) : Bool :=
 match o.guard with
 | none => true
 | some (g,w) => match e g with
   | .bool b => b == w
   | _ => false
def ini (args : List Value) : Env := fun i => args.getD i undef
def res1 (e : Env) (H : Heap) : IRes -> Option Value
 | .t n => some (e n)
 | .cell agg n t => match e t with
   | .pointer (some a) => (getCells H a.block a.off n).bind (valOf agg)
   | _ => none
def resL (e : Env) (H : Heap) : List IRes -> Option (List Value)
 | [] => some []
 | r :: rs => (res1 e H r).bind fun v => (resL e H rs).map (v :: ·)
def notT : Value -> Bool
 | .tuple _ => false
 | _ => true
def resV (rs : List IRes) (e : Env) (H : Heap) : Option Value :=
 match rs with
 | [r] => res1 e H r
 | rs => (resL e H rs).bind fun vs => if vs.all notT = true then some (.tuple vs.toArray) else none
def scal1 : Value -> Bool
 | .bool _ | .int _ _ | .string _ => true
 | _ => false
def scalA : Value -> Bool
 | .agg cs => cs.toList.all scal1
 | v => scal1 v
def scal : Value -> Bool
 | .tuple vs => vs.toList.all scalA
 | v => scalA v
def hideB (X : List Nat) (b : Nat) (k : Blk) : Blk := if b ∈ X then ⟨[],0,0,false,false⟩ else k
def hide (X : List Nat) (H : Heap) : Heap := H.mapIdx (hideB X)
def isN : IOp -> Bool
 | .call .n _ _ => true
 | _ => false
def isB : IOp -> Bool
 | .call .n _ _ => true
 | .store _ _ _ => true
 | _ => false
theorem isN_B {o : IOp} (h : isN o = true) : isB o = true := by
 cases o <;> first | (cases h; done) | rfl | skip
 rename_i m f args
 cases m <;> first | rfl | cases h
def pureI : IOp -> Bool
 | .mov _ | .pick _ _ _ | .build _ _ | .bin _ _ _ | .beq _ _ _ | .eqs _ _ _ _ | .un _ _ | .conv _ _ | .sub _ _ _ _ | .fad _ _ | .fld _ _ _ _ | .iad _ _ _ | .ext _ _ | .len _ | .max2 _ _ | .nilck _ => true
 | _ => false
def movO : IOper -> Bool
 | ⟨some _,none,o⟩ => pureI o
 | _ => false
def appO : Option IOper -> Bool
 | some ⟨_,none,.app _ _ _ false _ _⟩ => true
 | some ⟨_,none,.store _ _ _⟩ => true
 | _ => false
def frees (lo : Nat) (H Hm : Heap) : Nat -> List IOper -> Env -> Env -> Prop
 | 0,_,e,e1 => e1 = e
 | n + 1,o :: r,e,e1 => o.guard = none /\ ∃ v,iop lo o.op e H = some (v,H) /\ iop lo o.op e Hm = some (v,Hm) /\ frees lo H Hm n r (putE e o.dst v) e1
 | _ + 1,[],_,_ => False
inductive BS (F : Nat -> Option IFn) : Nat -> Task -> Env -> Heap -> X -> Env -> Heap -> Prop where
 | skip {lo e H} : BS F lo (.code .skip) e H .n e H
 | reg {lo l e H e1 H1} : BS F lo (.ops l) e H .n e1 H1 -> BS F lo (.code (.reg none l)) e H .n e1 H1
 | regD {lo p l e H e1 H1} : BS F lo (.pre p l) e H .n e1 H1 -> BS F lo (.code (.reg (some p) l)) e H .n e1 H1
 | seqN {lo a b e H e1 H1 x e2 H2} : BS F lo (.code a) e H .n e1 H1 -> BS F lo (.code b) e1 H1 x e2 H2 -> BS F lo (.code (.seq a b)) e H x e2 H2
 | seqX {lo a b e H e1 H1 x} : x ≠ .n -> BS F lo (.code a) e H x e1 H1 -> BS F lo (.code (.seq a b)) e H x e1 H1
 | cond {lo c a b e H e1 H1 x t} : c.ev e = .bool t -> BS F lo (.code (if t then a else b)) e H x e1 H1 -> BS F lo (.code (.cond c a b)) e H x e1 H1
 | block {lo id c e H e1 H1 x} : BS F lo (.code c) e H x e1 H1 -> BS F lo (.code (.block id c)) e H (x.out id) e1 H1
 | loop {lo c e H e1 H1 x} : BS F lo (.lp c) e H x e1 H1 -> BS F lo (.code (.loop c)) e H x e1 H1
 | lpN {lo c e H e1 H1 x e2 H2} : BS F lo (.code c) e H .n e1 H1 -> BS F lo (.lp c) e1 H1 x e2 H2 -> BS F lo (.lp c) e H x e2 H2
 | lpX {lo c e H e1 H1 x} : x ≠ .n -> BS F lo (.code c) e H x e1 H1 -> BS F lo (.lp c) e H x e1 H1
 | exit {lo id e H} : BS F lo (.code (.exit id)) e H (.e id) e H
 | ret {lo e H} : BS F lo (.code .ret) e H .r e H
 | nil {lo e H} : BS F lo (.ops []) e H .n e H
 | skp {lo o r e H e1 H1} : o.runs e = false -> BS F lo (.ops r) (putE e o.dst undef) H .n e1 H1 -> BS F lo (.ops (o :: r)) e H .n e1 H1
 | cons {lo o r e H e1 H1 e2 H2} : o.runs e = true -> BS F lo (.op o.dst o.op) e H .n e1 H1 -> BS F lo (.ops r) e1 H1 .n e2 H2 -> BS F lo (.ops (o :: r)) e H .n e2 H2
 | pre0 {lo l e H e1 H1} : BS F lo (.ops l) e H .n e1 H1 -> BS F lo (.pre 0 l) e H .n e1 H1
 | preSkp {lo p o r e H e1 H1} : o.runs e = false -> BS F lo (.pre p r) (putE e o.dst undef) H .n e1 H1 -> BS F lo (.pre (p + 1) (o :: r)) e H .n e1 H1
 | px0 {lo X l e H e1 H1} : BS F lo (.ops l) e H .n e1 H1 -> BS F lo (.prx X 0 l) e H .n e1 H1
 | pxSkp {lo X p o r e H e1 H1} : o.runs e = false -> BS F lo (.prx X p r) (putE e o.dst undef) H .n e1 H1 -> BS F lo (.prx X (p + 1) (o :: r)) e H .n e1 H1
 | pxA {lo X p o r e H e1 L e2 H2} : o.runs e = true -> isB o.op = false -> BS F H.length (.op o.dst o.op) e (hide X H) .n e1 (hide X H ++ L) -> BS F lo (.prx X p r) e1 (H ++ L) .n e2 H2 -> BS F lo (.prx X (p + 1) (o :: r)) e H .n e2 H2
 | pxB {lo X p o r e H d v H1 e2 H2} (G : Heap -> Heap) : o.runs e = true -> isN o.op = true -> o.dst = some d -> scal v = true -> H1.length = H.length -> (∀ b,b ∉ X -> H1[b]? = H[b]?) ->
   (∀ (b : Nat) (k k' : Blk),H[b]? = some k -> H1[b]? = some k' -> ∀ (j : Nat) (v : Value),k'.cells[j]? = some v -> k.cells[j]? = some v \/ scal1 v = true) ->
   (∀ E,BS F lo (.op o.dst o.op) e (H ++ E) .n (putE e o.dst v) (H1 ++ (E ++ G E))) -> BS F lo (.prx X p r) (putE e o.dst v) H1 .n e2 H2 -> BS F lo (.prx X (p + 1) (o :: r)) e H .n e2 H2
 | pxN {lo X p o r e H e1 H1 e2 H2} : o.runs e = true -> isB o.op = true -> BS F lo (.op o.dst o.op) e H .n e1 H1 -> (∀ b,b ∉ X -> b < H.length -> H1[b]? = H[b]?) -> BS F lo (.prx X p r) e1 H1 .n e2 H2 -> BS F lo (.prx X (p + 1) (o :: r)) e H .n e2 H2
 | regX {lo X p l e H e1 H1} : (∀ b,b ∈ X -> lo <= b /\ b < H.length) -> BS F lo (.prx X p l) e H .n e1 H1 -> BS F lo (.code (.reg (some p) l)) e H .n e1 H1
 | preCons {lo p o r e H e1 H1 e2 H2} : o.runs e = true -> BS F H.length (.op o.dst o.op) e H .n e1 H1 -> BS F lo (.pre p r) e1 H1 .n e2 H2 -> BS F lo (.pre (p + 1) (o :: r)) e H .n e2 H2
 | pw0 {lo o r e H e1 H1 e2 H2} : o.runs e = true -> BS F lo (.op o.dst o.op) e H .n e1 H1 -> BS F lo (.ops r) e1 H1 .n e2 H2 -> BS F lo (.prw 0 (o :: r)) e H .n e2 H2
 | pwSkp {lo q o r e H e1 H1} : o.runs e = false -> BS F lo (.prw q r) (putE e o.dst undef) H .n e1 H1 -> BS F lo (.prw (q + 1) (o :: r)) e H .n e1 H1
 | pwCons {lo q o r e H e1 H1 e2 H2} : o.runs e = true -> BS F H.length (.op o.dst o.op) e H .n e1 H1 -> BS F lo (.prw q r) e1 H1 .n e2 H2 -> BS F lo (.prw (q + 1) (o :: r)) e H .n e2 H2
 | regW {lo q l e H e1 H1} : BS F lo (.prw q l) e H .n e1 H1 -> BS F lo (.code (.regW q l)) e H .n e1 H1
 | regV {lo q k l ov e H e1 e2 Hm e3 e4 H1} : frees lo H Hm q l e e1 -> l[q]? = some ov -> ov.guard = none -> BS F lo (.op ov.dst ov.op) e1 H .n e2 Hm -> frees lo H Hm k (l.drop (q + 1)) e2 e3 ->
   BS F lo (.ops (l.drop (q + 1 + k))) e3 Hm .n e4 H1 -> BS F lo (.code (.reg (some (q + 1 + k)) l)) e H .n e4 H1
 | prim {lo d o e H v H1} : iop lo o e H = some (v,H1) -> BS F lo (.op d o) e H .n (putE e d v) H1
 | callN {lo d f args e H g first cap fn x e1 H1 v} : f.ev e = .func (.func g) first cap -> F g = some fn ->
   (first.toList ++ args.map (·.ev e) ++ cap.toList).length = fn.np ->
   BS F lo (.code fn.body) (ini (first.toList ++ args.map (·.ev e) ++ cap.toList)) H x e1 H1 -> (x = .n \/ x = .r) -> resV fn.res e1 H1 = some v ->
   BS F lo (.op d (.call .n f args)) e H .n (putE e d v) H1
 | callK {lo d f args e H g first cap fn x e1 H1 v} : f.ev e = .func (.func g) first cap -> F g = some fn ->
   (first.toList ++ args.map (·.ev e) ++ cap.toList).length = fn.np ->
   BS F H.length (.code fn.body) (ini (first.toList ++ args.map (·.ev e) ++ cap.toList)) H x e1 H1 -> (x = .n \/ x = .r) -> resV fn.res e1 H1 = some v ->
   BS F lo (.op d (.call .k f args)) e H .n (putE e d v) H1
 | callQ {lo d f args e H g first cap fn x e1 H1 v} : f.ev e = .func (.func g) first cap -> F g = some fn ->
   (first.toList ++ args.map (·.ev e) ++ cap.toList).length = fn.np ->
   BS F H.length (.code fn.body) (ini (first.toList ++ args.map (·.ev e) ++ cap.toList)) H x e1 H1 -> (x = .n \/ x = .r) -> resV fn.res e1 H1 = some v -> scal v = true ->
   BS F lo (.op d (.call .q f args)) e H .n (putE e d v) H
theorem hide_length (X : List Nat) (H : Heap) : (hide X H).length = H.length := List.length_mapIdx
theorem hide_get (X : List Nat) (H : Heap) (b : Nat) : (hide X H)[b]? = (H[b]?).map (hideB X b) := List.getElem?_mapIdx
theorem hide_get_ne {X : List Nat} {H : Heap} {b : Nat} (h : b ∉ X) : (hide X H)[b]? = H[b]? := by
 rw [hide_get]
 cases H[b]? with
 | none => rfl
 | some k => simp [hideB,h]
theorem hide_get_in {X : List Nat} {H : Heap} {b : Nat} (h : b ∈ X) : (hide X H)[b]? = (H[b]?).map (fun _ => ⟨[],0,0,false,false⟩) := by
 rw [hide_get]
 cases H[b]? with
 | none => rfl
 | some k => simp [hideB,h]
theorem hide_app {X : List Nat} {H : Heap} (L : Heap) (h : ∀ b,b ∈ X -> b < H.length) : hide X (H ++ L) = hide X H ++ L := by
 refine List.ext_getElem? fun b => ?_
 by_cases hb : b < H.length
 ·rw [List.getElem?_append_left (by rw [hide_length]; exact hb),hide_get,hide_get,List.getElem?_append_left hb]
 ·have hX : b ∉ X := fun hx => hb (h b hx)
  rw [hide_get_ne hX,List.getElem?_append_right (by omega),List.getElem?_append_right (by rw [hide_length]; omega),hide_length]
end Go.Proofs.YtbjeldblaclpnaaGreatI
end
section
set_option linter.unusedVariables false
namespace Go.Proofs.YtbjeldblaclpnaaGreatI
open Go Go.RowKit
def All2 {α β : Type} (R : α -> β -> Prop) (xs : List α) (ys : List β) : Prop :=
 xs.length = ys.length /\ ∀ (i : Nat) (x : α),xs[i]? = some x -> ∃ y,ys[i]? = some y /\ R x y
section
variable {α β : Type} {R R' : α -> β -> Prop} {xs xs' : List α} {ys ys' : List β}
theorem All2.nil : All2 R [] [] := ⟨rfl,by simp⟩
theorem All2.mono (h : All2 R xs ys) (hr : ∀ x y,x ∈ xs -> R x y -> R' x y) : All2 R' xs ys :=
 ⟨h.1,fun i x hx => let ⟨y,hy,r⟩ := h.2 i x hx; ⟨y,hy,hr _ _ (List.mem_of_getElem? hx) r⟩⟩
theorem All2.cons {x : α} {y : β} (r : R x y) (h : All2 R xs ys) : All2 R (x :: xs) (y :: ys) := by
 refine ⟨by simp [h.1],fun i z hz => ?_⟩
 cases i with
 | zero => simp only [List.getElem?_cons_zero,Option.some.injEq] at hz; subst hz; exact ⟨y,rfl,r⟩
 | succ i => exact h.2 i z (by simpa using hz)
theorem All2.append (h : All2 R xs ys) (h' : All2 R xs' ys') : All2 R (xs ++ xs') (ys ++ ys') := by
 refine ⟨by simp [h.1,h'.1],fun i z hz => ?_⟩
 rw [List.getElem?_append] at hz ⊢
 rw [<- h.1]
 split at hz
 ·rename_i hl; rw [if_pos hl]; exact h.2 i z hz
 ·rename_i hl; rw [if_neg hl]; exact h'.2 _ z hz
theorem All2.drop (h : All2 R xs ys) (n : Nat) : All2 R (xs.drop n) (ys.drop n) := by
 refine ⟨by simp [h.1],fun i z hz => ?_⟩
 rw [List.getElem?_drop] at hz ⊢
 exact h.2 _ z hz
theorem All2.take (h : All2 R xs ys) (n : Nat) : All2 R (xs.take n) (ys.take n) := by
 refine ⟨by simp [h.1],fun i z hz => ?_⟩
 rw [List.getElem?_take] at hz ⊢
 split at hz
 ·rename_i hl; rw [if_pos hl]; exact h.2 _ z hz
 ·cases hz
theorem All2.set (h : All2 R xs ys) (n : Nat) {x : α} {y : β} (r : R x y) : All2 R (xs.set n x) (ys.set n y) := by
 refine ⟨by simp [h.1],fun i z hz => ?_⟩
 rw [List.getElem?_set] at hz ⊢
 rw [<- h.1]
 split at hz
 ·rename_i hl
  rw [if_pos hl]
  split at hz
  ·rename_i h2; rw [if_pos h2]; simp only [Option.some.injEq] at hz; subst hz; exact ⟨y,rfl,r⟩
  ·cases hz
 ·rename_i hl; rw [if_neg hl]; exact h.2 _ z hz
theorem All2.mem_right (h : All2 R xs ys) {y : β} (hy : y ∈ ys) : ∃ x ∈ xs,R x y := by
 obtain ⟨i,hi⟩ := List.mem_iff_getElem?.1 hy
 have hl : i < xs.length := by rw [h.1]; exact (List.getElem?_eq_some_iff.1 hi).1
 obtain ⟨y',hy',r⟩ := h.2 i xs[i] (List.getElem?_eq_getElem hl)
 rw [hi] at hy'
 cases hy'
 exact ⟨_,List.getElem_mem hl,r⟩
theorem All2.map {γ : Type} {f : γ -> α} {g : γ -> β} (l : List γ) (h : ∀ c ∈ l,R (f c) (g c)) : All2 R (l.map f) (l.map g) := by
 refine ⟨by simp,fun i z hz => ?_⟩
 rw [List.getElem?_map] at hz ⊢
 cases hc : l[i]? with
 | none => rw [hc] at hz; cases hz
 | some c => rw [hc] at hz; simp only [Option.map_some,Option.some.injEq] at hz; subst hz; exact ⟨_,rfl,h c (List.mem_of_getElem? hc)⟩
theorem All2.replicate (n : Nat) {x : α} {y : β} (r : R x y) : All2 R (List.replicate n x) (List.replicate n y) := by
 induction n with
 | zero => exact All2.nil
 | succ n ih => simp only [List.replicate_succ]; exact All2.cons r ih
end
structure MB where
 blk : Nat
 off : Nat
 es : Nat
 et : Nat
 cp : Nat
abbrev MM := Nat -> Option MB
def VR0 (m : MM) : Value -> Value -> Prop
 | .bool b,v' => v' = .bool b
 | .int k n,v' => v' = .int k n
 | .string s,v' => v' = .string s
 | .nilFunc,v' => v' = .nilFunc
 | .pointer none,v' => v' = .pointer none
 | .pointer (some a),v' => ∃ x,m a.block = some x /\ a.spot = none /\ v' = .pointer (some ⟨x.blk,x.off + a.off,none⟩)
 | .slice none n _,v' => n = 0 /\ v' = .slice none 0 0
 | .slice (some a) n _,v' => (∃ x,m a.block = some x /\ a.spot = none /\
   ∃ c',v' = .slice (some ⟨x.blk,x.off + a.off,none⟩) n c' /\ n <= c' /\ (a.off = 0 -> c' * x.es <= x.cp)) \/ (n = 0 /\ 0 < a.off /\ ∃ A c',v' = .slice A 0 c')
 | _,_ => False
def VR1 (m : MM) (v v' : Value) : Prop :=
 VR0 m v v' \/ ∃ g f c f' c',v = .func (.func g) f c /\ v' = .func (.func g) f' c' /\ All2 (VR0 m) f.toList f'.toList /\ All2 (VR0 m) c.toList c'.toList
def VA (m : MM) (v v' : Value) : Prop := VR1 m v v' \/ ∃ cs cs',v = .agg cs /\ v' = .agg cs' /\ All2 (VR1 m) cs.toList cs'.toList
def VR (m : MM) (v v' : Value) : Prop := VA m v v' \/ ∃ vs vs',v = .tuple vs /\ v' = .tuple vs' /\ All2 (VA m) vs.toList vs'.toList
def MM.sub (m m' : MM) : Prop := ∀ b x,m b = some x -> m' b = some x
theorem VR0.mono {m m' : MM} (h : m.sub m') {v v' : Value} (r : VR0 m v v') : VR0 m' v v' := by
 cases v with
 | pointer a => cases a with
   | none => exact r
   | some a => obtain ⟨x,hx,r⟩ := r; exact ⟨x,h _ _ hx,r⟩
 | slice a n c => cases a with
   | none => exact r
   | some a =>
     rcases r with ⟨x,hx,r⟩ | r
     ·exact .inl ⟨x,h _ _ hx,r⟩
     ·exact .inr r
 | _ => exact r
theorem VR1.mono {m m' : MM} (h : m.sub m') {v v' : Value} (r : VR1 m v v') : VR1 m' v v' := by
 rcases r with r | ⟨g,f,c,f',c',rfl,rfl,r1,r2⟩
 ·exact .inl (VR0.mono h r)
 ·exact .inr ⟨g,f,c,f',c',rfl,rfl,r1.mono fun _ _ _ => VR0.mono h,r2.mono fun _ _ _ => VR0.mono h⟩
theorem VA.mono {m m' : MM} (h : m.sub m') {v v' : Value} (r : VA m v v') : VA m' v v' := by
 rcases r with r | ⟨cs,cs',rfl,rfl,r⟩
 ·exact .inl (VR1.mono h r)
 ·exact .inr ⟨cs,cs',rfl,rfl,r.mono fun _ _ _ => VR1.mono h⟩
theorem VR.mono {m m' : MM} (h : m.sub m') {v v' : Value} (r : VR m v v') : VR m' v v' := by
 rcases r with r | ⟨cs,cs',rfl,rfl,r⟩
 ·exact .inl (VA.mono h r)
 ·exact .inr ⟨cs,cs',rfl,rfl,r.mono fun _ _ _ => VA.mono h⟩
theorem VR.of1 {m : MM} {v v' : Value} (r : VR1 m v v') : VR m v v' := .inl (.inl r)
theorem VR.of0 {m : MM} {v v' : Value} (r : VR0 m v v') : VR m v v' := .inl (.inl (.inl r))
theorem VR0.one_right {m : MM} {v v' : Value} (r : VR0 m v v') : v'.oneCell' = true := by
 cases v with
 | pointer a => cases a with
   | none => cases r; rfl
   | some a => obtain ⟨x,hx,_,rfl⟩ := r; rfl
 | slice a n c => cases a with
   | none => obtain ⟨_,rfl⟩ := r; rfl
   | some a =>
     rcases r with ⟨x,hx,_,c',rfl,_⟩ | ⟨_,_,A,c',rfl⟩ <;> rfl
 | bool => cases r; rfl
 | int => cases r; rfl
 | string => cases r; rfl
 | nilFunc => cases r; rfl
 | _ => exact r.elim
theorem VR1.one_right {m : MM} {v v' : Value} (r : VR1 m v v') : v'.oneCell' = true := by
 rcases r with r | ⟨g,f,c,f',c',rfl,rfl,r1,r2⟩
 ·exact VR0.one_right r
 ·rfl
theorem VR1.one_left {m : MM} {v v' : Value} (r : VR1 m v v') : one v = true := by
 rcases r with r | ⟨g,f,c,f',c',rfl,rfl,r1,r2⟩
 ·cases v <;> first | rfl | exact r.elim
 ·rfl
theorem VA.to1 {m : MM} {v v' : Value} (r : VA m v v') (h : one v = true) : VR1 m v v' := by
 rcases r with r | ⟨cs,cs',rfl,rfl,r⟩
 ·exact r
 ·simp [one] at h
theorem VR.to1 {m : MM} {v v' : Value} (r : VR m v v') (h : one v = true) : VR1 m v v' := by
 rcases r with r | ⟨cs,cs',rfl,rfl,r⟩
 ·exact VA.to1 r h
 ·simp [one] at h
theorem cells_one {v : Value} (h : one v = true) : v.cells = #[v] := by cases v <;> simp_all [one,Value.cells]
theorem cells_one' {v : Value} (h : v.oneCell' = true) : v.cells = #[v] := by cases v <;> simp_all [Value.oneCell',Value.cells]
theorem VA.cells {m : MM} {v v' : Value} (r : VA m v v') : All2 (VR1 m) v.cells.toList v'.cells.toList := by
 rcases r with r | ⟨cs,cs',rfl,rfl,r⟩
 ·rw [cells_one (VR1.one_left r),cells_one' (VR1.one_right r)]
  exact All2.cons r All2.nil
 ·exact r
theorem VR.cells {m : MM} {v v' : Value} (r : VR m v v') (h : v.cells.toList.all one = true) : All2 (VR1 m) v.cells.toList v'.cells.toList := by
 rcases r with r | ⟨cs,cs',rfl,rfl,r⟩
 ·exact VA.cells r
 ·simp [Value.cells,one] at h
theorem VR.int {m : MM} {k : IntKind} {n : Int} {v' : Value} (r : VR m (.int k n) v') : v' = .int k n := by
 rcases r.to1 rfl with r | ⟨g,f,c,f',c',e,_⟩
 ·exact r
 ·cases e
theorem VR.bool {m : MM} {n : Bool} {v' : Value} (r : VR m (.bool n) v') : v' = .bool n := by
 rcases r.to1 rfl with r | ⟨g,f,c,f',c',e,_⟩
 ·exact r
 ·cases e
theorem VR.ptr {m : MM} {a : Addr} {v' : Value} (r : VR m (.pointer (some a)) v') : ∃ x,m a.block = some x /\ a.spot = none /\ v' = .pointer (some ⟨x.blk,x.off + a.off,none⟩) := by
 rcases r.to1 rfl with r | ⟨g,f,c,f',c',e,_⟩
 ·exact r
 ·cases e
theorem VR.slN {m : MM} {n c : Nat} {v' : Value} (r : VR m (.slice none n c) v') : n = 0 /\ v' = .slice none 0 0 := by
 rcases r.to1 rfl with r | ⟨g,f,c,f',c',e,_⟩
 ·exact r
 ·cases e
theorem VR.sl {m : MM} {a : Addr} {n c : Nat} {v' : Value} (r : VR m (.slice (some a) n c) v') : (∃ x,m a.block = some x /\ a.spot = none /\
   ∃ c',v' = .slice (some ⟨x.blk,x.off + a.off,none⟩) n c' /\ n <= c' /\ (a.off = 0 -> c' * x.es <= x.cp)) \/ (n = 0 /\ 0 < a.off /\ ∃ A c',v' = .slice A 0 c') := by
 rcases r.to1 rfl with r | ⟨g,f,c,f',c',e,_⟩
 ·exact r
 ·cases e
theorem VR.func {m : MM} {g : Nat} {f c : Array Value} {v' : Value} (r : VR m (.func (.func g) f c) v') : ∃ f' c',v' = .func (.func g) f' c' /\ All2 (VR0 m) f.toList f'.toList /\ All2 (VR0 m) c.toList c'.toList := by
 rcases r.to1 rfl with r | ⟨g,f,c,f',c',e,rfl,r1,r2⟩
 ·exact r.elim
 ·cases e; exact ⟨f',c',rfl,r1,r2⟩
theorem VR.agg {m : MM} {cs : Array Value} {v' : Value} (r : VR m (.agg cs) v') : ∃ cs',v' = .agg cs' /\ All2 (VR1 m) cs.toList cs'.toList := by
 rcases r with (r | ⟨cs,cs',e,rfl,r⟩) | ⟨cs,cs',e,rfl,r⟩
 ·have := r.one_left; simp [one] at this
 ·cases e; exact ⟨_,rfl,r⟩
 ·cases e
theorem VR.tup {m : MM} {cs : Array Value} {v' : Value} (r : VR m (.tuple cs) v') : ∃ cs',v' = .tuple cs' /\ All2 (VA m) cs.toList cs'.toList := by
 rcases r with (r | ⟨cs,cs',e,rfl,r⟩) | ⟨cs,cs',e,rfl,r⟩
 ·have := r.one_left; simp [one] at this
 ·cases e
 ·cases e; exact ⟨_,rfl,r⟩
structure Kept (S : Nat -> Prop) (w w' : World) : Prop where
 os : w'.os = w.os
 tape : w'.tape = w.tape
 output : w'.output = w.output
 size : w.heap.size <= w'.heap.size
 block : ∀ k,S k -> w'.heap[k]? = w.heap[k]?
theorem Kept.refl (S : Nat -> Prop) (w : World) : Kept S w w := ⟨rfl,rfl,rfl,Nat.le_refl _,fun _ _ => rfl⟩
theorem Kept.trans {S : Nat -> Prop} {a b c : World} (h : Kept S a b) (k : Kept S b c) : Kept S a c :=
 ⟨k.os.trans h.os,k.tape.trans h.tape,k.output.trans h.output,Nat.le_trans h.size k.size,fun i hi => (k.block i hi).trans (h.block i hi)⟩
theorem Kept.mono {S S' : Nat -> Prop} {w w' : World} (h : Kept S w w') (hS : ∀ k,S' k -> S k) : Kept S' w w' := ⟨h.os,h.tape,h.output,h.size,fun k hk => h.block k (hS k hk)⟩
theorem Kept.drew {S : Nat -> Prop} {a w : World} (h : Kept S a w) : Kept S a w.drew := ⟨h.os,h.tape,h.output,h.size,h.block⟩
theorem Kept.alloc {S : Nat -> Prop} {a w : World} (h : Kept S a w) (hS : ∀ k,S k -> k < w.heap.size) (o : Obj) : Kept S a (w.alloc o) :=
 h.trans ⟨rfl,rfl,rfl,by simp,fun k hk => Below.heap_alloc _ _ _ (hS k hk)⟩
def ltN (n k : Nat) : Prop := k < n
theorem Kept.below {B : Nat} {w w' : World} (h : Kept (ltN B) w w') : Below B w w' := ⟨h.os,h.tape,h.output,h.size,h.block⟩
structure Sim (lo : Nat) (base : Nat -> Prop) (m : MM) (H : Heap) (h : Array Obj) : Prop where
 dom : ∀ b x,m b = some x -> b < H.length
 cell : ∀ b x k,m b = some x -> H[b]? = some k -> ∃ cs t fr,h[x.blk]? = some (.cells cs t fr) /\ ∀ (j : Nat) (v : Value),k.cells[j]? = some v -> ∃ v',cs[x.off + j]? = some v' /\ VR1 m v v'
 own : ∀ b x k,lo <= b -> m b = some x -> H[b]? = some k -> ¬ base x.blk /\ x.off = 0 /\ (k.app = true -> x.es = k.es /\ x.et = k.et) /\ ∃ cs,h[x.blk]? = some (.cells cs x.et (0,0)) /\ cs.size = x.cp
 sep : ∀ b b' x x' k k',b ≠ b' -> lo <= b -> lo <= b' -> m b = some x -> m b' = some x' -> H[b]? = some k -> H[b']? = some k' -> x.blk = x'.blk ->
  (k.cells = [] \/ k'.cells = [] \/ (k.solo = false /\ k'.solo = false)) /\ (k.app = true -> k'.app = false /\ k'.cells.length <= k.cells.length)
 old : ∀ b x,b < lo -> m b = some x -> base x.blk
 bnd : ∀ k,base k -> k < h.size
 low : lo <= H.length
 zc : ∀ b x k,m b = some x -> H[b]? = some k -> k.app = true -> k.cells = [] -> x.off = 0 /\ x.es = k.es /\ x.cp = 0
def MM.agree (n : Nat) (m m' : MM) : Prop := ∀ b,b < n -> m' b = m b
theorem MM.agree.sub {n : Nat} {m m' : MM} (h : MM.agree n m m') (hd : ∀ b x,m b = some x -> b < n) : m.sub m' := fun b x hx => (h b (hd b x hx)).trans hx
theorem MM.agree.refl (n : Nat) (m : MM) : MM.agree n m m := fun _ _ => rfl
theorem MM.agree.trans {n n' : Nat} {m m' m'' : MM} (h : MM.agree n m m') (h' : MM.agree n' m' m'') (hn : n <= n') : MM.agree n m m'' := fun b hb => (h' b (by omega)).trans (h b hb)
def MM.put (m : MM) (b : Nat) (x : MB) : MM := fun i => if i = b then some x else m i
theorem MM.put_agree (m : MM) (n : Nat) (x : MB) : MM.agree n m (m.put n x) := fun b hb => by simp [MM.put,Nat.ne_of_lt hb]
theorem MM.put_self (m : MM) (b : Nat) (x : MB) : (m.put b x) b = some x := by simp [MM.put]
theorem MM.put_eq {m : MM} {b i : Nat} {x y : MB} (h : (m.put b x) i = some y) : (i = b /\ x = y) \/ (i ≠ b /\ m i = some y) := by
 unfold MM.put at h
 split at h
 ·exact .inl ⟨‹_›,by simpa using h⟩
 ·exact .inr ⟨‹_›,h⟩
theorem get_snoc {H : Heap} {k k' : Blk} {b : Nat} (h : (H ++ [k])[b]? = some k') : (b < H.length /\ H[b]? = some k') \/ (b = H.length /\ k' = k) := by
 rw [List.getElem?_append] at h
 split at h
 ·exact .inl ⟨‹_›,h⟩
 ·rename_i hb
  rcases Nat.eq_or_lt_of_le (Nat.le_of_not_lt hb) with he | hl
  ·subst he; simp only [Nat.sub_self,List.getElem?_cons_zero,Option.some.injEq] at h; exact .inr ⟨rfl,h.symm⟩
  ·rw [List.getElem?_eq_none (by simp; omega)] at h; cases h
theorem Sim.snoc {lo : Nat} {base : Nat -> Prop} {m : MM} {H : Heap} {h : Array Obj} (s : Sim lo base m H h) (k : Blk) (cs : Array Value) (x : MB)
  (hx : x.blk = h.size) (ho : x.off = 0) (he : x.es = k.es) (ht : k.app = true -> x.et = k.et) (hc : cs.size = x.cp) (hz : k.app = true -> k.cells = [] -> x.cp = 0)
  (hv : ∀ (j : Nat) (v : Value),k.cells[j]? = some v -> ∃ v',cs[j]? = some v' /\ VR1 m v v') :
  Sim lo base (m.put H.length x) (H ++ [k]) (h.push (.cells cs x.et (0,0))) := by
 have hag := MM.put_agree m H.length x
 have hsub := hag.sub s.dom
 have hnew : (h.push (.cells cs x.et (0,0)))[x.blk]? = some (.cells cs x.et (0,0)) := by rw [hx]; simp
 have hold : ∀ c o,h[c]? = some o -> (h.push (.cells cs x.et (0,0)))[c]? = some o := fun c o hc => by
  have : c < h.size := (Array.getElem?_eq_some_iff.1 hc).1
  rw [Array.getElem?_push_lt this]; rw [Array.getElem?_eq_getElem this] at hc; exact hc
 have hlt : ∀ b y k,m b = some y -> H[b]? = some k -> y.blk < h.size := fun b y k hm hk => by
  obtain ⟨cs,t,fr,hcs,_⟩ := s.cell b y k hm hk
  exact (Array.getElem?_eq_some_iff.1 hcs).1
 refine ⟨?_,?_,?_,?_,?_,?_,?_,?_⟩
 ·intro b y hy
  rcases MM.put_eq hy with ⟨rfl,_⟩ | ⟨_,hy⟩
  ·simp
  ·have := s.dom b y hy; simp; omega
 ·intro b y k' hy hk
  rcases MM.put_eq hy with ⟨rfl,rfl⟩ | ⟨hb,hy⟩
  ·rcases get_snoc hk with ⟨hl,_⟩ | ⟨_,rfl⟩
   ·omega
   ·refine ⟨cs,_,_,hnew,fun j v hj => ?_⟩
    obtain ⟨v',hv',r⟩ := hv j v hj
    exact ⟨v',by rw [ho,Nat.zero_add]; exact hv',VR1.mono hsub r⟩
  ·rcases get_snoc hk with ⟨hl,hk⟩ | ⟨rfl,_⟩
   ·obtain ⟨cs',t,fr,hcs,r⟩ := s.cell b y k' hy hk
    exact ⟨cs',t,fr,hold _ _ hcs,fun j v hj => let ⟨v',h1,h2⟩ := r j v hj; ⟨v',h1,VR1.mono hsub h2⟩⟩
   ·exact absurd rfl hb
 ·intro b y k' hlo hy hk
  rcases MM.put_eq hy with ⟨rfl,rfl⟩ | ⟨hb,hy⟩
  ·rcases get_snoc hk with ⟨hl,_⟩ | ⟨_,rfl⟩
   ·omega
   ·exact ⟨fun hbx => by have := s.bnd _ hbx; omega,ho,fun ha => ⟨he,ht ha⟩,cs,hnew,hc⟩
  ·rcases get_snoc hk with ⟨hl,hk⟩ | ⟨rfl,_⟩
   ·obtain ⟨h1,h2,h3,cs',h4,h5⟩ := s.own b y k' hlo hy hk
    exact ⟨h1,h2,h3,cs',hold _ _ h4,h5⟩
   ·exact absurd rfl hb
 ·intro b b' y y' k1 k2 hne hlo hlo' hy hy' hk hk' he'
  rcases MM.put_eq hy with ⟨rfl,rfl⟩ | ⟨hb,hy⟩
  ·rcases MM.put_eq hy' with ⟨rfl,_⟩ | ⟨hb',hy'⟩
   ·exact absurd rfl hne
   ·rcases get_snoc hk' with ⟨hl,hk'⟩ | ⟨rfl,_⟩
    ·have := hlt b' y' k2 hy' hk'; omega
    ·exact absurd rfl hb'
  ·rcases MM.put_eq hy' with ⟨rfl,rfl⟩ | ⟨hb',hy'⟩
   ·rcases get_snoc hk with ⟨hl,hk⟩ | ⟨rfl,_⟩
    ·have := hlt b y k1 hy hk; omega
    ·exact absurd rfl hb
   ·rcases get_snoc hk with ⟨hl,hk⟩ | ⟨rfl,_⟩
    ·rcases get_snoc hk' with ⟨hl',hk'⟩ | ⟨rfl,_⟩
     ·exact s.sep b b' y y' k1 k2 hne hlo hlo' hy hy' hk hk' he'
     ·exact absurd rfl hb'
    ·exact absurd rfl hb
 ·intro b y hlo hy
  rcases MM.put_eq hy with ⟨rfl,rfl⟩ | ⟨hb,hy⟩
  ·have := s.low; omega
  ·exact s.old b y hlo hy
 ·intro k0 hk0; have := s.bnd k0 hk0; simp; omega
 ·have := s.low; simp; omega
 ·intro b y k' hy hk ha hc
  rcases MM.put_eq hy with ⟨rfl,rfl⟩ | ⟨hb,hy⟩
  ·rcases get_snoc hk with ⟨hl,_⟩ | ⟨_,rfl⟩
   ·omega
   ·exact ⟨ho,he,hz ha hc⟩
  ·rcases get_snoc hk with ⟨hl,hk⟩ | ⟨rfl,_⟩
   ·exact s.zc b y k' hy hk ha hc
   ·exact absurd rfl hb
theorem get_set {H : Heap} {k k' : Blk} {b i : Nat} (h : (H.set b k)[i]? = some k') : (i = b /\ k' = k /\ b < H.length) \/ (i ≠ b /\ H[i]? = some k') := by
 rw [List.getElem?_set] at h
 split at h
 ·split at h
  ·exact .inl ⟨by omega,by simpa using h.symm,by assumption⟩
  ·cases h
 ·exact .inr ⟨by omega,h⟩
theorem Sim.lt {lo : Nat} {base : Nat -> Prop} {m : MM} {H : Heap} {h : Array Obj} (s : Sim lo base m H h) {b : Nat} {x : MB} {k : Blk} (hm : m b = some x) (hk : H[b]? = some k) : x.blk < h.size := by
 obtain ⟨cs,t,fr,hcs,_⟩ := s.cell b x k hm hk
 exact (Array.getElem?_eq_some_iff.1 hcs).1
theorem Sim.upd {lo : Nat} {base : Nat -> Prop} {m : MM} {H : Heap} {h h' : Array Obj} (s : Sim lo base m H h) {b : Nat} {x : MB} {k : Blk} (hb : lo <= b) (hm : m b = some x) (hk : H[b]? = some k)
  (hs : k.solo = true) (hne : k.cells ≠ []) (kc : List Value) (hl : kc.length = k.cells.length) (cs' : Array Value) (hsz : h'.size = h.size)
  (h1 : h'[x.blk]? = some (.cells cs' x.et (0,0))) (h2 : ∀ c,c ≠ x.blk -> h'[c]? = h[c]?) (hcp : cs'.size = x.cp)
  (hv : ∀ (j : Nat) (v : Value),kc[j]? = some v -> ∃ v',cs'[j]? = some v' /\ VR1 m v v') : Sim lo base m (H.set b { k with cells := kc }) h' := by
 obtain ⟨o1,o2,o3,ocs,o4,o5⟩ := s.own b x k hb hm hk
 have hdisj : ∀ b' x' k',b' ≠ b -> m b' = some x' -> H[b']? = some k' -> x'.blk = x.blk -> lo <= b' /\ k'.cells = [] := by
  intro b' x' k' hne' hm' hk' he
  rcases Nat.lt_or_ge b' lo with hl | hl
  ·have h5 := s.old b' x' hl hm'
   rw [he] at h5
   exact absurd h5 o1
  ·refine ⟨hl,?_⟩
   rcases (s.sep b b' x x' k k' (Ne.symm hne') hb hl hm hm' hk hk' he.symm).1 with h | h | ⟨h,_⟩
   ·exact absurd h hne
   ·exact h
   ·rw [hs] at h; cases h
 refine ⟨?_,?_,?_,?_,?_,?_,?_,?_⟩
 ·intro b' y hy; have := s.dom b' y hy; simpa using this
 ·intro b' y k' hy hk'
  rcases get_set hk' with ⟨rfl,rfl,_⟩ | ⟨hb',hk'⟩
  ·rw [hm] at hy; cases hy
   exact ⟨cs',_,_,h1,fun j v hj => let ⟨v',a,r⟩ := hv j v hj; ⟨v',by rw [o2,Nat.zero_add]; exact a,r⟩⟩
  ·by_cases he : y.blk = x.blk
   ·obtain ⟨_,hc⟩ := hdisj b' y k' hb' hy hk' he
    exact ⟨cs',_,_,by rw [he]; exact h1,fun j v hj => by rw [hc] at hj; simp at hj⟩
   ·rw [h2 _ he]; exact s.cell b' y k' hy hk'
 ·intro b' y k' hlo hy hk'
  rcases get_set hk' with ⟨rfl,rfl,_⟩ | ⟨hb',hk'⟩
  ·rw [hm] at hy; cases hy
   exact ⟨o1,o2,o3,cs',h1,hcp⟩
  ·obtain ⟨p1,p2,p3,pcs,p4,p5⟩ := s.own b' y k' hlo hy hk'
   by_cases he : y.blk = x.blk
   ·rw [he] at p4
    rw [o4] at p4
    simp only [Option.some.injEq,Obj.cells.injEq] at p4
    obtain ⟨q1,q2,_⟩ := p4
    refine ⟨p1,p2,p3,cs',by rw [he,<- q2]; exact h1,?_⟩
    rw [hcp,<- o5,q1,p5]
   ·exact ⟨p1,p2,p3,pcs,by rw [h2 _ he]; exact p4,p5⟩
 ·intro b1 b2 y1 y2 k1 k2 hn l1 l2 m1 m2 g1 g2 he
  rcases get_set g1 with ⟨rfl,rfl,_⟩ | ⟨n1,f1⟩
  ·rcases get_set g2 with ⟨rfl,_⟩ | ⟨n2,f2⟩
   ·exact absurd rfl hn
   ·rw [hm] at m1; cases m1
    obtain ⟨_,hc⟩ := hdisj b2 y2 k2 n2 m2 f2 he.symm
    exact ⟨.inr (.inl hc),fun ha => ⟨((s.sep _ _ _ _ _ _ hn l1 l2 hm m2 hk f2 he).2 ha).1,by simp [hc]⟩⟩
  ·rcases get_set g2 with ⟨rfl,rfl,_⟩ | ⟨n2,f2⟩
   ·rw [hm] at m2; cases m2
    obtain ⟨_,hc⟩ := hdisj b1 y1 k1 n1 m1 f1 he
    refine ⟨.inl hc,fun ha => ?_⟩
    have := (s.sep _ _ _ _ _ _ hn l1 l2 m1 hm f1 hk he).2 ha
    rw [hc] at this
    exact absurd (List.eq_nil_of_length_eq_zero (by simpa using this.2)) hne
   ·exact s.sep b1 b2 y1 y2 k1 k2 hn l1 l2 m1 m2 f1 f2 he
 ·exact s.old
 ·rw [hsz]; exact s.bnd
 ·have := s.low; simpa using this
 ·intro b' y k' hy hk' ha hc
  rcases get_set hk' with ⟨rfl,rfl,_⟩ | ⟨_,hk'⟩
  ·exact absurd (List.eq_nil_of_length_eq_zero (by rw [<- hl,show kc = [] from hc]; rfl)) hne
  ·exact s.zc b' y k' hy hk' ha hc
theorem Sim.flag {lo : Nat} {base : Nat -> Prop} {m : MM} {H : Heap} {h : Array Obj} (s : Sim lo base m H h) {b : Nat} {k : Blk} (hk : H[b]? = some k) (so : Bool) (hso : so = true -> k.solo = true)
  (kc : List Value) (hkc : kc = k.cells \/ kc = []) : Sim lo base m (H.set b { k with app := false,solo := so,cells := kc }) h := by
 refine ⟨?_,?_,?_,?_,?_,?_,?_,?_⟩
 ·intro b' y hy; have := s.dom b' y hy; simpa using this
 ·intro b' y k' hy hk'
  rcases get_set hk' with ⟨rfl,rfl,_⟩ | ⟨hb',hk'⟩
  ·obtain ⟨cs,t,fr,h1,h2⟩ := s.cell b' y k hy hk
   refine ⟨cs,t,fr,h1,fun j v hj => ?_⟩
   rcases hkc with rfl | rfl
   ·exact h2 j v hj
   ·simp at hj
  ·exact s.cell b' y k' hy hk'
 ·intro b' y k' hlo hy hk'
  rcases get_set hk' with ⟨rfl,rfl,_⟩ | ⟨hb',hk'⟩
  ·obtain ⟨p1,p2,p3,p4⟩ := s.own b' y k hlo hy hk
   exact ⟨p1,p2,fun hc => by simp at hc,p4⟩
  ·exact s.own b' y k' hlo hy hk'
 ·intro b1 b2 y1 y2 k1 k2 hn l1 l2 m1 m2 g1 g2 he
  rcases get_set g1 with ⟨rfl,rfl,_⟩ | ⟨n1,f1⟩
  ·rcases get_set g2 with ⟨rfl,_⟩ | ⟨n2,f2⟩
   ·exact absurd rfl hn
   ·obtain ⟨q,_⟩ := s.sep _ _ _ _ _ _ hn l1 l2 m1 m2 hk f2 he
    refine ⟨?_,fun hc => by simp at hc⟩
    rcases q with q | q | ⟨q1,q2⟩
    ·left; rcases hkc with rfl | rfl
     ·exact q
     ·rfl
    ·exact .inr (.inl q)
    ·right; right
     refine ⟨?_,q2⟩
     show so = false
     cases so with
     | false => rfl
     | true => rw [hso rfl] at q1; cases q1
  ·rcases get_set g2 with ⟨rfl,rfl,_⟩ | ⟨n2,f2⟩
   ·obtain ⟨q,q'⟩ := s.sep _ _ _ _ _ _ hn l1 l2 m1 m2 f1 hk he
    refine ⟨?_,fun hc => ⟨rfl,?_⟩⟩
    ·rcases q with q | q | ⟨q1,q2⟩
     ·exact .inl q
     ·right; left; rcases hkc with rfl | rfl
      ·exact q
      ·rfl
     ·right; right
      refine ⟨q1,?_⟩
      show so = false
      cases so with
      | false => rfl
      | true => rw [hso rfl] at q2; cases q2
    ·rcases hkc with rfl | rfl
     ·exact (q' hc).2
     ·simp
   ·exact s.sep b1 b2 y1 y2 k1 k2 hn l1 l2 m1 m2 f1 f2 he
 ·exact s.old
 ·exact s.bnd
 ·have := s.low; simpa using this
 ·intro b' y k' hy hk' ha hc
  rcases get_set hk' with ⟨rfl,rfl,_⟩ | ⟨_,hk'⟩
  ·cases ha
  ·exact s.zc b' y k' hy hk' ha hc
theorem Sim.place {lo : Nat} {base : Nat -> Prop} {m : MM} {H : Heap} {h h' : Array Obj} (s : Sim lo base m H h) (x : MB) (nk : Blk) (cs cs' : Array Value) (L : Nat)
  (hb : ¬ base x.blk) (h0 : x.off = 0) (he : x.es = nk.es) (ht : x.et = nk.et) (hg : h[x.blk]? = some (.cells cs x.et (0,0))) (hcs : cs.size = x.cp)
  (hsz : h'.size = h.size) (h1 : h'[x.blk]? = some (.cells cs' x.et (0,0))) (h2 : ∀ c,c ≠ x.blk -> h'[c]? = h[c]?) (hcp : cs'.size = x.cp)
  (hpre : ∀ j,j < L -> cs'[j]? = cs[j]?) (hL : L <= nk.cells.length) (hnn : nk.cells ≠ [])
  (hv : ∀ (j : Nat) (v : Value),nk.cells[j]? = some v -> ∃ v',cs'[j]? = some v' /\ VR1 m v v')
  (hsh : ∀ b y k,lo <= b -> m b = some y -> H[b]? = some k -> y.blk = x.blk -> k.app = false /\ k.cells.length <= L /\ (k.cells = [] \/ (k.solo = false /\ nk.solo = false))) :
  Sim lo base (m.put H.length x) (H ++ [nk]) h' := by
 have hag := MM.put_agree m H.length x
 have hsub := hag.sub s.dom
 have holdne : ∀ b y,b < lo -> m b = some y -> y.blk ≠ x.blk := fun b y hl hm e => hb (e ▸ s.old b y hl hm)
 refine ⟨?_,?_,?_,?_,?_,?_,?_,?_⟩
 ·intro b y hy
  rcases MM.put_eq hy with ⟨rfl,_⟩ | ⟨_,hy⟩
  ·simp
  ·have := s.dom b y hy; simp; omega
 ·intro b y k' hy hk
  rcases MM.put_eq hy with ⟨rfl,rfl⟩ | ⟨hb',hy⟩
  ·rcases get_snoc hk with ⟨hl,_⟩ | ⟨_,rfl⟩
   ·omega
   ·refine ⟨cs',_,_,h1,fun j v hj => ?_⟩
    obtain ⟨v',hv',r⟩ := hv j v hj
    exact ⟨v',by rw [h0,Nat.zero_add]; exact hv',VR1.mono hsub r⟩
  ·rcases get_snoc hk with ⟨hl,hk⟩ | ⟨rfl,_⟩
   ·obtain ⟨cs1,t,fr,hcs1,r⟩ := s.cell b y k' hy hk
    by_cases he1 : y.blk = x.blk
    ·have hlo : lo <= b := by
      rcases Nat.lt_or_ge b lo with hh | hh
      ·exact absurd he1 (holdne b y hh hy)
      ·exact hh
     obtain ⟨_,q2,_⟩ := hsh b y k' hlo hy hk he1
     obtain ⟨_,p2,_⟩ := s.own b y k' hlo hy hk
     rw [he1,hg] at hcs1
     simp only [Option.some.injEq,Obj.cells.injEq] at hcs1
     obtain ⟨rfl,rfl,rfl⟩ := hcs1
     refine ⟨cs',_,_,by rw [he1]; exact h1,fun j v hj => ?_⟩
     obtain ⟨v',a1,a2⟩ := r j v hj
     have hjl : j < k'.cells.length := (List.getElem?_eq_some_iff.1 hj).1
     refine ⟨v',?_,VR1.mono hsub a2⟩
     rw [p2,Nat.zero_add] at a1 ⊢
     rw [hpre j (by omega)]; exact a1
    ·exact ⟨cs1,t,fr,by rw [h2 _ he1]; exact hcs1,fun j v hj => let ⟨v',a1,a2⟩ := r j v hj; ⟨v',a1,VR1.mono hsub a2⟩⟩
   ·exact absurd rfl hb'
 ·intro b y k' hlo hy hk
  rcases MM.put_eq hy with ⟨rfl,rfl⟩ | ⟨hb',hy⟩
  ·rcases get_snoc hk with ⟨hl,_⟩ | ⟨_,rfl⟩
   ·omega
   ·exact ⟨hb,h0,fun _ => ⟨he,ht⟩,cs',h1,hcp⟩
  ·rcases get_snoc hk with ⟨hl,hk⟩ | ⟨rfl,_⟩
   ·obtain ⟨p1,p2,p3,pcs,p4,p5⟩ := s.own b y k' hlo hy hk
    by_cases he1 : y.blk = x.blk
    ·rw [he1,hg] at p4
     simp only [Option.some.injEq,Obj.cells.injEq] at p4
     obtain ⟨q1,q2,_⟩ := p4
     exact ⟨p1,p2,p3,cs',by rw [he1,<- q2]; exact h1,by rw [hcp,<- hcs,q1,p5]⟩
    ·exact ⟨p1,p2,p3,pcs,by rw [h2 _ he1]; exact p4,p5⟩
   ·exact absurd rfl hb'
 ·intro b b' y y' k1 k2 hne hlo hlo' hy hy' hk hk' he'
  rcases MM.put_eq hy with ⟨rfl,rfl⟩ | ⟨hb1,hy⟩
  ·rcases MM.put_eq hy' with ⟨rfl,_⟩ | ⟨hb',hy'⟩
   ·exact absurd rfl hne
   ·rcases get_snoc hk' with ⟨hl,fk'⟩ | ⟨rfl,_⟩
    ·rcases get_snoc hk with ⟨hl,_⟩ | ⟨_,rfl⟩
     ·omega
     ·obtain ⟨q1,q2,q3⟩ := hsh b' y' k2 hlo' hy' fk' he'.symm
      refine ⟨?_,fun _ => ⟨q1,by omega⟩⟩
      rcases q3 with q3 | ⟨q3,q4⟩
      ·exact .inr (.inl q3)
      ·exact .inr (.inr ⟨q4,q3⟩)
    ·exact absurd rfl hb'
  ·rcases MM.put_eq hy' with ⟨rfl,rfl⟩ | ⟨hb',hy'⟩
   ·rcases get_snoc hk with ⟨hl,fk⟩ | ⟨rfl,_⟩
    ·rcases get_snoc hk' with ⟨hl,_⟩ | ⟨_,rfl⟩
     ·omega
     ·obtain ⟨q1,q2,q3⟩ := hsh b y k1 hlo hy fk he'
      refine ⟨?_,fun hc => by rw [q1] at hc; cases hc⟩
      rcases q3 with q3 | ⟨q3,q4⟩
      ·exact .inl q3
      ·exact .inr (.inr ⟨q3,q4⟩)
    ·exact absurd rfl hb1
   ·rcases get_snoc hk with ⟨hl,fk⟩ | ⟨rfl,_⟩
    ·rcases get_snoc hk' with ⟨hl',fk'⟩ | ⟨rfl,_⟩
     ·exact s.sep b b' y y' k1 k2 hne hlo hlo' hy hy' fk fk' he'
     ·exact absurd rfl hb'
    ·exact absurd rfl hb1
 ·intro b y hlo hy
  rcases MM.put_eq hy with ⟨rfl,rfl⟩ | ⟨hb',hy⟩
  ·have := s.low; omega
  ·exact s.old b y hlo hy
 ·rw [hsz]; exact s.bnd
 ·have := s.low; simp; omega
 ·intro b y k' hy hk ha hc
  rcases MM.put_eq hy with ⟨rfl,rfl⟩ | ⟨hb,hy⟩
  ·rcases get_snoc hk with ⟨hl,_⟩ | ⟨_,rfl⟩
   ·omega
   ·exact absurd hc hnn
  ·rcases get_snoc hk with ⟨hl,hk⟩ | ⟨rfl,_⟩
   ·exact s.zc b y k' hy hk ha hc
   ·exact absurd rfl hb
end Go.Proofs.YtbjeldblaclpnaaGreatI
end
end
