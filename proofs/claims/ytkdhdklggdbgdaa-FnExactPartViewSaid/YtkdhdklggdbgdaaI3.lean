/- The given code is laid over to the ideal machine's; each operation of it does what the ideal one does. -/
import Derived.Test.YtkdhdklggdbgdaaI2
import Derived.Laws.MakeOwn
import Derived.Laws.StructEq
import Derived.Laws.Slices
import Derived.Laws.Tables
import Derived.Great.BuildSlice
set_option linter.unusedVariables false
set_option linter.unusedSimpArgs false
namespace Go.Proofs.YtkdhdklggdbgdaaI
open Go Go.RowKit

def okC : Value → Bool
  | .bool _ | .int _ _ | .string _ | .nilFunc | .pointer none | .slice none 0 0 => true
  | _ => false

def cOpd : Operand → Option Opd
  | .tmp t => some (.t t)
  | .const v => if okC v then some (.c v) else none
  | .func f => some (.f f)
  | .global _ => none

def cOpds : List Operand → Option (List Opd)
  | [] => some []
  | x :: r => (cOpd x).bind fun x' => (cOpds r).map (x' :: ·)

structure CM where
  md : Nat → Mode
  mt : Mode
  kl : Bool

def isEqN : BinOp → Bool
  | .eql | .neq => true
  | _ => false
def isNeq : BinOp → Bool
  | .neq => true
  | _ => false

def isAggD : TypeDesc → Bool
  | .struct _ | .array _ _ => true
  | _ => false

/-- The parts of a struct that is built. -/
def cParts (P : Program) (place : Nat → Option (Nat × Nat)) : List (Nat × Operand) → Option (List (Nat × Nat × Opd))
  | [] => some []
  | (i, x) :: r => (place i).bind fun p => (cOpd x).bind fun x' => (cParts P place r).map ((p.1, p.2, x') :: ·)

def fplaces (P : Program) (fs : Array Field) : Option (List (Nat × Nat)) :=
  fs.toList.mapM fun f => (P.info? f.type).map fun i => (f.offset, i.size)

def flatInts (P : Program) (fs : Array Field) : Bool :=
  fs.toList.zipIdx.all fun (f, j) => f.name != "_" && f.offset == j && (P.underlying f.type matches some (.int _)) && (P.info? f.type).any (·.size == 1)

def cOptO : Option Operand → Option (Option Opd)
  | none => some none
  | some x => (cOpd x).map some

def cOp0 (P : Program) (c : CM) (o : Oper) : Option IOp :=
  match o.op with
  | .move x | .assign x => (cOpd x).map .mov
  | .pick x y z => (cOpd x).bind fun x' => (cOpd y).bind fun y' => (cOpd z).map (.pick x' y' ·)
  | .alloc t => (P.info? t).bind fun i => i.zero.bind fun z => if z.cells.toList.all okC then some (.new z.cells.toList) else none
  | .box t x => (cOpd x).map .box
  | .build t ps => (P.info? t).bind fun i => i.zero.bind fun z => match P.underlying t with
    | some (.struct fs) => if z.cells.toList.all okC then (fplaces P fs).bind fun pl => (cParts P (pl[·]?) ps.toList).map (.build z.cells.toList ·) else none
    | _ => none
  | .buildSlice t len ps => match P.underlying t with
    | some (.slice el) => (P.info? el).bind fun i => i.zero.bind fun z =>
      if len * i.size ≤ 2 ^ 24 ∧ 0 < i.size ∧ z.cells.toList.all okC = true ∧ z.cells.size = i.size then
        (cParts P (fun j => some (j * i.size, i.size)) ps.toList).map (.lit i.size el len ((Array.range (len * i.size)).map (z.cells[· % z.cells.size]!)).toList ·) else none
    | _ => none
  | .load t x => match P.underlying t with
    | some d => (P.info? t).bind fun i => if isAggD d = true ∨ i.size = 1 then (cOpd x).map (.load (isAggD d) i.size ·) else none
    | none => none
  | .store t x y => (P.info? t).bind fun i => if 0 < i.size then (cOpd x).bind fun x' => (cOpd y).map (.store i.size x' ·) else none
  | .nilCheck x => (cOpd x).map .nilck
  | .binOp op t x y _ => (cOpd x).bind fun x' => (cOpd y).bind fun y' => match P.underlying t with
    | some (.int _) => some (.bin op x' y')
    | some .bool => if isEqN op = true then some (.beq (isNeq op) x' y') else none
    | some (.struct fs) =>
      if isEqN op = true ∧ flatInts P fs = true ∧ P.stoodInHeld t = false ∧ P.eqGuardType P.depth t = false then some (.eqs (isNeq op) fs.size x' y') else none
    | _ => none
  | .unOp op _ x => if op matches .not | .neg then (cOpd x).map (.un op ·) else none
  | .convert s d x => match P.underlying s, P.underlying d with
    | some _, some (.int k) => (cOpd x).map (.conv k ·)
    | _, _ => none
  | .makeSlice t l n => match P.underlying t with
    | some (.slice el) => (P.info? el).bind fun i => i.zero.bind fun z =>
      if 0 < i.size ∧ z.cells.toList.all okC = true ∧ z.cells.size = i.size then
        (cOpd l).bind fun l' => (cOpd n).map (.mks i.size el i.bytes z.cells.toList l' ·) else none
    | _ => none
  | .slice t x l h none => match P.underlying t with
    | some (.slice el) => (P.info? el).bind fun i => if 0 < i.size then (cOpd x).bind fun x' => (cOptO l).bind fun l' => (cOptO h).map (.sub i.size x' l' ·) else none
    | _ => none
  | .fieldAddr s x f => match P.underlying s with
    | some (.struct fs) => fs[f]?.bind fun fd => (P.info? fd.type).bind fun i => if i.size = 0 then none else (cOpd x).map (.fad fd.offset ·)
    | _ => none
  | .field s x f => match P.underlying s with
    | some (.struct fs) => fs[f]?.bind fun fd => (P.info? fd.type).bind fun i => (P.underlying fd.type).bind fun d =>
        if isAggD d = true ∨ i.size = 1 then (cOpd x).map (.fld (isAggD d) fd.offset i.size ·) else none
    | _ => none
  | .indexAddr t x i => match P.underlying t with
    | some (.slice el) => (P.info? el).bind fun inf => (cOpd x).bind fun x' => (cOpd i).map (.iad inf.size x' ·)
    | _ => none
  | .extract x i => (cOpd x).map (.ext · i)
  | .makeFunc (.func f) a b => (cOpds a.toList).bind fun a' => (cOpds b.toList).map (.mkf f a' ·)
  | .call ⟨.builtin .len, args, ts⟩ => match args.toList, ts.toList with
    | [x], t :: _ => match P.underlying t with
      | some (.slice _) => (cOpd x).map .len
      | _ => none
    | _, _ => none
  | .call ⟨.builtin .max, args, ts⟩ => match args.toList with
    | [x, y] => (cOpd x).bind fun x' => (cOpd y).map (.max2 x' ·)
    | _ => none
  | .call ⟨.builtin .append, args, ts⟩ => match args.toList, ts.toList with
    | [x, y], [t, t'] => match P.underlying t with
      | some (.slice el) => (P.info? el).bind fun i => i.zero.bind fun z =>
        if t' = t ∧ 0 < i.size ∧ z.cells.size = i.size then
          (cOpd x).bind fun x' => (cOpd y).map (.app i.size el i.bytes c.kl x' ·) else none
      | _ => none
    | _, _ => none
  | _ => none

def notCall : IOp → Bool
  | .call .. => false
  | _ => true

def cOp (P : Program) (c : CM) (o : Oper) : Option IOp :=
  match o.op with
  | .call ⟨.value f, args, _⟩ => (cOpd f).bind fun f' => (cOpds args.toList).map (.call (match f' with | .f g => c.md g | _ => c.mt) f' ·)
  | _ => (cOp0 P c o).filter notCall

/-- What the machine's operands stand to. -/
def OkU (m : MM) (e : Env) (a : Act) (xs : Array Operand) : Prop := ∀ t, Operand.tmp t ∈ xs → VR m (e t) (a.eval (.tmp t))

theorem VR.okC {m : MM} {v : Value} (h : okC v = true) : VR m v v := by
  refine VR.of0 ?_
  cases v with
  | pointer a => cases a with
    | none => rfl
    | some a => simp [Go.Proofs.YtkdhdklggdbgdaaI.okC] at h
  | slice a n c => cases a with
    | none =>
      simp only [Go.Proofs.YtkdhdklggdbgdaaI.okC] at h
      split at h <;> first | exact ⟨rfl, rfl⟩ | cases h | skip
      all_goals simp_all
      all_goals exact ⟨rfl, rfl⟩
    | some a => simp [Go.Proofs.YtkdhdklggdbgdaaI.okC] at h
  | _ => first | rfl | (simp [Go.Proofs.YtkdhdklggdbgdaaI.okC] at h)

theorem VR1.okC {m : MM} {v : Value} (h : okC v = true) : VR1 m v v := (VR.okC h).to1 (by cases v <;> first | rfl | (simp [Go.Proofs.YtkdhdklggdbgdaaI.okC] at h))

theorem OkU.ev {m : MM} {e : Env} {a : Act} {xs : Array Operand} (h : OkU m e a xs) {x : Operand} {x' : Opd} (hx : x ∈ xs) (hc : cOpd x = some x') : VR m (x'.ev e) (a.eval x) := by
  cases x with
  | tmp t => cases hc; exact h t hx
  | const v =>
    simp only [cOpd] at hc
    split at hc
    · cases hc; exact VR.okC ‹_›
    · cases hc
  | func f => cases hc; exact VR.of1 (.inr ⟨f, #[], #[], #[], #[], rfl, rfl, All2.nil, All2.nil⟩)
  | global g => cases hc

/-- What an operation of the machine must do: 'v' is told, the heap is 'H1'. -/
def OpDoes (P : Program) (o : Oper) (a : Act) (w : World) (lo base : Nat) (m : MM) (H : Heap) (v : Value) (H1 : Heap) : Prop :=
  ∃ v' w' m', ((execOp a.eval o).run P w = .ok (.value v') w' ∨ ((execOp a.eval o).run P w = .ok .skip w' ∧ v' = undef)) ∧
    MM.agree H.length m m' ∧ Sim lo base m' H1 w'.heap ∧ VR m' v v' ∧ Below base w w' ∧ H.length ≤ H1.length

section
variable {P : Program} {c : CM} {o : Oper} {io : IOp} {lo base : Nat} {m : MM} {H H1 : Heap} {w : World} {a : Act} {e : Env} {v : Value}

/-- Nothing is written. -/
theorem OpDoes.still (s : Sim lo base m H w.heap) {v' : Value} (hr : (execOp a.eval o).run P w = .ok (.value v') w) (r : VR m v v') : OpDoes P o a w lo base m H v H :=
  ⟨v', w, m, .inl hr, MM.agree.refl _ _, s, r, Below.refl _ _, Nat.le_refl _⟩

/-- A new block. -/
theorem OpDoes.newB (s : Sim lo base m H w.heap) (k : Blk) (cs : Array Value) (t cap n : Nat) (sl : Bool)
    (hr : ∃ w0 : World, w0.heap = w.heap ∧ Below base w w0 ∧ (execOp a.eval o).run P w = .ok (.value (if sl then .slice (some ⟨w.heap.size, 0, none⟩) n cap else .pointer (some ⟨w.heap.size, 0, none⟩))) (w0.alloc (.cells cs t)))
    (hv : ∀ (j : Nat) (v : Value), k.cells[j]? = some v → ∃ v', cs[j]? = some v' ∧ VR1 m v v') (ht : k.app = true → t = k.et) (hn : sl = true → n ≤ cap ∧ cap * k.es ≤ cs.size) :
    OpDoes P o a w lo base m H (if sl then sli H.length 0 n else ptr H.length 0) (H ++ [k]) := by
  obtain ⟨w0, hw0, hb0, hr⟩ := hr
  have s' := s.snoc k cs ⟨w.heap.size, 0, k.es, t, cs.size⟩ rfl rfl rfl ht rfl hv
  refine ⟨_, _, m.put H.length ⟨w.heap.size, 0, k.es, t, cs.size⟩, .inl hr, MM.put_agree _ _ _, ?_, ?_, ?_, by simp⟩
  · show Sim lo base _ _ (w0.heap.push _)
    rw [hw0]; exact s'
  · cases sl with
    | true =>
      refine VR.of0 (.inl ⟨_, MM.put_self _ _ _, rfl, cap, ?_, (hn rfl).1, fun _ => (hn rfl).2⟩)
      simp
    | false => exact VR.of0 ⟨_, MM.put_self _ _ _, rfl, by simp⟩
  · exact hb0.alloc (by rw [hw0]; exact s.bnd) _

theorem does_mov {x : Operand} (ho : o.op = .move x ∨ o.op = .assign x) {x' : Opd} (hx : cOpd x = some x') (s : Sim lo base m H w.heap) (u : OkU m e a o.op.operands) :
    OpDoes P o a w lo base m H (x'.ev e) H := by
  have hm : x ∈ o.op.operands := by rcases ho with h | h <;> simp [h, Op.operands]
  refine OpDoes.still s ?_ (u.ev hm hx)
  rcases ho with h | h <;> simp [execOp, h]

theorem does_pick {x y z : Operand} (ho : o.op = .pick x y z) {x' y' z' : Opd} (hx : cOpd x = some x') (hy : cOpd y = some y') (hz : cOpd z = some z') {t : Bool} (ht : x'.ev e = .bool t)
    (s : Sim lo base m H w.heap) (u : OkU m e a o.op.operands) : OpDoes P o a w lo base m H (if t then y'.ev e else z'.ev e) H := by
  have h1 := u.ev (x := x) (by simp [ho, Op.operands]) hx
  have h2 := u.ev (x := y) (by simp [ho, Op.operands]) hy
  have h3 := u.ev (x := z) (by simp [ho, Op.operands]) hz
  rw [ht] at h1
  have h4 := h1.bool
  refine OpDoes.still s (v' := if t then a.eval y else a.eval z) ?_ ?_
  · simp [execOp, ho, h4, asBool]
  · cases t <;> simpa

theorem does_alloc {t : TypeId} (ho : o.op = .alloc t) {i : TypeInfo} (hi : P.info? t = some i) {z : Value} (hz : i.zero = some z) (hc : z.cells.toList.all okC = true)
    (s : Sim lo base m H w.heap) : OpDoes P o a w lo base m H (ptr H.length 0) (H ++ [⟨z.cells.toList, 0, 0, false, true⟩]) := by
  refine OpDoes.newB s ⟨z.cells.toList, 0, 0, false, true⟩ z.cells t 0 0 false ⟨w, rfl, Below.refl _ _, ?_⟩ ?_ (by simp) (by simp)
  · simp [execOp, ho, Instr.alloc, zeroValue, typeInfo, hi, hz, newVar, newRow]
  · intro j v hj
    refine ⟨v, by simpa using hj, VR1.okC (List.all_eq_true.1 hc _ (List.mem_of_getElem? hj))⟩

theorem does_box {t : TypeId} {x : Operand} (ho : o.op = .box t x) {x' : Opd} (hx : cOpd x = some x') (hc : (x'.ev e).cells.toList.all one = true)
    (s : Sim lo base m H w.heap) (u : OkU m e a o.op.operands) : OpDoes P o a w lo base m H (ptr H.length 0) (H ++ [⟨(x'.ev e).cells.toList, 0, 0, false, true⟩]) := by
  have hv := (u.ev (x := x) (by simp [ho, Op.operands]) hx).cells hc
  refine OpDoes.newB s ⟨(x'.ev e).cells.toList, 0, 0, false, true⟩ (a.eval x).cells t 0 0 false ⟨w, rfl, Below.refl _ _, ?_⟩ ?_ (by simp) (by simp)
  · simp [execOp, ho, Instr.box, newVar, newRow]
  · intro j v hj
    obtain ⟨v', h1, h2⟩ := hv.2 j v hj
    exact ⟨v', by simpa using h1, h2⟩

theorem setL_length : ∀ (vs cs : List Value) (o : Nat), (setL cs o vs).length = cs.length
  | [], cs, o => rfl
  | v :: vs, cs, o => by simp [setL, setL_length vs]
theorem setL_eq : ∀ (vs cs : List Value) (o : Nat), o + vs.length ≤ cs.length → setL cs o vs = cs.take o ++ vs ++ cs.drop (o + vs.length)
  | [], cs, o, _ => by simp [setL]
  | v :: vs, cs, o, h => by
    simp only [List.length_cons] at h
    rw [setL, setL_eq vs (cs.set o v) (o + 1) (by simp; omega)]
    have := list_seg_step cs o v vs (by omega)
    simpa [Nat.add_comm, Nat.add_left_comm] using this
theorem All2.setL {R : Value → Value → Prop} : ∀ {vs vs' : List Value} {cs cs' : List Value} (o : Nat), All2 R vs vs' → All2 R cs cs' → All2 R (Go.Proofs.YtkdhdklggdbgdaaI.setL cs o vs) (Go.Proofs.YtkdhdklggdbgdaaI.setL cs' o vs')
  | [], [], cs, cs', o, _, h => h
  | v :: vs, v' :: vs', cs, cs', o, hv, h => by
    have h0 : R v v' := by obtain ⟨y, hy, r⟩ := hv.2 0 v rfl; simp at hy; subst hy; exact r
    exact All2.setL (o + 1) ⟨by simpa using hv.1, fun i x hx => hv.2 (i + 1) x (by simpa using hx)⟩ (h.set o h0)
  | [], v' :: vs', cs, cs', o, hv, h => by have := hv.1; simp at this
  | v :: vs, [], cs, cs', o, hv, h => by have := hv.1; simp at this

theorem foldl_setL : ∀ (vs : List Value) (k o : Nat) (cs : Array Value), ((vs.zipIdx k).foldl (fun cs (x : Value × Nat) => cs.setIfInBounds (o + x.2) x.1) cs).toList = setL cs.toList (o + k) vs
  | [], k, o, cs => by simp [setL]
  | v :: vs, k, o, cs => by
    simp only [List.zipIdx_cons, List.foldl_cons]
    rw [foldl_setL vs (k + 1) o]
    simp [setL, Nat.add_assoc]

theorem fill_does (pl : Nat → Option (Nat × Nat)) : ∀ (ps : List (Nat × Operand)) (ps' : List (Nat × Nat × Opd)) (cs : List Value) (cs' : Array Value) (out : List Value),
    cParts P pl ps = some ps' → (∀ t, (∃ i, (i, Operand.tmp t) ∈ ps) → VR m (e t) (a.eval (.tmp t))) → All2 (VR1 m) cs cs'.toList → fillL e cs ps' = some out →
    ∃ out', Instr.fill pl cs' (ps.map fun x => (x.1, a.eval x.2)) = some out' ∧ All2 (VR1 m) out out'.toList
  | [], ps', cs, cs', out, hp, hu, hr, hf => by
    simp only [cParts, Option.some.injEq] at hp
    subst hp
    simp only [fillL, Option.some.injEq] at hf
    subst hf
    exact ⟨cs', rfl, hr⟩
  | (i, x) :: ps, ps', cs, cs', out, hp, hu, hr, hf => by
    simp only [cParts, Option.bind_eq_some_iff, Option.map_eq_some_iff] at hp
    obtain ⟨⟨o', n⟩, hpl, x', hx, ps1, hp1, rfl⟩ := hp
    simp only [fillL] at hf
    split at hf
    case isFalse => cases hf
    case isTrue hc =>
      obtain ⟨h1, h2, h3⟩ := hc
      have hv : VR m (x'.ev e) (a.eval x) := by
        cases x with
        | tmp t => cases hx; exact hu t ⟨i, by simp⟩
        | const v => exact OkU.ev (xs := #[.const v]) (fun t ht => by simp at ht) (by simp) hx
        | func f => exact OkU.ev (xs := #[.func f]) (fun t ht => by simp at ht) (by simp) hx
        | global g => cases hx
      have hv' := hv.cells h3
      have hl : (a.eval x).cells.size = n := by have := hv'.1; simp at this h1; omega
      have hcs : cs'.size = cs.length := by have := hr.1; simpa using this.symm
      have hset := All2.setL o' hv' hr
      obtain ⟨out', h4, h5⟩ := fill_does pl ps ps1 _ ((a.eval x).cells.zipIdx.foldl (fun cs (c, j) => cs.setIfInBounds (o' + j) c) cs') out hp1
        (fun t ⟨j, hj⟩ => hu t ⟨j, by simp [hj]⟩) (by
          have := foldl_setL (a.eval x).cells.toList 0 o' cs'
          rw [Nat.add_zero] at this
          rw [← Array.foldl_toList, Array.toList_zipIdx]
          refine Eq.mp ?_ hset
          congr 1
          rw [← this]) hf
      refine ⟨out', ?_, h5⟩
      simp only [List.map_cons, Instr.fill, hpl]
      rw [if_neg (by simp only [Bool.or_eq_true, decide_eq_true_eq, not_or]; omega)]
      exact h4

theorem does_build {t : TypeId} {ps : Array (Nat × Operand)} (ho : o.op = .build t ps) {i : TypeInfo} (hi : P.info? t = some i) {z : Value} (hz : i.zero = some z) {fs : Array Field}
    (hu : P.underlying t = some (.struct fs)) (hc : z.cells.toList.all okC = true) {pl : List (Nat × Nat)} (hp : fplaces P fs = some pl) {ps' : List (Nat × Nat × Opd)} (hps : cParts P (pl[·]?) ps.toList = some ps')
    {out : List Value} (hf : fillL e z.cells.toList ps' = some out) (s : Sim lo base m H w.heap) (u : OkU m e a o.op.operands) : OpDoes P o a w lo base m H (.agg out.toArray) H := by
  obtain ⟨out', h1, h2⟩ := fill_does (P := P) (a := a) (m := m) (pl[·]?) ps.toList ps' z.cells.toList z.cells out hps
    (fun t ⟨j, hj⟩ => u t (by simp only [ho, Op.operands, List.mem_toArray, List.mem_map]; exact ⟨_, hj, rfl⟩))
    ⟨rfl, fun j v hj => ⟨v, hj, VR1.okC (List.all_eq_true.1 hc _ (List.mem_of_getElem? hj))⟩⟩ hf
  refine OpDoes.still s (v' := .agg out') ?_ (.inl (.inr ⟨_, _, rfl, rfl, by simpa using h2⟩))
  have hb : P.built t (ps.map fun (i, x) => (i, a.eval x)).toList = some out' := by
    unfold Program.built
    simp only [hi, hu, hz]
    unfold fplaces at hp
    rw [hp]
    simpa [Array.toList_map] using h1
  simp [execOp, ho, run_build w t _ out' hb]

theorem does_lit {t el : TypeId} {len : Nat} {ps : Array (Nat × Operand)} (ho : o.op = .buildSlice t len ps) (hu : P.underlying t = some (.slice el)) {i : TypeInfo} (hi : P.info? el = some i) {z : Value} (hz : i.zero = some z)
    (h24 : len * i.size ≤ 2 ^ 24) (hpos : 0 < i.size) (hc : z.cells.toList.all okC = true) (hsz : z.cells.size = i.size)
    {ps' : List (Nat × Nat × Opd)} (hps : cParts P (fun j => some (j * i.size, i.size)) ps.toList = some ps')
    {out : List Value} (hf : fillL e ((Array.range (len * i.size)).map (z.cells[· % z.cells.size]!)).toList ps' = some out) (s : Sim lo base m H w.heap) (u : OkU m e a o.op.operands) :
    OpDoes P o a w lo base m H (sli H.length 0 len) (H ++ [⟨out, i.size, el, true, true⟩]) := by
  have hz0 : ∀ (j : Nat) (v : Value), ((Array.range (len * i.size)).map (z.cells[· % z.cells.size]!)).toList[j]? = some v → VR1 m v v := by
    intro j v hj
    refine VR1.okC (List.all_eq_true.1 hc _ ?_)
    simp only [Array.toList_map, List.getElem?_map, Option.map_eq_some_iff] at hj
    obtain ⟨q, _, rfl⟩ := hj
    have hlt : q % z.cells.size < z.cells.size := Nat.mod_lt _ (by omega)
    rw [getElem!_pos z.cells _ hlt]
    simp
  obtain ⟨out', h1, h2⟩ := fill_does (P := P) (a := a) (m := m) (fun j => some (j * i.size, i.size)) ps.toList ps' _ ((Array.range (len * i.size)).map (z.cells[· % z.cells.size]!)) out hps
    (fun t ⟨j, hj⟩ => u t (by simp only [ho, Op.operands, List.mem_toArray, List.mem_map]; exact ⟨_, hj, rfl⟩))
    ⟨rfl, fun j v hj => ⟨v, hj, hz0 j v hj⟩⟩ hf
  have hlen : out'.size = len * i.size := by
    have hfl : ∀ (ps : List (Nat × Nat × Opd)) (cs out : List Value), fillL e cs ps = some out → out.length = cs.length := by
      intro ps
      induction ps with
      | nil => intro cs out h; simp only [fillL, Option.some.injEq] at h; subst h; rfl
      | cons p ps ih =>
        intro cs out h
        obtain ⟨o1, n1, x1⟩ := p
        simp only [fillL] at h
        split at h
        · rw [ih _ _ h, setL_length]
        · cases h
    have := hfl _ _ _ hf
    have h3 := h2.1
    simp at this h3
    omega
  have key := OpDoes.newB (P := P) (o := o) (a := a) (base := base) s ⟨out, i.size, el, true, true⟩ out' el len len true ⟨w, rfl, Below.refl _ _, ?_⟩ ?_ (fun _ => rfl) (fun _ => ⟨Nat.le_refl _, by show len * i.size ≤ out'.size; omega⟩)
  · simpa using key
  · by_cases h0 : len * i.size = 0
    · have hlen0 : len = 0 := by rcases Nat.mul_eq_zero.1 h0 with h | h <;> omega
      subst hlen0
      have hf' : Instr.fill (fun j => some (j * i.size, i.size)) #[] (List.map (fun x => (x.fst, a.eval x.snd)) ps.toList) = some out' := by simpa [Array.range_zero'] using h1
      simp [execOp, ho, Instr.buildSlice, run_underlying hu, sizeOf, typeInfo, hi, newRow, hf', Array.range_zero']
    · have hr := run_buildSlice (P := P) w t el len (ps.map fun (i, x) => (i, a.eval x)) out' i z hu hi hz (by omega) h0 (by simpa [Array.toList_map] using h1)
      simp [execOp, ho, hr]
  · intro j v hj
    obtain ⟨v', q1, q2⟩ := h2.2 j v hj
    exact ⟨v', by simpa using q1, q2⟩

/-- What a run of cells reads as. -/
theorem Sim.read (s : Sim lo base m H w.heap) {b o n : Nat} {cs : List Value} (hg : getCells H b o n = some cs) {x : MB} (hx : m b = some x) :
    ∃ cs' : List Value, All2 (VR1 m) cs cs' ∧ (∀ j v, cs'[j]? = some v → w.cell? ⟨x.blk, x.off + o + j, none⟩ = some v) ∧ cs.length = n := by
  unfold getCells at hg
  split at hg
  case h_2 => cases hg
  case h_1 k hk =>
    split at hg
    case isFalse => cases hg
    case isTrue hle =>
      simp only [Option.some.injEq] at hg
      subst hg
      obtain ⟨c, t, fr, h1, h2⟩ := s.cell b x k hx hk
      refine ⟨(c.toList.drop (x.off + o)).take n, ⟨?_, ?_⟩, ?_, ?_⟩
      · have hsz : x.off + o + n ≤ c.size ∨ n = 0 := by
          rcases Nat.eq_zero_or_pos n with h0 | hp
          · exact .inr h0
          · left
            obtain ⟨v', hv', _⟩ := h2 (o + (n - 1)) (k.cells[o + (n - 1)]'(by omega)) (List.getElem?_eq_getElem (by omega))
            have := (Array.getElem?_eq_some_iff.1 hv').1
            omega
        simp only [List.length_take, List.length_drop, Array.length_toList]
        omega
      · intro j v hj
        rw [List.getElem?_take] at hj ⊢
        split at hj
        · rename_i hjn
          rw [if_pos hjn]
          rw [List.getElem?_drop] at hj ⊢
          obtain ⟨v', q1, q2⟩ := h2 _ v hj
          exact ⟨v', by simpa [Nat.add_assoc] using q1, q2⟩
        · cases hj
      · intro j v hj
        rw [List.getElem?_take] at hj
        split at hj
        · rw [List.getElem?_drop] at hj
          simp only [World.cell?, h1, Option.isSome_none, Bool.false_eq_true, if_false]
          simpa using hj
        · cases hj
      · simp only [List.length_take, List.length_drop]; omega

theorem valOf_does {agg : Bool} {cs cs' : List Value} (h : All2 (VR1 m) cs cs') (hv : valOf agg cs = some v) :
    ∃ v', VR m v v' ∧ (if agg then v' = .agg cs'.toArray else cs' = [v']) := by
  cases agg with
  | true =>
    simp only [valOf, if_true, Option.some.injEq] at hv
    subst hv
    exact ⟨_, .inl (.inr ⟨_, _, rfl, rfl, by simpa using h⟩), by simp⟩
  | false =>
    unfold valOf at hv
    simp only [Bool.false_eq_true, if_false] at hv
    split at hv
    · simp only [Option.some.injEq] at hv
      subst hv
      obtain ⟨y, hy, r⟩ := h.2 0 _ rfl
      refine ⟨y, VR.of1 r, ?_⟩
      have hl := h.1
      simp only [Bool.false_eq_true, if_false]
      cases cs' with
      | nil => simp at hy
      | cons z zs => simp at hy hl; subst hy; rw [hl]
    · cases hv

theorem does_load {t : TypeId} {x : Operand} (ho : o.op = .load t x) {d : TypeDesc} (hu : P.underlying t = some d) {i : TypeInfo} (hi : P.info? t = some i) (hd : isAggD d = true ∨ i.size = 1)
    {x' : Opd} (hx : cOpd x = some x') {ad : Addr} (hp : x'.ev e = .pointer (some ad)) {cs : List Value} (hg : getCells H ad.block ad.off i.size = some cs) (hv : valOf (isAggD d) cs = some v)
    (s : Sim lo base m H w.heap) (u : OkU m e a o.op.operands) : OpDoes P o a w lo base m H v H := by
  have h1 := u.ev (x := x) (by simp [ho, Op.operands]) hx
  rw [hp] at h1
  obtain ⟨mb, hm, _, hax⟩ := h1.ptr
  obtain ⟨cs', h2, h3, h4⟩ := s.read hg hm
  obtain ⟨v', h5, h6⟩ := valOf_does h2 hv
  refine OpDoes.still s (v' := v') ?_ h5
  have hl : cs'.length = i.size := by rw [← h2.1, h4]
  have hread : ∀ j v, cs'[j]? = some v → w.cell? ((⟨mb.blk, mb.off + ad.off, none⟩ : Addr).add j) = some v := fun j v hj => by
    rw [Addr.add_lit]; exact h3 j v hj
  cases hagg : isAggD d with
  | true =>
    rw [hagg] at h6
    simp only [if_true] at h6
    subst h6
    have hlc := run_loadCells_list (P := P) w _ cs' hread
    rw [hl] at hlc
    have hia : (isAgg t).run P w = .ok true w := by
      simp only [isAgg, Sem.run_bind, run_underlying hu, Result.andThen_ok]
      cases d <;> simp [isAggD] at hagg <;> rfl
    simp [execOp, ho, hax, Instr.loadAt, Instr.sureAddr, loadVar, hia, sizeOf, typeInfo, hi, hlc]
  | false =>
    rw [hagg] at h6
    simp only [Bool.false_eq_true, if_false] at h6
    subst h6
    have hc := hread 0 v' rfl
    rw [Addr.add_zero'] at hc
    have hia : (isAgg t).run P w = .ok false w := by
      simp only [isAgg, Sem.run_bind, run_underlying hu, Result.andThen_ok]
      cases d <;> simp [isAggD] at hagg <;> rfl
    simp [execOp, ho, hax, Instr.loadAt, Instr.sureAddr, loadVar, hia, hc]

theorem does_store {t : TypeId} {x y : Operand} (ho : o.op = .store t x y) {i : TypeInfo} (hi : P.info? t = some i) (hpos : 0 < i.size) {x' y' : Opd} (hx : cOpd x = some x') (hy : cOpd y = some y')
    {ad : Addr} (hp : x'.ev e = .pointer (some ad)) {k : Blk} (hk : H[ad.block]? = some k) (hlo : lo ≤ ad.block) (hs : k.solo = true) (hn : (y'.ev e).cells.toList.length = i.size)
    (hle : ad.off + i.size ≤ k.cells.length) (hone : (y'.ev e).cells.toList.all one = true) (s : Sim lo base m H w.heap) (u : OkU m e a o.op.operands) :
    OpDoes P o a w lo base m H undef (H.set ad.block { k with cells := setL k.cells ad.off (y'.ev e).cells.toList }) := by
  have h1 := u.ev (x := x) (by simp [ho, Op.operands]) hx
  have h2 := (u.ev (x := y) (by simp [ho, Op.operands]) hy).cells hone
  rw [hp] at h1
  obtain ⟨mb, hm, _, hax⟩ := h1.ptr
  obtain ⟨o1, o2, o3, cs, o4, o5⟩ := s.own ad.block mb k hlo hm hk
  obtain ⟨cs0, t0, fr0, c1, c2⟩ := s.cell ad.block mb k hm hk
  rw [o4] at c1
  simp only [Option.some.injEq, Obj.cells.injEq] at c1
  obtain ⟨rfl, _, _⟩ := c1
  have hlen : (a.eval y).cells.toList.length = i.size := by rw [← h2.1, hn]
  have hlen' : (a.eval y).cells.size = i.size := by simpa using hlen
  have hksz : k.cells.length ≤ cs.size := by
    rcases Nat.eq_zero_or_pos k.cells.length with h0 | hp'
    · omega
    · obtain ⟨v', q, _⟩ := c2 (k.cells.length - 1) (k.cells[k.cells.length - 1]'(by omega)) (List.getElem?_eq_getElem (by omega))
      have := (Array.getElem?_eq_some_iff.1 q).1
      rw [o2] at this
      omega
  have hst := run_storeCells_at P mb.blk (mb.off + ad.off) mb.et (a.eval y).cells.toList 0 cs w o4 (by rw [o2]; omega) (fun v hv => by
    obtain ⟨v0, _, r⟩ := h2.mem_right hv
    exact r.one_right)
  simp only [Nat.add_zero, o2, Nat.zero_add] at hst
  rw [← setL_eq _ _ _ (by simp only [Array.length_toList] at hlen ⊢; omega)] at hst
  refine ⟨undef, w.setRow mb.blk (setL cs.toList ad.off (a.eval y).cells.toList).toArray, m, .inr ⟨?_, rfl⟩, MM.agree.refl _ _, ?_, VR.mono (m := fun _ => none) (fun b x hx => by cases hx) (.inr ⟨#[], #[], rfl, rfl, All2.nil⟩), ?_, by simp⟩
  · have hsz : (a.eval y).cells.size = i.size := by simpa using hlen
    simp [execOp, ho, hax, Instr.storeAt, Instr.sureAddr, storeVar, sizeOf, typeInfo, hi, hsz, o2, hst]
  · refine s.upd hlo hm hk hs (by intro h0; rw [h0] at hle; simp at hle; omega) _ (setL_length _ _ _) _ (setRow_size _ _ _) (setRow_heap w _ _ _ _ _ o4) (fun c hc => setRow_other w _ _ _ hc) (by simp [setL_length, o5]) ?_
    intro j v hj
    have hall : All2 (VR1 m) k.cells (cs.toList.take k.cells.length) := by
      refine ⟨by simp only [List.length_take, Array.length_toList]; omega, fun i x hx => ?_⟩
      obtain ⟨v', q1, q2⟩ := c2 i x hx
      have hi' := (List.getElem?_eq_some_iff.1 hx).1
      rw [o2, Nat.zero_add] at q1
      exact ⟨v', by rw [List.getElem?_take, if_pos hi']; simpa using q1, q2⟩
    obtain ⟨v', q1, q2⟩ := (All2.setL ad.off h2 hall).2 j v hj
    refine ⟨v', ?_, q2⟩
    have hjl : j < k.cells.length := by have := (List.getElem?_eq_some_iff.1 hj).1; rwa [setL_length] at this
    rw [setL_eq _ _ _ (by rw [hlen, List.length_take, Array.length_toList]; omega)] at q1
    simp only [List.getElem?_toArray]
    rw [setL_eq _ _ _ (by rw [hlen, Array.length_toList]; omega)]
    rw [← q1]
    simp only [List.getElem?_append, List.length_append, List.length_take, List.getElem?_take, List.getElem?_drop, Array.length_toList]
    have e1 : min ad.off (min k.cells.length cs.size) = ad.off := by omega
    have e2 : min ad.off cs.size = ad.off := by omega
    rw [e1, e2]
    repeat' split
    all_goals first | rfl | (exfalso; omega) | omega
  · exact ⟨rfl, rfl, rfl, by simp, fun c hc => setRow_other w _ _ _ (by omega)⟩

theorem does_nilck {x : Operand} (ho : o.op = .nilCheck x) {x' : Opd} (hx : cOpd x = some x')
    (hp : (∃ ad, x'.ev e = .pointer (some ad)) ∨ ∃ g f c, x'.ev e = .func (.func g) f c) (s : Sim lo base m H w.heap) (u : OkU m e a o.op.operands) : OpDoes P o a w lo base m H (x'.ev e) H := by
  have h1 := u.ev (x := x) (by simp [ho, Op.operands]) hx
  refine OpDoes.still s (v' := a.eval x) ?_ h1
  rcases hp with ⟨ad, hp⟩ | ⟨g, f, c, hp⟩
  · rw [hp] at h1
    obtain ⟨mb, _, _, hax⟩ := h1.ptr
    simp [execOp, ho, hax]
  · rw [hp] at h1
    obtain ⟨f', c', hax, _⟩ := h1.func
    simp [execOp, ho, hax]

theorem does_un {op : UnOp} {t : TypeId} {x : Operand} (ho : o.op = .unOp op t x) {x' : Opd} (hx : cOpd x = some x') (hv : unV op (x'.ev e) = some v)
    (s : Sim lo base m H w.heap) (u : OkU m e a o.op.operands) : OpDoes P o a w lo base m H v H := by
  have h1 := u.ev (x := x) (by simp [ho, Op.operands]) hx
  unfold unV at hv
  split at hv
  · rename_i b he
    cases hv
    rw [he] at h1
    refine OpDoes.still s (v' := .bool (!b)) ?_ (VR.of0 rfl)
    simp [execOp, ho, h1.bool, Op.unary]
  · rename_i k n he
    cases hv
    rw [he] at h1
    refine OpDoes.still s (v' := .int k (k.wrap (0 - n))) ?_ (VR.of0 rfl)
    simp [execOp, ho, h1.int, Op.unary, Op.intArith]
  · cases hv

theorem does_conv {sT dT : TypeId} {x : Operand} (ho : o.op = .convert sT dT x) {d : TypeDesc} (hs : P.underlying sT = some d) {k : IntKind} (hd : P.underlying dT = some (.int k)) {x' : Opd} (hx : cOpd x = some x')
    {k0 : IntKind} {n : Int} (he : x'.ev e = .int k0 n) (s : Sim lo base m H w.heap) (u : OkU m e a o.op.operands) : OpDoes P o a w lo base m H (.int k (k.wrap n)) H := by
  have h1 := u.ev (x := x) (by simp [ho, Op.operands]) hx
  rw [he] at h1
  refine OpDoes.still s (v' := .int k (k.wrap n)) ?_ (VR.of0 rfl)
  cases d <;> simp [execOp, ho, h1.int, convert, run_underlying hs, run_underlying hd, Conv.intToInt]

theorem does_fad {sT : TypeId} {x : Operand} {f : Nat} (ho : o.op = .fieldAddr sT x f) {fs : Array Field} (hu : P.underlying sT = some (.struct fs)) {fd : Field} (hf : fs[f]? = some fd) {i : TypeInfo} (hi : P.info? fd.type = some i)
    (h0 : i.size ≠ 0) {x' : Opd} (hx : cOpd x = some x') {ad : Addr} (he : x'.ev e = .pointer (some ad)) (s : Sim lo base m H w.heap) (u : OkU m e a o.op.operands) :
    OpDoes P o a w lo base m H (ptr ad.block (ad.off + fd.offset)) H := by
  have h1 := u.ev (x := x) (by simp [ho, Op.operands]) hx
  rw [he] at h1
  obtain ⟨mb, hm, _, hax⟩ := h1.ptr
  refine OpDoes.still s (v' := .pointer (some ⟨mb.blk, mb.off + ad.off + fd.offset, none⟩)) ?_ (VR.of0 ⟨mb, hm, rfl, by simp [Nat.add_assoc]⟩)
  simp [execOp, ho, hax, Instr.fieldAt, run_underlying hu, hf, Instr.sureAddr, fieldPlace, sizeOf, typeInfo, hi, h0, Addr.add_lit]

theorem does_fld {sT : TypeId} {x : Operand} {f : Nat} (ho : o.op = .field sT x f) {fs : Array Field} (hu : P.underlying sT = some (.struct fs)) {fd : Field} (hf : fs[f]? = some fd) {i : TypeInfo} (hi : P.info? fd.type = some i)
    {d : TypeDesc} (hd : P.underlying fd.type = some d) (h1 : isAggD d = true ∨ i.size = 1) {x' : Opd} (hx : cOpd x = some x') {cs : Array Value} (he : x'.ev e = .agg cs) (hle : fd.offset + i.size ≤ cs.toList.length)
    (hv : valOf (isAggD d) ((cs.toList.drop fd.offset).take i.size) = some v) (s : Sim lo base m H w.heap) (u : OkU m e a o.op.operands) : OpDoes P o a w lo base m H v H := by
  have h2 := u.ev (x := x) (by simp [ho, Op.operands]) hx
  rw [he] at h2
  obtain ⟨cs', hax, hr⟩ := h2.agg
  obtain ⟨v', h5, h6⟩ := valOf_does ((hr.drop fd.offset).take i.size) hv
  refine OpDoes.still s (v' := v') ?_ h5
  have hl : cs'.size = cs.size := by have := hr.1; simpa using this.symm
  cases hagg : isAggD d with
  | true =>
    rw [hagg] at h6
    simp only [if_true] at h6
    subst h6
    have hia : (isAgg fd.type).run P w = .ok true w := by
      simp only [isAgg, Sem.run_bind, run_underlying hd, Result.andThen_ok]
      cases d <;> simp [isAggD] at hagg <;> rfl
    have hex : cs'.extract fd.offset (fd.offset + i.size) = (List.take i.size (List.drop fd.offset cs'.toList)).toArray := by
      apply Array.ext'
      simp [Array.toList_extract, List.extract_eq_take_drop]
    simp [execOp, ho, hax, Instr.field, run_underlying hu, hf, asAgg, part, hia, sizeOf, typeInfo, hi, hex]
  | false =>
    rw [hagg] at h6
    simp only [Bool.false_eq_true, if_false] at h6
    have hia : (isAgg fd.type).run P w = .ok false w := by
      simp only [isAgg, Sem.run_bind, run_underlying hd, Result.andThen_ok]
      cases d <;> simp [isAggD] at hagg <;> rfl
    have hc : cs'[fd.offset]? = some v' := by
      have := congrArg (fun l => l[0]?) h6
      rcases h1 with h1 | h1
      · rw [hagg] at h1; cases h1
      · simpa [List.getElem?_take, h1] using this
    simp [execOp, ho, hax, Instr.field, run_underlying hu, hf, asAgg, part, hia, hc]

theorem does_iad {t el : TypeId} {x y : Operand} (ho : o.op = .indexAddr t x y) (hu : P.underlying t = some (.slice el)) {i : TypeInfo} (hi : P.info? el = some i) {x' y' : Opd} (hx : cOpd x = some x') (hy : cOpd y = some y')
    {ad : Addr} {n c' : Nat} (he : x'.ev e = .slice (some ad) n c') {k : IntKind} {j : Int} (hj : y'.ev e = .int k j) (h0 : 0 ≤ j) (hn : j < n) (s : Sim lo base m H w.heap) (u : OkU m e a o.op.operands) :
    OpDoes P o a w lo base m H (ptr ad.block (ad.off + j.toNat * i.size)) H := by
  have h1 := u.ev (x := x) (by simp [ho, Op.operands]) hx
  have h2 := u.ev (x := y) (by simp [ho, Op.operands]) hy
  rw [he] at h1
  rw [hj] at h2
  obtain ⟨mb, hm, _, c1, hax, _⟩ | ⟨hz, _⟩ := h1.sl
  · refine OpDoes.still s (v' := .pointer (some ⟨mb.blk, mb.off + ad.off + j.toNat * i.size, none⟩)) ?_ (VR.of0 ⟨mb, hm, rfl, by simp [Nat.add_assoc]⟩)
    simp [execOp, ho, hax, h2.int, Instr.indexAt, asIntOf, run_underlying hu, h0, hn, sizeOf, typeInfo, hi, Addr.add_lit]
  · omega

theorem does_ext {x : Operand} {i : Nat} (ho : o.op = .extract x i) {x' : Opd} (hx : cOpd x = some x') {vs : Array Value} (he : x'.ev e = .tuple vs) (hv : vs.toList[i]? = some v)
    (s : Sim lo base m H w.heap) (u : OkU m e a o.op.operands) : OpDoes P o a w lo base m H v H := by
  have h1 := u.ev (x := x) (by simp [ho, Op.operands]) hx
  rw [he] at h1
  obtain ⟨vs', hax, hr⟩ := h1.tup
  obtain ⟨v', h2, h3⟩ := hr.2 i v hv
  refine OpDoes.still s (v' := v') ?_ (.inl h3)
  have h2' : vs'[i]? = some v' := by simpa using h2
  simp [execOp, ho, hax, Instr.extract, h2']

theorem does_len {x : Operand} {t : TypeId} {ts : Array TypeId} (ho : o.op = .call ⟨.builtin .len, #[x], ts⟩) (ht : ts[0]? = some t) {el : TypeId} (hu : P.underlying t = some (.slice el)) {x' : Opd} (hx : cOpd x = some x')
    {ad : Option Addr} {n c' : Nat} (he : x'.ev e = .slice ad n c') (s : Sim lo base m H w.heap) (u : OkU m e a o.op.operands) : OpDoes P o a w lo base m H (.int .i64 n) H := by
  have h1 := u.ev (x := x) (by simp [ho, Op.operands, Call.operands]) hx
  rw [he] at h1
  refine OpDoes.still s (v' := .int .i64 n) ?_ (VR.of0 rfl)
  have hs : ∃ A c1, a.eval x = .slice A n c1 := by
    cases ad with
    | none => obtain ⟨rfl, h⟩ := h1.slN; exact ⟨_, _, h⟩
    | some ad =>
      obtain ⟨mb, _, _, c1, hax, _⟩ | ⟨rfl, _, A, c1, hax⟩ := h1.sl
      · exact ⟨_, _, hax⟩
      · exact ⟨_, _, hax⟩
  obtain ⟨A, c1, hax⟩ := hs
  simp [execOp, ho, resolve, hax, invoke, builtin, Builtin.len_, ht, run_underlying hu, goInt]

theorem does_max {x y : Operand} {ts : Array TypeId} (ho : o.op = .call ⟨.builtin .max, #[x, y], ts⟩) {x' y' : Opd} (hx : cOpd x = some x') (hy : cOpd y = some y') {k k' : IntKind} {p q : Int}
    (he : x'.ev e = .int k p) (hf : y'.ev e = .int k' q) (s : Sim lo base m H w.heap) (u : OkU m e a o.op.operands) : OpDoes P o a w lo base m H (.int k (if q > p then q else p)) H := by
  have h1 := u.ev (x := x) (by simp [ho, Op.operands, Call.operands]) hx
  have h2 := u.ev (x := y) (by simp [ho, Op.operands, Call.operands]) hy
  rw [he] at h1
  rw [hf] at h2
  refine OpDoes.still s (v' := .int k (if q > p then q else p)) ?_ (VR.of0 rfl)
  simp [execOp, ho, resolve, h1.int, h2.int, invoke, builtin, Builtin.max_, Builtin.max2]

theorem does_bin {op : BinOp} {t ty : TypeId} {x y : Operand} (ho : o.op = .binOp op t x y ty) {x' y' : Opd} (hx : cOpd x = some x') (hy : cOpd y = some y') (hv : binV op (x'.ev e) (y'.ev e) = some v)
    (s : Sim lo base m H w.heap) (u : OkU m e a o.op.operands) : OpDoes P o a w lo base m H v H := by
  have h1 := u.ev (x := x) (by simp [ho, Op.operands]) hx
  have h2 := u.ev (x := y) (by simp [ho, Op.operands]) hy
  unfold binV at hv
  split at hv
  case h_2 => cases hv
  case h_1 k p k' q hp hq =>
    rw [hp] at h1
    rw [hq] at h2
    have e1 := h1.int
    have e2 := h2.int
    by_cases hk : shiftOp op = true ∨ k = k'
    case neg => rw [if_neg hk] at hv; cases hv
    case pos =>
      rw [if_pos hk] at hv
      cases op <;> simp only [binI] at hv
      case quo =>
        split at hv
        · cases hv
        · rename_i hq0
          cases hv
          refine OpDoes.still s ?_ (VR.of0 rfl)
          simp [shiftOp] at hk
          subst hk
          simp [execOp, ho, e1, e2, eqGuard, binOp, Op.intDiv, hq0]
      case rem =>
        split at hv
        · cases hv
        · rename_i hq0
          cases hv
          refine OpDoes.still s ?_ (VR.of0 rfl)
          simp [shiftOp] at hk
          subst hk
          simp [execOp, ho, e1, e2, eqGuard, binOp, Op.intDiv, hq0]
      case shl =>
        split at hv
        · cases hv
        · rename_i hq0
          cases hv
          refine OpDoes.still s ?_ (VR.of0 rfl)
          simp [execOp, ho, e1, e2, eqGuard, binOp, Op.shift, hq0]
      case shr =>
        split at hv
        · cases hv
        · rename_i hq0
          cases hv
          refine OpDoes.still s ?_ (VR.of0 rfl)
          simp [execOp, ho, e1, e2, eqGuard, binOp, Op.shift, hq0]
      all_goals
        cases hv
        refine OpDoes.still s ?_ (VR.of0 rfl)
        simp [shiftOp] at hk
        subst hk
        simp [execOp, ho, e1, e2, eqGuard, binOp, Op.intArith, Op.intBits, Op.intCmp]

theorem does_beq {op : BinOp} {t ty : TypeId} {x y : Operand} (ho : o.op = .binOp op t x y ty) (hu : P.underlying t = some .bool) (hop : op = .eql ∨ op = .neq) {x' y' : Opd} (hx : cOpd x = some x') (hy : cOpd y = some y')
    {p q : Bool} (hp : x'.ev e = .bool p) (hq : y'.ev e = .bool q) (s : Sim lo base m H w.heap) (u : OkU m e a o.op.operands) :
    OpDoes P o a w lo base m H (.bool (if isNeq op then !(p == q) else p == q)) H := by
  have h1 := u.ev (x := x) (by simp [ho, Op.operands]) hx
  have h2 := u.ev (x := y) (by simp [ho, Op.operands]) hy
  rw [hp] at h1
  rw [hq] at h2
  refine OpDoes.still s (v' := .bool (if isNeq op then !(p == q) else p == q)) ?_ (VR.of0 rfl)
  rcases hop with rfl | rfl <;> simp [execOp, ho, h1.bool, h2.bool, eqGuard, binOp, run_equal_bool w t _ _ hu, isNeq]

theorem eqCells_eqFields (d : Nat) : ∀ (fs : List Field) (j : Nat) (xs ys : Array Value) (r : Bool),
    ((fs.zipIdx j).all fun (f, j) => f.name != "_" && f.offset == j && (P.underlying f.type matches some (.int _)) && (P.info? f.type).any (·.size == 1)) = true →
    eqCells (xs.toList.drop j) (ys.toList.drop j) = some r → xs.size = j + fs.length → ys.size = j + fs.length → (Op.eqFields (d + 1) xs ys fs).run P w = .ok r w
  | [], j, xs, ys, r, _, he, hx, hy => by
    simp only [List.length_nil] at hx hy
    rw [List.drop_eq_nil_of_le (by simp; omega), List.drop_eq_nil_of_le (by simp; omega)] at he
    simp only [eqCells, Option.some.injEq] at he
    subst he
    simp [Op.eqFields]
  | f :: fs, j, xs, ys, r, hall, he, hx, hy => by
    simp only [List.zipIdx_cons, List.all_cons, Bool.and_eq_true, bne_iff_ne, ne_eq, beq_iff_eq] at hall
    obtain ⟨⟨⟨⟨hn, hoff⟩, hint⟩, _⟩, hrest⟩ := hall
    simp only [List.length_cons] at hx hy
    obtain ⟨k, hk⟩ : ∃ k, P.underlying f.type = some (.int k) := by
      revert hint
      cases hq : P.underlying f.type with
      | none => simp
      | some d => cases d <;> simp
    have hxj : xs.toList.drop j = xs[j]'(by omega) :: xs.toList.drop (j + 1) := by
      rw [List.drop_eq_getElem_cons (by simp; omega)]; simp
    have hyj : ys.toList.drop j = ys[j]'(by omega) :: ys.toList.drop (j + 1) := by
      rw [List.drop_eq_getElem_cons (by simp; omega)]; simp
    rw [hxj, hyj] at he
    have hia : (isAgg f.type).run P w = .ok false w := by
      simp only [isAgg, Sem.run_bind, run_underlying hk, Result.andThen_ok]; rfl
    have hpx : (part f.type xs f.offset).run P w = .ok (xs[j]'(by omega)) w := by
      simp [part, hia, hoff, Array.getElem?_eq_getElem (show j < xs.size by omega)]
    have hpy : (part f.type ys f.offset).run P w = .ok (ys[j]'(by omega)) w := by
      simp [part, hia, hoff, Array.getElem?_eq_getElem (show j < ys.size by omega)]
    generalize xs[j]'(by omega) = vx at he hpx
    generalize ys[j]'(by omega) = vy at he hpy
    obtain ⟨k1, p, q, ys1, r', rfl, h2, hr', rfl⟩ := eqCells_cons he
    simp only [List.cons.injEq] at h2
    obtain ⟨rfl, rfl⟩ := h2
    have ih := eqCells_eqFields d fs (j + 1) xs ys r' hrest hr' (by omega) (by omega)
    have hq := run_equalIn_int (P := P) w d f.type k1 k p q hk
    by_cases hpq : p = q
    · subst hpq
      simp [Op.eqFields, hn, hpx, hpy, hq, ih]
    · have : (p == q) = false := by simpa using hpq
      simp [Op.eqFields, hn, hpx, hpy, hq, this]

theorem does_eqs {op : BinOp} {t ty : TypeId} {x y : Operand} (ho : o.op = .binOp op t x y ty) {fs : Array Field} (hu : P.underlying t = some (.struct fs)) (hop : op = .eql ∨ op = .neq) (hfl : flatInts P fs = true)
    (hst : P.stoodInHeld t = false) (hg : P.eqGuardType P.depth t = false) {x' y' : Opd} (hx : cOpd x = some x') (hy : cOpd y = some y') {p q : Array Value} (hp : x'.ev e = .agg p) (hq : y'.ev e = .agg q)
    (hpl : p.toList.length = fs.size) (hql : q.toList.length = fs.size) {r : Bool} (hr : eqCells p.toList q.toList = some r) (s : Sim lo base m H w.heap) (u : OkU m e a o.op.operands) :
    OpDoes P o a w lo base m H (.bool (if isNeq op then !r else r)) H := by
  have h1 := u.ev (x := x) (by simp [ho, Op.operands]) hx
  have h2 := u.ev (x := y) (by simp [ho, Op.operands]) hy
  rw [hp] at h1
  rw [hq] at h2
  obtain ⟨p', e1, r1⟩ := h1.agg
  obtain ⟨q', e2, r2⟩ := h2.agg
  have heq : ∀ (xs xs' ys ys' : List Value) (r : Bool), All2 (VR1 m) xs xs' → All2 (VR1 m) ys ys' → eqCells xs ys = some r → eqCells xs' ys' = some r := by
    intro xs
    induction xs with
    | nil =>
      intro xs' ys ys' r h1 h2 h
      cases ys with
      | nil =>
        have := h1.1; have := h2.1
        cases xs' <;> cases ys' <;> simp_all
      | cons => simp [eqCells] at h
    | cons v xs ih =>
      intro xs' ys ys' r h1 h2 h
      obtain ⟨k1, p, q, ys1, r', rfl, rfl, hr', rfl⟩ := eqCells_cons h
      cases xs' with
      | nil => have := h1.1; simp at this
      | cons v1 xs' =>
        cases ys' with
        | nil => have := h2.1; simp at this
        | cons v2 ys' =>
          obtain ⟨y1, w1, w2⟩ := h1.2 0 _ rfl
          obtain ⟨y2, w3, w4⟩ := h2.2 0 _ rfl
          simp only [List.getElem?_cons_zero, Option.some.injEq] at w1 w3
          subst w1 w3
          have e1 := (VR.of1 w2).int
          have e2 := (VR.of1 w4).int
          subst e1 e2
          have := ih xs' ys1 ys' r' ⟨by simpa using h1.1, fun i z hz => h1.2 (i + 1) z (by simpa using hz)⟩ ⟨by simpa using h2.1, fun i z hz => h2.2 (i + 1) z (by simpa using hz)⟩ hr'
          simp [eqCells, this]
  have hr' := heq _ _ _ _ r r1 r2 hr
  refine OpDoes.still s (v' := .bool (if isNeq op then !r else r)) ?_ (VR.of0 rfl)
  have hfo : P.fieldsOf t = fs := by simp [Program.fieldsOf, hu]
  have hsz1 : p'.size = fs.size := by have := r1.1; simp at this hpl; omega
  have hsz2 : q'.size = fs.size := by have := r2.1; simp at this hql; omega
  have hrun : (Op.equalIn 10000 t (.agg p') (.agg q')).run P w = .ok r w := by
    rw [run_equalIn_struct w 9999 t p' q' (by rw [hfo]; exact hu) hst, hfo]
    refine eqCells_eqFields 9998 fs.toList 0 p' q' r ?_ (by simpa using hr') (by simpa using hsz1) (by simpa using hsz2)
    unfold flatInts at hfl
    simpa using hfl
  rcases hop with rfl | rfl
  · simp [execOp, ho, e1, e2, run_eqGuard_agg w .eql t x y p' q' hg, run_eql_struct, hrun, isNeq]
  · simp [execOp, ho, e1, e2, run_eqGuard_agg w .neq t x y p' q' hg, run_neq_struct, hrun, isNeq]

theorem sim0_VR0 {m : MM} {v v' : Value} (h : sim0 v = true) (r : VR m v v') : VR0 m v v' := by
  rcases r.to1 (by cases v <;> first | rfl | (simp [sim0] at h)) with r | ⟨g, f, c, f', c', rfl, _⟩
  · exact r
  · simp [sim0] at h

theorem cOpds_does : ∀ (xs : List Operand) (xs' : List Opd), cOpds xs = some xs' → (∀ t, Operand.tmp t ∈ xs → VR m (e t) (a.eval (.tmp t))) →
    All2 (VR m) (xs'.map (·.ev e)) (xs.map a.eval)
  | [], xs', h, _ => by simp only [cOpds, Option.some.injEq] at h; subst h; exact All2.nil
  | x :: xs, xs', h, hu => by
    simp only [cOpds, Option.bind_eq_some_iff, Option.map_eq_some_iff] at h
    obtain ⟨x', hx, xs1, h1, rfl⟩ := h
    refine All2.cons ?_ (cOpds_does xs xs1 h1 fun t ht => hu t (by simp [ht]))
    cases x with
    | tmp t => cases hx; exact hu t (by simp)
    | const v => exact OkU.ev (xs := #[.const v]) (fun t ht => by simp at ht) (by simp) hx
    | func f => exact OkU.ev (xs := #[.func f]) (fun t ht => by simp at ht) (by simp) hx
    | global g => cases hx

theorem does_mkf {f : Nat} {xs ys : Array Operand} (ho : o.op = .makeFunc (.func f) xs ys) {xs' ys' : List Opd} (hx : cOpds xs.toList = some xs') (hy : cOpds ys.toList = some ys')
    (h1 : (xs'.map (·.ev e)).all sim0 = true) (h2 : (ys'.map (·.ev e)).all sim0 = true) (s : Sim lo base m H w.heap) (u : OkU m e a o.op.operands) :
    OpDoes P o a w lo base m H (.func (.func f) (xs'.map (·.ev e)).toArray (ys'.map (·.ev e)).toArray) H := by
  have r1 := cOpds_does (e := e) (m := m) (a := a) xs.toList xs' hx (fun t ht => u t (by simp [ho, Op.operands]; exact .inl (by simpa using ht)))
  have r2 := cOpds_does (e := e) (m := m) (a := a) ys.toList ys' hy (fun t ht => u t (by simp [ho, Op.operands]; exact .inr (by simpa using ht)))
  refine OpDoes.still s (v' := .func (.func f) (xs.map a.eval) (ys.map a.eval)) ?_ (VR.of1 (.inr ⟨f, _, _, _, _, rfl, rfl, ?_, ?_⟩))
  · simp [execOp, ho, Instr.makeFunc]
  · simpa [Array.toList_map] using r1.mono fun x y hm r => sim0_VR0 (List.all_eq_true.1 h1 _ hm) r
  · simpa [Array.toList_map] using r2.mono fun x y hm r => sim0_VR0 (List.all_eq_true.1 h2 _ hm) r

theorem get_flatten_replicate (z : List Value) : ∀ (n j : Nat) (v : Value), ((List.replicate n z).flatten)[j]? = some v → 0 < z.length ∧ j < n * z.length ∧ z[j % z.length]? = some v
  | 0, j, v, h => by simp at h
  | n + 1, j, v, h => by
    simp only [List.replicate_succ, List.flatten_cons, List.getElem?_append] at h
    split at h
    · rename_i hj
      refine ⟨by omega, by rw [Nat.succ_mul]; omega, ?_⟩
      rw [Nat.mod_eq_of_lt hj]; exact h
    · rename_i hj
      obtain ⟨h1, h2, h3⟩ := get_flatten_replicate z n _ v h
      refine ⟨h1, by rw [Nat.succ_mul]; omega, ?_⟩
      rw [Nat.mod_eq_sub_mod (by omega)]
      exact h3

theorem does_mks {t el : TypeId} {x y : Operand} (ho : o.op = .makeSlice t x y) (hu : P.underlying t = some (.slice el)) {i : TypeInfo} (hi : P.info? el = some i) {z : Value} (hz : i.zero = some z)
    (hpos : 0 < i.size) (hc : z.cells.toList.all okC = true) (hsz : z.cells.size = i.size) {x' y' : Opd} (hx : cOpd x = some x') (hy : cOpd y = some y') {k k' : IntKind} {n : Int} (hp : x'.ev e = .int k n) (hq : y'.ev e = .int k' n)
    (h0 : 0 ≤ n) (hb : n * i.bytes ≤ 140737488355328) (h63 : n ≤ 9223372036854775807) (s : Sim lo base m H w.heap) (u : OkU m e a o.op.operands) :
    OpDoes P o a w lo base m H (sli H.length 0 n.toNat) (H ++ [⟨(List.replicate n.toNat z.cells.toList).flatten, i.size, el, true, true⟩]) := by
  have h1 := u.ev (x := x) (by simp [ho, Op.operands]) hx
  have h2 := u.ev (x := y) (by simp [ho, Op.operands]) hy
  rw [hp] at h1
  rw [hq] at h2
  have hr := run_make (P := P) w t el i z hu hi hz k k' n n h0 (Int.le_refl _) (by rw [Int.mul_comm]; omega) h63
  have key := OpDoes.newB (P := P) (o := o) (a := a) (base := base) s ⟨(List.replicate n.toNat z.cells.toList).flatten, i.size, el, true, true⟩ (madeCells z.cells (n.toNat * i.size)) el n.toNat n.toNat true
    ⟨w, rfl, Below.refl _ _, ?_⟩ ?_ (fun _ => rfl) (fun _ => ⟨Nat.le_refl _, by rw [size_madeCells]; exact Nat.le_refl _⟩)
  · simpa using key
  · simp [execOp, ho, h1.int, h2.int, hr]
  · intro j v hj
    obtain ⟨q1, q2, q3⟩ := get_flatten_replicate _ _ _ _ hj
    simp only [Array.length_toList] at q1 q2 q3
    refine ⟨v, ?_, VR1.okC (List.all_eq_true.1 hc _ (List.mem_of_getElem? q3))⟩
    have hlt : j % z.cells.size < z.cells.size := Nat.mod_lt _ q1
    unfold madeCells
    rw [Array.getElem?_map, Array.getElem?_range]
    rw [hsz] at q2
    rw [if_pos q2]
    simp only [Option.map_some, Option.some.injEq]
    rw [getElem!_pos z.cells _ hlt]
    have : z.cells[j % z.cells.size]? = some v := by simpa using q3
    rw [Array.getElem?_eq_getElem hlt] at this
    simpa using this

theorem bound_does {n d : Nat} {cap : Nat} (hn : n ≤ cap) {x : Option Operand} {x' : Option Opd} (hx : cOptO x = some x') {r : Nat} (hr : subB n e d x' = some r) (hu : ∀ t, x = some (.tmp t) → VR m (e t) (a.eval (.tmp t))) :
    (x = none ∧ r = d) ∨ ∃ y k i, x = some y ∧ a.eval y = .int k i ∧ 0 ≤ i ∧ i ≤ n ∧ r = i.toNat := by
  cases x with
  | none => cases hx; simp only [subB, Option.some.injEq] at hr; exact .inl ⟨rfl, hr.symm⟩
  | some x =>
    simp only [cOptO, Option.map_eq_some_iff] at hx
    obtain ⟨y', hy, rfl⟩ := hx
    have hv : VR m (y'.ev e) (a.eval x) := by
      cases x with
      | tmp t => cases hy; exact hu t rfl
      | const v => exact OkU.ev (xs := #[.const v]) (fun t ht => by simp at ht) (by simp) hy
      | func f => exact OkU.ev (xs := #[.func f]) (fun t ht => by simp at ht) (by simp) hy
      | global g => cases hy
    simp only [subB] at hr
    split at hr
    · rename_i k i he
      rw [he] at hv
      split at hr
      · rename_i hb
        simp only [Option.some.injEq] at hr
        exact .inr ⟨x, k, i, rfl, hv.int, hb.1, hb.2, hr.symm⟩
      · cases hr
    · cases hr

theorem does_sub {t el : TypeId} {x : Operand} {l h : Option Operand} (ho : o.op = .slice t x l h none) (hu : P.underlying t = some (.slice el)) {i : TypeInfo} (hi : P.info? el = some i) (hpos : 0 < i.size)
    {x' : Opd} {l' h' : Option Opd} (hx : cOpd x = some x') (hl : cOptO l = some l') (hh : cOptO h = some h') {ad : Option Addr} {n c' : Nat} (he : x'.ev e = .slice ad n c') {hi' lo' : Nat}
    (h1 : subB n e n h' = some hi') (h2 : subB hi' e 0 l' = some lo') (s : Sim lo base m H w.heap) (u : OkU m e a o.op.operands) :
    OpDoes P o a w lo base m H (.slice (ad.map fun a => ⟨a.block, a.off + lo' * i.size, none⟩) (hi' - lo') (hi' - lo')) H := by
  have hv := u.ev (x := x) (by simp [ho, Op.operands]) hx
  rw [he] at hv
  have hhi : hi' ≤ n := by
    rcases bound_does (a := a) (m := m) (Nat.le_refl n) hh h1 (fun t ht => u t (by simp [ho, Op.operands, ht])) with ⟨_, rfl⟩ | ⟨y, k, j, _, _, q1, q2, rfl⟩ <;> omega
  have hlo : lo' ≤ hi' := by
    rcases bound_does (a := a) (m := m) (Nat.le_refl hi') hl h2 (fun t ht => u t (by simp [ho, Op.operands, ht])) with ⟨_, rfl⟩ | ⟨y, k, j, _, _, q1, q2, rfl⟩ <;> omega
  have hrun : ∀ (A : Option Addr) (c1 : Nat), n ≤ c1 → a.eval x = .slice A n c1 →
      (execOp a.eval o).run P w = .ok (.value (.slice (if c1 = lo' then A else A.map (·.add (lo' * i.size))) (hi' - lo') (c1 - lo'))) w := by
    intro A c1 hc hax
    have b1 := bound_does (a := a) (m := m) hc hh h1 (fun t ht => u t (by simp [ho, Op.operands, ht]))
    have b2 := bound_does (a := a) (m := m) (Nat.le_refl hi') hl h2 (fun t ht => u t (by simp [ho, Op.operands, ht]))
    have hsb : (Instr.sliceBounds true n c1 (l.map a.eval) (h.map a.eval) none).run P w = .ok (lo', hi', c1) w := by
      rcases b1 with ⟨rfl, rfl⟩ | ⟨y, k, j, rfl, ey, q1, q2, rfl⟩
      · rcases b2 with ⟨rfl, rfl⟩ | ⟨y2, k2, j2, rfl, ey2, q3, q4, rfl⟩
        · simp [Instr.sliceBounds]
        · simp [Instr.sliceBounds, ey2, run_sliceBound w k2 j2 _ _ q3 q4]
      · rcases b2 with ⟨rfl, rfl⟩ | ⟨y2, k2, j2, rfl, ey2, q3, q4, rfl⟩
        · simp [Instr.sliceBounds, ey, run_sliceBound w k j c1 _ q1 (by omega)]
        · simp [Instr.sliceBounds, ey, ey2, run_sliceBound w k j c1 _ q1 (by omega), run_sliceBound w k2 j2 _ _ q3 q4]
    simp [execOp, ho, hax, Instr.sliceAt, Instr.slice, run_underlying hu, hsb, sizeOf, typeInfo, hi]
  cases ad with
  | none =>
    obtain ⟨rfl, hax⟩ := hv.slN
    have h00 : hi' = 0 := by omega
    subst h00
    have h01 : lo' = 0 := by omega
    subst h01
    refine OpDoes.still s (hrun none 0 (Nat.le_refl _) hax) ?_
    exact VR.of0 ⟨rfl, by simp⟩
  | some ad =>
    obtain ⟨mb, hm, _, c1, hax, hc, hcp⟩ | ⟨rfl, hoff, A, c1, hax⟩ := hv.sl
    · refine OpDoes.still s (hrun _ c1 hc hax) (VR.of0 ?_)
      rcases Nat.eq_zero_or_pos lo' with h0 | hp
      · subst h0
        left
        refine ⟨mb, hm, rfl, c1 - 0, ?_, by omega, fun h0 => by simpa using hcp (by simpa using h0)⟩
        simp only [Nat.zero_mul, Nat.add_zero, Addr.add_zero', Option.map_some, ite_self]
      · rcases Nat.eq_zero_or_pos (hi' - lo') with h0 | hp2
        · right
          refine ⟨h0, ?_, _, _, by rw [h0]⟩
          have : 0 < lo' * i.size := Nat.mul_pos hp hpos
          show 0 < ad.off + lo' * i.size
          omega
        · left
          refine ⟨mb, hm, rfl, c1 - lo', ?_, by omega, fun h0 => ?_⟩
          · rw [if_neg (by omega)]
            simp [Addr.add_lit, Nat.add_assoc]
          · have : 0 < lo' * i.size := Nat.mul_pos hp hpos
            have h0' : ad.off + lo' * i.size = 0 := h0
            omega
    · have h00 : hi' = 0 := by omega
      subst h00
      have h01 : lo' = 0 := by omega
      subst h01
      refine OpDoes.still s (hrun A c1 (by omega) hax) (VR.of0 (.inr ⟨by simp, by simpa using hoff, _, _, rfl⟩))

theorem does_app_none {x y : Operand} {t el : TypeId} (ho : o.op = .call ⟨.builtin .append, #[x, y], #[t, t]⟩) (hu : P.underlying t = some (.slice el)) {i : TypeInfo} (hi : P.info? el = some i) {x' y' : Opd} (hx : cOpd x = some x') (hy : cOpd y = some y')
    {ad : Option Addr} {c' : Nat} (he : y'.ev e = .slice ad 0 c') (hsl : ∃ b n c, x'.ev e = .slice b n c) (s : Sim lo base m H w.heap) (u : OkU m e a o.op.operands) : OpDoes P o a w lo base m H (x'.ev e) H := by
  have h1 := u.ev (x := x) (by simp [ho, Op.operands, Call.operands]) hx
  have h2 := u.ev (x := y) (by simp [ho, Op.operands, Call.operands]) hy
  obtain ⟨b, n, c, hxs⟩ := hsl
  refine OpDoes.still s (v' := a.eval x) ?_ h1
  rw [he] at h2
  have hys : ∃ A c1, a.eval y = .slice A 0 c1 := by
    cases ad with
    | none => obtain ⟨_, h⟩ := h2.slN; exact ⟨_, _, h⟩
    | some ad =>
      obtain ⟨mb, _, _, c1, hax, _⟩ | ⟨_, _, A, c1, hax⟩ := h2.sl
      · exact ⟨_, _, hax⟩
      · exact ⟨_, _, hax⟩
  obtain ⟨A, c1, hay⟩ := hys
  rw [hxs] at h1
  have hxs' : ∃ A n c1, a.eval x = .slice A n c1 ∧ n ≤ c1 := by
    cases b with
    | none => obtain ⟨_, h⟩ := h1.slN; exact ⟨_, _, _, h, Nat.le_refl _⟩
    | some ad =>
      obtain ⟨mb, _, _, c1, hax, hc, _⟩ | ⟨_, _, A, c1, hax⟩ := h1.sl
      · exact ⟨_, _, _, hax, hc⟩
      · exact ⟨_, _, _, hax, Nat.zero_le _⟩
  obtain ⟨A2, n2, c2, hax, hle⟩ := hxs'
  have hf : (Builtin.firstCells i.size 0 (.slice A 0 c1)).run P w = .ok #[] w := by
    cases A <;> simp [Builtin.firstCells, loadCells, loadCellsFrom]
  cases A2 <;> simp [execOp, ho, resolve, hax, hay, invoke, builtin, Builtin.append_, run_underlying hu, sizeOf, typeInfo, hi, Builtin.lenOf, hle, hf, storeCells]

theorem does_app_nil {x y : Operand} {t el : TypeId} (ho : o.op = .call ⟨.builtin .append, #[x, y], #[t, t]⟩) (hu : P.underlying t = some (.slice el)) {i : TypeInfo} (hi : P.info? el = some i) {z : Value} (hz : i.zero = some z) (hpos : 0 < i.size) (hsz : z.cells.size = i.size)
    {x' y' : Opd} (hx : cOpd x = some x') (hy : cOpd y = some y') {ad : Addr} {n m' c c' : Nat} (hm0 : m' ≠ 0) (he : y'.ev e = .slice (some ad) m' c') (hxs : x'.ev e = .slice none n c) {ys : List Value} (hg : getCells H ad.block ad.off (m' * i.size) = some ys)
    (hb : m' * i.bytes ≤ 140737488355328) (h63 : m' ≤ 9223372036854775807) (s : Sim lo base m H w.heap) (u : OkU m e a o.op.operands) : OpDoes P o a w lo base m H (sli H.length 0 m') (H ++ [⟨ys, i.size, el, true, true⟩]) := by
  have h1 := u.ev (x := x) (by simp [ho, Op.operands, Call.operands]) hx
  have h2 := u.ev (x := y) (by simp [ho, Op.operands, Call.operands]) hy
  rw [hxs] at h1
  rw [he] at h2
  obtain ⟨_, hax⟩ := h1.slN
  obtain ⟨mb, hmb, _, c1, hay, _⟩ | ⟨h0, _⟩ := h2.sl
  case inr => exact absurd h0 hm0
  obtain ⟨ys', r1, r2, r3⟩ := s.read hg hmb
  have hl : ys'.length = m' * i.size := by rw [← r1.1, r3]
  have hr := run_append_nil (P := P) w t o.type el i z hu hi hz ⟨mb.blk, mb.off + ad.off, none⟩ m' c1 ys' hl (fun j v hj => by rw [Addr.add_lit]; exact r2 j v hj) (by omega) (by omega) (by omega)
  have hge := grownCap_ge w m' 0 el
  have hcs : (ys'.toArray ++ Builtin.zeroCells z.cells (grownCap w m' 0 el - m')).size = grownCap w m' 0 el * i.size := by
    rw [Array.size_append, size_zeroCells, hsz]
    simp only [List.size_toArray, hl]
    rw [← Nat.add_mul]
    congr 1
    omega
  have key := OpDoes.newB (P := P) (o := o) (a := a) (base := base) s ⟨ys, i.size, el, true, true⟩ (ys'.toArray ++ Builtin.zeroCells z.cells (grownCap w m' 0 el - m')) el (grownCap w m' 0 el) m' true
    ⟨w.drew, rfl, (Below.refl _ _).drew, ?_⟩ ?_ (fun _ => rfl) (fun _ => ⟨hge, by show grownCap w m' 0 el * i.size ≤ _; omega⟩)
  · simpa using key
  · simp [execOp, ho, resolve, hax, hay, invoke, builtin, hr]
  · intro j v hj
    obtain ⟨v', q1, q2⟩ := r1.2 j v hj
    refine ⟨v', ?_, q2⟩
    have hjl := (List.getElem?_eq_some_iff.1 q1).1
    rw [Array.getElem?_append_left (by simpa using hjl)]
    simpa using q1

theorem does_app {x y : Operand} {t el : TypeId} (ho : o.op = .call ⟨.builtin .append, #[x, y], #[t, t]⟩) (hu : P.underlying t = some (.slice el)) {i : TypeInfo} (hi : P.info? el = some i) {z : Value} (hz : i.zero = some z) (hpos : 0 < i.size) (hsz : z.cells.size = i.size)
    {x' y' : Opd} (hx : cOpd x = some x') (hy : cOpd y = some y') {ad bd : Addr} {n m' c c' : Nat} (hm0 : m' ≠ 0) (he : y'.ev e = .slice (some ad) m' c') (hxs : x'.ev e = .slice (some bd) n c) {ys : List Value} (hg : getCells H ad.block ad.off (m' * i.size) = some ys)
    {k : Blk} (hk : H[bd.block]? = some k) (hlo : lo ≤ bd.block) (hoff : bd.off = 0) (happ : k.app = true) (hes : k.es = i.size) (het : k.et = el) (hlen : k.cells.length = n * i.size)
    (hb : (n + m') * i.bytes ≤ 140737488355328) (h63 : n + m' ≤ 9223372036854775807) (kill : Bool) (s : Sim lo base m H w.heap) (u : OkU m e a o.op.operands) :
    OpDoes P o a w lo base m H (sli H.length 0 (n + m'))
      (H.set bd.block { k with app := false, solo := k.solo && n == 0, cells := if kill then [] else k.cells } ++ [⟨k.cells ++ ys, i.size, el, true, k.solo && (n == 0 || kill)⟩]) := by
  have h1 := u.ev (x := x) (by simp [ho, Op.operands, Call.operands]) hx
  have h2 := u.ev (x := y) (by simp [ho, Op.operands, Call.operands]) hy
  rw [hxs] at h1
  rw [he] at h2
  obtain ⟨xb, hxb, _, cx, hax, hncx, hcpx⟩ | ⟨_, h0, _⟩ := h1.sl
  case inr => omega
  obtain ⟨mb, hmb, _, c1, hay, _⟩ | ⟨h0, _⟩ := h2.sl
  case inr => exact absurd h0 hm0
  obtain ⟨ys', r1, r2, r3⟩ := s.read hg hmb
  have hl : ys'.length = m' * i.size := by rw [← r1.1, r3]
  obtain ⟨o1, o2, o3, cur, o4, o5⟩ := s.own bd.block xb k hlo hxb hk
  obtain ⟨e1, e2⟩ := o3 happ
  obtain ⟨cs0, t0, fr0, q1, q2⟩ := s.cell bd.block xb k hxb hk
  rw [o4] at q1
  simp only [Option.some.injEq, Obj.cells.injEq] at q1
  obtain ⟨rfl, _, _⟩ := q1
  rw [o2, hoff] at hax
  simp only [Nat.add_zero] at hax
  have hcp := hcpx hoff
  rw [e1, hes] at hcp
  have het' : xb.et = el := by rw [e2, het]
  have o4' : w.heap[xb.blk]? = some (.cells cur el (0, 0)) := by rw [← het']; exact o4
  have hnsz : n * i.size ≤ cur.size := by
    have : n * i.size ≤ cx * i.size := Nat.mul_le_mul_right _ hncx
    omega
  have hread : ∀ j v, ys'[j]? = some v → w.cell? ((⟨mb.blk, mb.off + ad.off, none⟩ : Addr).add j) = some v := fun j v hj => by rw [Addr.add_lit]; exact r2 j v hj
  have hflag := s.flag hk (k.solo && n == 0) (fun h => by simp at h; exact h.1) (if kill then [] else k.cells) (by cases kill <;> simp)
  have hlenH : (H.set bd.block { k with app := false, solo := k.solo && n == 0, cells := if kill then [] else k.cells }).length = H.length := by simp
  have hold : ∀ (j : Nat) (v : Value), k.cells[j]? = some v → ∃ v', cur[j]? = some v' ∧ VR1 m v v' := fun j v hj => by
    obtain ⟨v', a1, a2⟩ := q2 j v hj
    rw [o2, Nat.zero_add] at a1
    exact ⟨v', a1, a2⟩
  by_cases hroom : n + m' ≤ cx
  · have hfit : n * i.size + ys'.length ≤ cur.size := by
      rw [hl, ← Nat.add_mul]
      have : (n + m') * i.size ≤ cx * i.size := Nat.mul_le_mul_right _ hroom
      omega
    have hr := run_append_room (P := P) w t o.type el i hu hi xb.blk n cx cur o4' ⟨mb.blk, mb.off + ad.off, none⟩ m' c1 ys' hl hread (fun v hv => by
      obtain ⟨v0, _, r⟩ := r1.mem_right hv
      exact r.one_right) hroom hfit
    generalize hnew : (cur.toList.take (n * i.size) ++ ys' ++ cur.toList.drop (n * i.size + ys'.length)).toArray = cur' at hr
    have hsz' : cur'.size = cur.size := by rw [← hnew]; simp; omega
    have hpre : ∀ j, j < n * i.size → cur'[j]? = cur[j]? := by
      intro j hj
      rw [← hnew]
      simp only [List.getElem?_toArray, List.append_assoc]
      rw [List.getElem?_append_left (by simp; omega), List.getElem?_take, if_pos hj]
      simp
    have hnews : ∀ j, j < ys'.length → cur'[n * i.size + j]? = ys'[j]? := by
      intro j hj
      rw [← hnew]
      simp only [List.getElem?_toArray, List.append_assoc]
      rw [List.getElem?_append_right (by simp; omega)]
      simp only [List.length_take, Array.length_toList]
      rw [List.getElem?_append_left (by omega)]
      congr 1
      omega
    have hpl := hflag.place (h' := (w.setRow xb.blk cur').heap) ⟨xb.blk, 0, i.size, xb.et, xb.cp⟩ ⟨k.cells ++ ys, i.size, el, true, k.solo && (n == 0 || kill)⟩ cur cur' (n * i.size)
      o1 rfl rfl het' o4 o5 (setRow_size _ _ _) (setRow_heap w _ _ _ _ _ o4) (fun c hc => setRow_other w _ _ _ hc) (by rw [hsz', o5]) hpre (by simp [hlen]) ?_ ?_
    · rw [hlenH] at hpl
      refine ⟨.slice (some ⟨xb.blk, 0, none⟩) (n + m') cx, w.setRow xb.blk cur', _, .inl ?_, MM.put_agree _ _ _, hpl, ?_, ?_, by simp⟩
      · simp [execOp, ho, resolve, hax, hay, invoke, builtin, hr]
      · exact VR.of0 (.inl ⟨_, MM.put_self _ _ _, rfl, cx, by simp, hroom, fun _ => hcp⟩)
      · exact ⟨rfl, rfl, rfl, by simp, fun c hc => setRow_other w _ _ _ (by omega)⟩
    · intro j v hj
      rw [List.getElem?_append] at hj
      split at hj
      · rename_i hjl
        obtain ⟨v', a1, a2⟩ := hold j v hj
        exact ⟨v', by rw [hpre j (by omega)]; exact a1, a2⟩
      · rename_i hjl
        obtain ⟨v', a1, a2⟩ := r1.2 _ v hj
        have hjl2 := (List.getElem?_eq_some_iff.1 a1).1
        refine ⟨v', ?_, a2⟩
        have := hnews _ hjl2
        rw [show n * i.size + (j - k.cells.length) = j by omega] at this
        rw [this, a1]
    · intro b y kb hlob hyb hkb hblk
      rcases get_set hkb with ⟨rfl, rfl, _⟩ | ⟨hbne, hkb⟩
      · refine ⟨rfl, ?_, ?_⟩
        · cases kill <;> simp [hlen]
        · cases kill with
          | true => left; rfl
          | false =>
            by_cases hn0 : n = 0
            · left
              show k.cells = []
              exact List.eq_nil_of_length_eq_zero (by rw [hlen, hn0]; simp)
            · right
              have : (n == 0) = false := by simpa using hn0
              simp [this]
      · obtain ⟨g1, g2⟩ := s.sep bd.block b xb y k kb (Ne.symm hbne) hlo hlob hxb hyb hk hkb hblk.symm
        obtain ⟨g3, g4⟩ := g2 happ
        refine ⟨g3, by omega, ?_⟩
        rcases g1 with g1 | g1 | ⟨g1, g5⟩
        · left; exact List.eq_nil_of_length_eq_zero (by rw [g1] at g4; simpa using g4)
        · exact .inl g1
        · right; exact ⟨g5, by simp [g1]⟩
  · have hgf := growslice_fits (need := n + m') (old := cx) (by omega) hb
    have holds : ∀ j v, (cur.toList.take (n * i.size))[j]? = some v → w.cell? ((⟨xb.blk, 0, none⟩ : Addr).add j) = some v := by
      intro j v hj
      rw [List.getElem?_take] at hj
      split at hj
      · rw [Addr.add_lit, Nat.zero_add]
        simp only [World.cell?, o4, Option.isSome_none, Bool.false_eq_true, if_false]
        simpa using hj
      · cases hj
    have hr := run_append_grow (P := P) w t o.type el i z hu hi hz ⟨xb.blk, 0, none⟩ n cx (cur.toList.take (n * i.size)) (by simp; omega) holds ⟨mb.blk, mb.off + ad.off, none⟩ m' c1 ys' hl hread (by omega) (by omega) hgf
    have hge := grownCap_ge w (n + m') cx el
    generalize hG : grownCap w (n + m') cx el = G at hr hge
    have hcs : ((cur.toList.take (n * i.size)).toArray ++ ys'.toArray ++ Builtin.zeroCells z.cells (G - (n + m'))).size = G * i.size := by
      rw [Array.size_append, Array.size_append, size_zeroCells, hsz]
      simp only [List.size_toArray, hl, List.length_take, Array.length_toList]
      rw [Nat.min_eq_left hnsz, ← Nat.add_mul, ← Nat.add_mul]
      congr 1
      omega
    have key := OpDoes.newB (P := P) (o := o) (a := a) (base := base) hflag ⟨k.cells ++ ys, i.size, el, true, k.solo && (n == 0 || kill)⟩
      ((cur.toList.take (n * i.size)).toArray ++ ys'.toArray ++ Builtin.zeroCells z.cells (G - (n + m'))) el G (n + m') true
      ⟨w.drew, rfl, (Below.refl _ _).drew, ?_⟩ ?_ (fun _ => rfl) (fun _ => ⟨hge, by show G * i.size ≤ _; omega⟩)
    · rw [hlenH] at key
      obtain ⟨v', w', m2, a1, a2, a3, a4, a5, a6⟩ := key
      rw [hlenH] at a2
      exact ⟨v', w', m2, a1, a2, a3, by simpa using a4, a5, by rw [hlenH] at a6; exact a6⟩
    · simp [execOp, ho, resolve, hax, hay, invoke, builtin, hr]
    · intro j v hj
      rw [List.getElem?_append] at hj
      split at hj
      · rename_i hjl
        obtain ⟨v', b1, b2⟩ := hold j v hj
        refine ⟨v', ?_, b2⟩
        rw [Array.getElem?_append_left (by simp; omega), Array.getElem?_append_left (by simp; omega)]
        simp only [List.getElem?_toArray, List.getElem?_take]
        rw [if_pos (by omega)]
        simpa using b1
      · rename_i hjl
        obtain ⟨v', b1, b2⟩ := r1.2 _ v hj
        have hjl2 := (List.getElem?_eq_some_iff.1 b1).1
        refine ⟨v', ?_, b2⟩
        rw [Array.getElem?_append_left (by simp; omega), Array.getElem?_append_right (by simp; omega)]
        simp only [List.getElem?_toArray, List.size_toArray, List.length_take, Array.length_toList]
        rw [Nat.min_eq_left hnsz, ← hlen]
        exact b1

theorem prim_sound0 (hc : cOp0 P c o = some io) (hi : iop lo io e H = some (v, H1)) (s : Sim lo base m H w.heap) (u : OkU m e a o.op.operands) : OpDoes P o a w lo base m H v H1 := by
  cases ho : o.op with
  | move x =>
    simp only [cOp0, ho, Option.map_eq_some_iff] at hc
    obtain ⟨x', hx, rfl⟩ := hc
    simp only [iop, Option.some.injEq, Prod.mk.injEq] at hi
    obtain ⟨rfl, rfl⟩ := hi
    exact does_mov (.inl ho) hx s u
  | assign x =>
    simp only [cOp0, ho, Option.map_eq_some_iff] at hc
    obtain ⟨x', hx, rfl⟩ := hc
    simp only [iop, Option.some.injEq, Prod.mk.injEq] at hi
    obtain ⟨rfl, rfl⟩ := hi
    exact does_mov (.inr ho) hx s u
  | pick x y z =>
    simp only [cOp0, ho, Option.bind_eq_some_iff, Option.map_eq_some_iff] at hc
    obtain ⟨x', hx, y', hy, z', hz, rfl⟩ := hc
    simp only [iop] at hi
    split at hi
    case h_2 => cases hi
    case h_1 t ht =>
      simp only [Option.some.injEq, Prod.mk.injEq] at hi
      obtain ⟨rfl, rfl⟩ := hi
      exact does_pick ho hx hy hz ht s u
  | alloc t =>
    simp only [cOp0, ho, Option.bind_eq_some_iff] at hc
    obtain ⟨i, hi1, z, hz, hc⟩ := hc
    split at hc
    case isFalse => cases hc
    case isTrue hok =>
      cases hc
      simp only [iop, Option.some.injEq, Prod.mk.injEq] at hi
      obtain ⟨rfl, rfl⟩ := hi
      exact does_alloc ho hi1 hz hok s
  | box t x =>
    simp only [cOp0, ho, Option.map_eq_some_iff] at hc
    obtain ⟨x', hx, rfl⟩ := hc
    simp only [iop] at hi
    split at hi
    case isFalse => cases hi
    case isTrue hok =>
      simp only [Option.some.injEq, Prod.mk.injEq] at hi
      obtain ⟨rfl, rfl⟩ := hi
      exact does_box ho hx hok s u
  | build t ps =>
    simp only [cOp0, ho, Option.bind_eq_some_iff] at hc
    obtain ⟨i, hi1, z, hz, hc⟩ := hc
    split at hc
    case h_2 => cases hc
    case h_1 fs hu =>
      split at hc
      case isFalse => cases hc
      case isTrue hok =>
        simp only [Option.bind_eq_some_iff, Option.map_eq_some_iff] at hc
        obtain ⟨pl, hpl, ps', hps, rfl⟩ := hc
        simp only [iop, Option.map_eq_some_iff, Prod.mk.injEq] at hi
        obtain ⟨out, hf, rfl, rfl⟩ := hi
        exact does_build ho hi1 hz hu hok hpl hps hf s u
  | buildSlice t len ps =>
    simp only [cOp0, ho] at hc
    split at hc
    case h_2 => cases hc
    case h_1 el hu =>
      simp only [Option.bind_eq_some_iff] at hc
      obtain ⟨i, hi1, z, hz, hc⟩ := hc
      split at hc
      case isFalse => cases hc
      case isTrue hok =>
        simp only [Option.map_eq_some_iff] at hc
        obtain ⟨ps', hps, rfl⟩ := hc
        simp only [iop, Option.map_eq_some_iff, Prod.mk.injEq] at hi
        obtain ⟨out, hf, rfl, rfl⟩ := hi
        exact does_lit ho hu hi1 hz hok.1 hok.2.1 hok.2.2.1 hok.2.2.2 hps hf s u
  | load t x =>
    simp only [cOp0, ho] at hc
    split at hc
    case h_2 => cases hc
    case h_1 d hu =>
      simp only [Option.bind_eq_some_iff] at hc
      obtain ⟨i, hi1, hc⟩ := hc
      split at hc
      case isFalse => cases hc
      case isTrue hok =>
        simp only [Option.map_eq_some_iff] at hc
        obtain ⟨x', hx, rfl⟩ := hc
        simp only [iop] at hi
        split at hi
        case h_2 => cases hi
        case h_1 ad hp =>
          simp only [Option.bind_eq_some_iff, Option.map_eq_some_iff, Prod.mk.injEq] at hi
          obtain ⟨cs, hg, v', hv, rfl, rfl⟩ := hi
          exact does_load ho hu hi1 hok hx hp hg hv s u
  | store t x y =>
    simp only [cOp0, ho, Option.bind_eq_some_iff] at hc
    obtain ⟨i, hi1, hc⟩ := hc
    split at hc
    case isFalse => cases hc
    case isTrue hok =>
      simp only [Option.bind_eq_some_iff, Option.map_eq_some_iff] at hc
      obtain ⟨x', hx, y', hy, rfl⟩ := hc
      simp only [iop] at hi
      split at hi
      case h_2 => cases hi
      case h_1 ad hp =>
        split at hi
        case h_2 => cases hi
        case h_1 k hk =>
          split at hi
          case isFalse => cases hi
          case isTrue hq =>
            simp only [Option.some.injEq, Prod.mk.injEq] at hi
            obtain ⟨rfl, rfl⟩ := hi
            exact does_store ho hi1 hok hx hy hp hk hq.1 hq.2.1 hq.2.2.1 hq.2.2.2.1 hq.2.2.2.2 s u
  | nilCheck x =>
    simp only [cOp0, ho, Option.map_eq_some_iff] at hc
    obtain ⟨x', hx, rfl⟩ := hc
    simp only [iop] at hi
    split at hi
    case h_1 ad hp =>
      simp only [Option.some.injEq, Prod.mk.injEq] at hi
      obtain ⟨rfl, rfl⟩ := hi
      rw [← hp]
      exact does_nilck ho hx (.inl ⟨_, hp⟩) s u
    case h_2 g f c hp =>
      simp only [Option.some.injEq, Prod.mk.injEq] at hi
      obtain ⟨rfl, rfl⟩ := hi
      rw [← hp]
      exact does_nilck ho hx (.inr ⟨_, _, _, hp⟩) s u
    case h_3 => cases hi
  | binOp op t x y ty =>
    simp only [cOp0, ho, Option.bind_eq_some_iff] at hc
    obtain ⟨x', hx, y', hy, hc⟩ := hc
    split at hc
    case h_1 k hu =>
      cases hc
      simp only [iop, Option.map_eq_some_iff, Prod.mk.injEq] at hi
      obtain ⟨v', hv, rfl, rfl⟩ := hi
      exact does_bin ho hx hy hv s u
    case h_2 hu =>
      split at hc
      case isFalse => cases hc
      case isTrue hok =>
      have hop : op = .eql ∨ op = .neq := by cases op <;> simp [isEqN] at hok <;> simp
      cases hc
      simp only [iop] at hi
      split at hi
      case h_2 => cases hi
      case h_1 p q hp hq =>
        simp only [Option.some.injEq, Prod.mk.injEq] at hi
        obtain ⟨rfl, rfl⟩ := hi
        exact does_beq ho hu hop hx hy hp hq s u
    case h_3 fs hu =>
      split at hc
      case isFalse => cases hc
      case isTrue hok =>
        have hop : op = .eql ∨ op = .neq := by have := hok.1; cases op <;> simp [isEqN] at this <;> simp
        cases hc
        simp only [iop] at hi
        split at hi
        case h_2 => cases hi
        case h_1 p q hp hq =>
          split at hi
          case isFalse => cases hi
          case isTrue hl =>
            simp only [Option.map_eq_some_iff, Prod.mk.injEq] at hi
            obtain ⟨r, hr, rfl, rfl⟩ := hi
            exact does_eqs ho hu hop hok.2.1 hok.2.2.1 hok.2.2.2 hx hy hp hq hl.1 hl.2 hr s u
    case h_4 => cases hc
  | unOp op t x =>
    simp only [cOp0, ho] at hc
    have hc' : ∃ x', cOpd x = some x' ∧ io = .un op x' := by
      cases op <;> simp at hc <;> (obtain ⟨x', hx, rfl⟩ := hc; exact ⟨x', hx, rfl⟩)
    obtain ⟨x', hx, rfl⟩ := hc'
    simp only [iop, Option.map_eq_some_iff, Prod.mk.injEq] at hi
    obtain ⟨v', hv, rfl, rfl⟩ := hi
    exact does_un ho hx hv s u
  | convert sT dT x =>
    simp only [cOp0, ho] at hc
    split at hc
    case h_2 => cases hc
    case h_1 d k hs hd =>
      simp only [Option.map_eq_some_iff] at hc
      obtain ⟨x', hx, rfl⟩ := hc
      simp only [iop] at hi
      split at hi
      case h_2 => cases hi
      case h_1 k0 n he =>
        simp only [Option.some.injEq, Prod.mk.injEq] at hi
        obtain ⟨rfl, rfl⟩ := hi
        exact does_conv ho hs hd hx he s u
  | makeSlice t l n =>
    simp only [cOp0, ho] at hc
    split at hc
    case h_2 => cases hc
    case h_1 el hu =>
      simp only [Option.bind_eq_some_iff] at hc
      obtain ⟨i, hi1, z, hz, hc⟩ := hc
      split at hc
      case isFalse => cases hc
      case isTrue hok =>
        simp only [Option.bind_eq_some_iff, Option.map_eq_some_iff] at hc
        obtain ⟨x', hx, y', hy, rfl⟩ := hc
        simp only [iop] at hi
        split at hi
        case h_2 => cases hi
        case h_1 k n k' n' hp hq =>
          split at hi
          case isFalse => cases hi
          case isTrue hl =>
            simp only [Option.some.injEq, Prod.mk.injEq] at hi
            obtain ⟨rfl, rfl⟩ := hi
            obtain ⟨h0, rfl, hb, h63⟩ := hl
            exact does_mks ho hu hi1 hz hok.1 hok.2.1 hok.2.2 hx hy hp hq h0 hb h63 s u
  | slice t x l h mx =>
    cases mx with
    | some mx => simp only [cOp0, ho] at hc; cases hc
    | none =>
      simp only [cOp0, ho] at hc
      split at hc
      case h_2 => cases hc
      case h_1 el hu =>
        simp only [Option.bind_eq_some_iff] at hc
        obtain ⟨i, hi1, hc⟩ := hc
        split at hc
        case isFalse => cases hc
        case isTrue hok =>
          simp only [Option.bind_eq_some_iff, Option.map_eq_some_iff] at hc
          obtain ⟨x', hx, l', hl, h', hh, rfl⟩ := hc
          simp only [iop] at hi
          split at hi
          case h_2 => cases hi
          case h_1 ad n c' he =>
            split at hi
            case h_2 => cases hi
            case h_1 q1 hq1 =>
              split at hi
              case h_2 => cases hi
              case h_1 q2 hq2 =>
                simp only [Option.some.injEq, Prod.mk.injEq] at hi
                obtain ⟨rfl, rfl⟩ := hi
                exact does_sub ho hu hi1 hok hx hl hh he hq1 hq2 s u
  | fieldAddr sT x f =>
    simp only [cOp0, ho] at hc
    split at hc
    case h_2 => cases hc
    case h_1 fs hu =>
      simp only [Option.bind_eq_some_iff] at hc
      obtain ⟨fd, hf, i, hi1, hc⟩ := hc
      split at hc
      case isTrue => cases hc
      case isFalse hok =>
        simp only [Option.map_eq_some_iff] at hc
        obtain ⟨x', hx, rfl⟩ := hc
        simp only [iop] at hi
        split at hi
        case h_2 => cases hi
        case h_1 ad he =>
          simp only [Option.some.injEq, Prod.mk.injEq] at hi
          obtain ⟨rfl, rfl⟩ := hi
          exact does_fad ho hu hf hi1 hok hx he s u
  | field sT x f =>
    simp only [cOp0, ho] at hc
    split at hc
    case h_2 => cases hc
    case h_1 fs hu =>
      simp only [Option.bind_eq_some_iff] at hc
      obtain ⟨fd, hf, i, hi1, d, hd, hc⟩ := hc
      split at hc
      case isFalse => cases hc
      case isTrue hok =>
        simp only [Option.map_eq_some_iff] at hc
        obtain ⟨x', hx, rfl⟩ := hc
        simp only [iop] at hi
        split at hi
        case h_2 => cases hi
        case h_1 cs he =>
          split at hi
          case isFalse => cases hi
          case isTrue hle =>
            simp only [Option.map_eq_some_iff, Prod.mk.injEq] at hi
            obtain ⟨v', hv, rfl, rfl⟩ := hi
            exact does_fld ho hu hf hi1 hd hok hx he hle hv s u
  | indexAddr t x y =>
    simp only [cOp0, ho] at hc
    split at hc
    case h_2 => cases hc
    case h_1 el hu =>
      simp only [Option.bind_eq_some_iff, Option.map_eq_some_iff] at hc
      obtain ⟨i, hi1, x', hx, y', hy, rfl⟩ := hc
      simp only [iop] at hi
      split at hi
      case h_2 => cases hi
      case h_1 ad n c' k j he hj =>
        split at hi
        case isFalse => cases hi
        case isTrue hb =>
          simp only [Option.some.injEq, Prod.mk.injEq] at hi
          obtain ⟨rfl, rfl⟩ := hi
          exact does_iad ho hu hi1 hx hy he hj hb.1 hb.2 s u
  | extract x i =>
    simp only [cOp0, ho, Option.map_eq_some_iff] at hc
    obtain ⟨x', hx, rfl⟩ := hc
    simp only [iop] at hi
    split at hi
    case h_2 => cases hi
    case h_1 vs he =>
      simp only [Option.map_eq_some_iff, Prod.mk.injEq] at hi
      obtain ⟨v', hv, rfl, rfl⟩ := hi
      exact does_ext ho hx he hv s u
  | makeFunc fn xs ys =>
    cases fn with
    | func f =>
      simp only [cOp0, ho, Option.bind_eq_some_iff, Option.map_eq_some_iff] at hc
      obtain ⟨xs', hx, ys', hy, rfl⟩ := hc
      simp only [iop] at hi
      split at hi
      case isFalse => cases hi
      case isTrue hok =>
        simp only [Option.some.injEq, Prod.mk.injEq] at hi
        obtain ⟨rfl, rfl⟩ := hi
        exact does_mkf ho hx hy hok.1 hok.2 s u
    | _ => simp only [cOp0, ho] at hc; cases hc
  | call cl =>
    obtain ⟨callee, ⟨args⟩, ⟨ts⟩⟩ := cl
    cases callee with
    | value f => simp only [cOp0, ho] at hc; cases hc
    | invoke r n => simp only [cOp0, ho] at hc; cases hc
    | builtin b =>
      cases b with
      | len =>
        simp only [cOp0, ho] at hc
        split at hc
        case h_2 => cases hc
        case h_1 _ _ x t ts' =>
          split at hc
          case h_2 => cases hc
          case h_1 el hu =>
            simp only [Option.map_eq_some_iff] at hc
            obtain ⟨x', hx, rfl⟩ := hc
            simp only [iop] at hi
            split at hi
            case h_2 => cases hi
            case h_1 ad n c' he =>
              simp only [Option.some.injEq, Prod.mk.injEq] at hi
              obtain ⟨rfl, rfl⟩ := hi
              exact does_len ho (by simp) hu hx he s u
      | max =>
        simp only [cOp0, ho] at hc
        split at hc
        case h_2 => cases hc
        case h_1 _ x y =>
          simp only [Option.bind_eq_some_iff, Option.map_eq_some_iff] at hc
          obtain ⟨x', hx, y', hy, rfl⟩ := hc
          simp only [iop] at hi
          split at hi
          case h_2 => cases hi
          case h_1 k p k' q he hf =>
            simp only [Option.some.injEq, Prod.mk.injEq] at hi
            obtain ⟨rfl, rfl⟩ := hi
            exact does_max ho hx hy he hf s u
      | append =>
        simp only [cOp0, ho] at hc
        split at hc
        case h_2 => cases hc
        case h_1 _ _ x y t t' =>
          split at hc
          case h_2 => cases hc
          case h_1 el hu =>
            simp only [Option.bind_eq_some_iff] at hc
            obtain ⟨i, hi1, z, hz, hc⟩ := hc
            split at hc
            case isFalse => cases hc
            case isTrue hok =>
              obtain ⟨rfl, hpos, hsz⟩ := hok
              simp only [Option.bind_eq_some_iff, Option.map_eq_some_iff] at hc
              obtain ⟨x', hx, y', hy, rfl⟩ := hc
              simp only [iop] at hi
              split at hi
              case h_2 => cases hi
              case h_1 b n cc ad m' c' hxs he =>
                split at hi
                case isTrue h0 =>
                  simp only [Option.some.injEq, Prod.mk.injEq] at hi
                  obtain ⟨rfl, rfl⟩ := hi
                  subst h0
                  rw [← hxs]
                  exact does_app_none ho hu hi1 hx hy he ⟨_, _, _, hxs⟩ s u
                case isFalse h0 =>
                  cases ad with
                  | none => cases hi
                  | some ad =>
                    simp only at hi
                    split at hi
                    case h_1 => cases hi
                    case h_2 ys hg =>
                      cases b with
                      | none =>
                        simp only at hi
                        split at hi
                        case isFalse => cases hi
                        case isTrue hb =>
                          simp only [Option.some.injEq, Prod.mk.injEq] at hi
                          obtain ⟨rfl, rfl⟩ := hi
                          exact does_app_nil ho hu hi1 hz hpos hsz hx hy h0 he hxs hg hb.1 hb.2 s u
                      | some b =>
                        simp only at hi
                        split at hi
                        case h_1 => cases hi
                        case h_2 k hk =>
                          split at hi
                          case isFalse => cases hi
                          case isTrue hb =>
                            simp only [Option.some.injEq, Prod.mk.injEq] at hi
                            obtain ⟨rfl, rfl⟩ := hi
                            obtain ⟨b1, b2, b3, b4, b5, b6, b7, b8⟩ := hb
                            exact does_app ho hu hi1 hz hpos hsz hx hy h0 he hxs hg hk b1 b2 b3 b4 b5 b6 b7 b8 _ s u
      | _ => simp only [cOp0, ho] at hc; cases hc
  | _ => simp only [cOp0, ho] at hc; cases hc

theorem prim_sound (hc : cOp P c o = some io) (hi : iop lo io e H = some (v, H1)) (s : Sim lo base m H w.heap) (u : OkU m e a o.op.operands) : OpDoes P o a w lo base m H v H1 := by
  unfold cOp at hc
  split at hc
  · simp only [Option.bind_eq_some_iff, Option.map_eq_some_iff] at hc
    obtain ⟨f', _, xs', _, rfl⟩ := hc
    simp [iop] at hi
  · exact prim_sound0 (Option.filter_eq_some_iff.1 hc).1 hi s u

end
end Go.Proofs.YtkdhdklggdbgdaaI
