/- Texts of this proof, merged: M2. -/
import Derived.Test.YtbjeldblaclpnaaGreatPz1
import Derived.Laws.MakeOwn
import Derived.Laws.StructEq
import Derived.Laws.Slices
import Derived.Laws.Tables
import Derived.Great.BuildSlice
section
section
set_option linter.unusedVariables false
set_option linter.unusedSimpArgs false
namespace Go.Proofs.YtbjeldblaclpnaaGreatI
open Go Go.RowKit
def okC : Value -> Bool
 | .bool _ | .int _ _ | .string _ | .nilFunc | .pointer none | .slice none 0 0 => true
 | _ => false
def cOpd : Operand -> Option Opd
 | .tmp t => some (.t t)
 | .const v => if okC v then some (.c v) else none
 | .func f => some (.f f)
 | .global _ => none
def cOpds : List Operand -> Option (List Opd)
 | [] => some []
 | x :: r => (cOpd x).bind fun x' => (cOpds r).map (x' :: ·)
structure CM where
 md : Nat -> Mode
 mt : Mode
 kl : Bool
def isEqN : BinOp -> Bool
 | .eql | .neq => true
 | _ => false
def isNeq : BinOp -> Bool
 | .neq => true
 | _ => false
def isAggD : TypeDesc -> Bool
 | .struct _ | .array _ _ => true
 | _ => false
def cParts (P : Program) (place : Nat -> Option (Nat × Nat)) : List (Nat × Operand) -> Option (List (Nat × Nat × Opd))
 | [] => some []
 | (i,x) :: r => (place i).bind fun p => (cOpd x).bind fun x' => (cParts P place r).map ((p.1,p.2,x') :: ·)
def fplaces (P : Program) (fs : Array Field) : Option (List (Nat × Nat)) :=
 fs.toList.mapM fun f => (P.info? f.type).map fun i => (f.offset,i.size)
def flatInts (P : Program) (fs : Array Field) : Bool :=
 fs.toList.zipIdx.all fun (f, j) => f.name != "_" && f.offset == j && (P.underlying f.type matches some (.int _)) && (P.info? f.type).any (·.size == 1)
def cOptO : Option Operand -> Option (Option Opd)
 | none => some none
 | some x => (cOpd x).map some
def cOp0 (P : Program) (c : CM) (o : Oper) : Option IOp :=
 match o.op with
 | .move x | .assign x => (cOpd x).map .mov
 | .pick x y z => (cOpd x).bind fun x' => (cOpd y).bind fun y' => (cOpd z).map (.pick x' y' ·)
 | .alloc t => (P.info? t).bind fun i => i.zero.bind fun z => if z.cells.toList.all okC then some (.new z.cells.toList) else none
 | .box t x => (cOpd x).map .box
 | .build t ps => (P.info? t).bind fun i => i.zero.bind fun z => match P.underlying t with
   | some (.struct fs) => if z.cells.toList.all okC then (fplaces P fs).bind fun pl => (cParts P (pl[·]?) ps.toList).map (.build z.cells.toList ·) else none
   | _ => none
 | .buildSlice t len ps => match P.underlying t with
   | some (.slice el) => (P.info? el).bind fun i => i.zero.bind fun z =>
     if len * i.size <= 2 ^ 24 /\ 0 < i.size /\ z.cells.toList.all okC = true /\ z.cells.size = i.size then
      (cParts P (fun j => some (j * i.size,i.size)) ps.toList).map (.lit i.size el len ((Array.range (len * i.size)).map (z.cells[· % z.cells.size]!)).toList ·) else none
   | _ => none
 | .load t x => match P.underlying t with
   | some d => (P.info? t).bind fun i => if isAggD d = true \/ i.size = 1 then (cOpd x).map (.load (isAggD d) i.size ·) else none
   | none => none
 | .store t x y => (P.info? t).bind fun i => if 0 < i.size then (cOpd x).bind fun x' => (cOpd y).map (.store i.size x' ·) else none
 | .nilCheck x => (cOpd x).map .nilck
 | .binOp op t x y _ => (cOpd x).bind fun x' => (cOpd y).bind fun y' => match P.underlying t with
   | some (.int _) => some (.bin op x' y')
   | some .bool => if isEqN op = true then some (.beq (isNeq op) x' y') else none
   | some (.struct fs) =>
     if isEqN op = true /\ flatInts P fs = true /\ P.stoodInHeld t = false /\ P.eqGuardType P.depth t = false then some (.eqs (isNeq op) fs.size x' y') else none
   | _ => none
 | .unOp op _ x => if op matches .not | .neg then (cOpd x).map (.un op ·) else none
 | .convert s d x => match P.underlying s,P.underlying d with
   | some _,some (.int k) => (cOpd x).map (.conv k ·)
   | _,_ => none
 | .makeSlice t l n => match P.underlying t with
   | some (.slice el) => (P.info? el).bind fun i => i.zero.bind fun z =>
     if 0 < i.size /\ z.cells.toList.all okC = true /\ z.cells.size = i.size then
      (cOpd l).bind fun l' => (cOpd n).map (.mks i.size el i.bytes z.cells.toList l' ·) else none
   | _ => none
 | .slice t x l h none => match P.underlying t with
   | some (.slice el) => (P.info? el).bind fun i => if 0 < i.size then (cOpd x).bind fun x' => (cOptO l).bind fun l' => (cOptO h).map (.sub i.size x' l' ·) else none
   | _ => none
 | .fieldAddr s x f => match P.underlying s with
   | some (.struct fs) => fs[f]?.bind fun fd => (P.info? fd.type).bind fun i => if i.size = 0 then none else (cOpd x).map (.fad fd.offset ·)
   | _ => none
 | .field s x f => match P.underlying s with
   | some (.struct fs) => fs[f]?.bind fun fd => (P.info? fd.type).bind fun i => (P.underlying fd.type).bind fun d =>
     if isAggD d = true \/ i.size = 1 then (cOpd x).map (.fld (isAggD d) fd.offset i.size ·) else none
   | _ => none
 | .indexAddr t x i => match P.underlying t with
   | some (.slice el) => (P.info? el).bind fun inf => (cOpd x).bind fun x' => (cOpd i).map (.iad inf.size x' ·)
   | _ => none
 | .extract x i => (cOpd x).map (.ext · i)
 | .makeFunc (.func f) a b => (cOpds a.toList).bind fun a' => (cOpds b.toList).map (.mkf f a' ·)
 | .call ⟨.builtin .len,args,ts⟩ => match args.toList,ts.toList with
   | [x],t :: _ => match P.underlying t with
     | some (.slice _) => (cOpd x).map .len
     | _ => none
   | _,_ => none
 | .call ⟨.builtin .max,args,ts⟩ => match args.toList with
   | [x,y] => (cOpd x).bind fun x' => (cOpd y).map (.max2 x' ·)
   | _ => none
 | .call ⟨.builtin .append,args,ts⟩ => match args.toList,ts.toList with
   | [x,y],[t,t'] => match P.underlying t with
     | some (.slice el) => (P.info? el).bind fun i => i.zero.bind fun z =>
       if t' = t /\ 0 < i.size /\ z.cells.size = i.size then
        (cOpd x).bind fun x' => (cOpd y).map (.app i.size el i.bytes c.kl x' ·) else none
     | _ => none
   | _,_ => none
 | _ => none
def notCall : IOp -> Bool
 | .call .. => false
 | _ => true
def cOp (P : Program) (c : CM) (o : Oper) : Option IOp :=
 match o.op with
 | .call ⟨.value f,args,_⟩ => (cOpd f).bind fun f' => (cOpds args.toList).map (.call (match f' with | .f g => c.md g | _ => c.mt) f' ·)
 | _ => (cOp0 P c o).filter notCall
def OkU (m : MM) (e : Env) (a : Act) (xs : Array Operand) : Prop := ∀ t,Operand.tmp t ∈ xs -> VR m (e t) (a.eval (.tmp t))
theorem VR.okC {m : MM} {v : Value} (h : okC v = true) : VR m v v := by
 refine VR.of0 ?_
 cases v with
 | pointer a => cases a with
   | none => rfl
   | some a => simp [Go.Proofs.YtbjeldblaclpnaaGreatI.okC] at h
 | slice a n c => cases a with
   | none =>
     simp only [Go.Proofs.YtbjeldblaclpnaaGreatI.okC] at h
     split at h <;> first | exact ⟨rfl,rfl⟩ | cases h | skip
     all_goals simp_all
     all_goals exact ⟨rfl,rfl⟩
   | some a => simp [Go.Proofs.YtbjeldblaclpnaaGreatI.okC] at h
 | _ => first | rfl | (simp [Go.Proofs.YtbjeldblaclpnaaGreatI.okC] at h)
theorem VR1.okC {m : MM} {v : Value} (h : okC v = true) : VR1 m v v := (VR.okC h).to1 (by cases v <;> first | rfl | (simp [Go.Proofs.YtbjeldblaclpnaaGreatI.okC] at h))
theorem OkU.ev {m : MM} {e : Env} {a : Act} {xs : Array Operand} (h : OkU m e a xs) {x : Operand} {x' : Opd} (hx : x ∈ xs) (hc : cOpd x = some x') : VR m (x'.ev e) (a.eval x) := by
 cases x with
 | tmp t => cases hc; exact h t hx
 | const v =>
   simp only [cOpd] at hc
   split at hc
   ·cases hc; exact VR.okC ‹_›
   ·cases hc
 | func f => cases hc; exact VR.of1 (.inr ⟨f,#[],#[],#[],#[],rfl,rfl,All2.nil,All2.nil⟩)
 | global g => cases hc
def OpDoes (P : Program) (o : Oper) (a : Act) (w : World) (lo : Nat) (base : Nat -> Prop) (m : MM) (H : Heap) (v : Value) (H1 : Heap) : Prop :=
 ∃ v' w' m',((execOp a.eval o).run P w = .ok (.value v') w' \/ ((execOp a.eval o).run P w = .ok .skip w' /\ v' = undef)) /\
  MM.agree H.length m m' /\ Sim lo base m' H1 w'.heap /\ VR m' v v' /\ Kept base w w' /\ H.length <= H1.length
section
variable {P : Program} {c : CM} {o : Oper} {io : IOp} {lo : Nat} {base : Nat -> Prop} {m : MM} {H H1 : Heap} {w : World} {a : Act} {e : Env} {v : Value}
theorem OpDoes.still (s : Sim lo base m H w.heap) {v' : Value} (hr : (execOp a.eval o).run P w = .ok (.value v') w) (r : VR m v v') : OpDoes P o a w lo base m H v H :=
 ⟨v',w,m,.inl hr,MM.agree.refl _ _,s,r,Kept.refl _ _,Nat.le_refl _⟩
theorem OpDoes.newB (s : Sim lo base m H w.heap) (k : Blk) (cs : Array Value) (t cap n : Nat) (sl : Bool)
  (hr : ∃ w0 : World,w0.heap = w.heap /\ Kept base w w0 /\ (execOp a.eval o).run P w = .ok (.value (if sl then .slice (some ⟨w.heap.size,0,none⟩) n cap else .pointer (some ⟨w.heap.size,0,none⟩))) (w0.alloc (.cells cs t)))
  (hv : ∀ (j : Nat) (v : Value),k.cells[j]? = some v -> ∃ v',cs[j]? = some v' /\ VR1 m v v') (ht : k.app = true -> t = k.et) (hz : k.app = true -> k.cells = [] -> cs.size = 0) (hn : sl = true -> n <= cap /\ cap * k.es <= cs.size) :
  OpDoes P o a w lo base m H (if sl then sli H.length 0 n else ptr H.length 0) (H ++ [k]) := by
 obtain ⟨w0,hw0,hb0,hr⟩ := hr
 have s' := s.snoc k cs ⟨w.heap.size,0,k.es,t,cs.size⟩ rfl rfl rfl ht rfl hz hv
 refine ⟨_,_,m.put H.length ⟨w.heap.size,0,k.es,t,cs.size⟩,.inl hr,MM.put_agree _ _ _,?_,?_,?_,by simp⟩
 ·show Sim lo base _ _ (w0.heap.push _)
  rw [hw0]; exact s'
 ·cases sl with
  | true =>
    refine VR.of0 (.inl ⟨_,MM.put_self _ _ _,rfl,cap,?_,(hn rfl).1,fun _ => (hn rfl).2⟩)
    simp
  | false => exact VR.of0 ⟨_,MM.put_self _ _ _,rfl,by simp⟩
 ·exact hb0.alloc (by rw [hw0]; exact s.bnd) _
theorem does_mov {x : Operand} (ho : o.op = .move x \/ o.op = .assign x) {x' : Opd} (hx : cOpd x = some x') (s : Sim lo base m H w.heap) (u : OkU m e a o.op.operands) :
  OpDoes P o a w lo base m H (x'.ev e) H := by
 have hm : x ∈ o.op.operands := by rcases ho with h | h <;> simp [h,Op.operands]
 refine OpDoes.still s ?_ (u.ev hm hx)
 rcases ho with h | h <;> simp [execOp,h]
theorem does_pick {x y z : Operand} (ho : o.op = .pick x y z) {x' y' z' : Opd} (hx : cOpd x = some x') (hy : cOpd y = some y') (hz : cOpd z = some z') {t : Bool} (ht : x'.ev e = .bool t)
  (s : Sim lo base m H w.heap) (u : OkU m e a o.op.operands) : OpDoes P o a w lo base m H (if t then y'.ev e else z'.ev e) H := by
 have h1 := u.ev (x := x) (by simp [ho,Op.operands]) hx
 have h2 := u.ev (x := y) (by simp [ho,Op.operands]) hy
 have h3 := u.ev (x := z) (by simp [ho,Op.operands]) hz
 rw [ht] at h1
 have h4 := h1.bool
 refine OpDoes.still s (v' := if t then a.eval y else a.eval z) ?_ ?_
 ·simp [execOp,ho,h4,asBool]
 ·cases t <;> simpa
theorem does_alloc {t : TypeId} (ho : o.op = .alloc t) {i : TypeInfo} (hi : P.info? t = some i) {z : Value} (hz : i.zero = some z) (hc : z.cells.toList.all okC = true)
  (s : Sim lo base m H w.heap) : OpDoes P o a w lo base m H (ptr H.length 0) (H ++ [⟨z.cells.toList,0,0,false,true⟩]) := by
 refine OpDoes.newB s ⟨z.cells.toList,0,0,false,true⟩ z.cells t 0 0 false ⟨w,rfl,Kept.refl _ _,?_⟩ ?_ (by simp) (by simp) (by simp)
 ·simp [execOp,ho,Instr.alloc,zeroValue,typeInfo,hi,hz,newVar,newRow]
 ·intro j v hj
  refine ⟨v,by simpa using hj,VR1.okC (List.all_eq_true.1 hc _ (List.mem_of_getElem? hj))⟩
theorem does_box {t : TypeId} {x : Operand} (ho : o.op = .box t x) {x' : Opd} (hx : cOpd x = some x') (hc : (x'.ev e).cells.toList.all one = true)
  (s : Sim lo base m H w.heap) (u : OkU m e a o.op.operands) : OpDoes P o a w lo base m H (ptr H.length 0) (H ++ [⟨(x'.ev e).cells.toList,0,0,false,true⟩]) := by
 have hv := (u.ev (x := x) (by simp [ho,Op.operands]) hx).cells hc
 refine OpDoes.newB s ⟨(x'.ev e).cells.toList,0,0,false,true⟩ (a.eval x).cells t 0 0 false ⟨w,rfl,Kept.refl _ _,?_⟩ ?_ (by simp) (by simp) (by simp)
 ·simp [execOp,ho,Instr.box,newVar,newRow]
 ·intro j v hj
  obtain ⟨v',h1,h2⟩ := hv.2 j v hj
  exact ⟨v',by simpa using h1,h2⟩
theorem setL_length : ∀ (vs cs : List Value) (o : Nat),(setL cs o vs).length = cs.length
 | [],cs,o => rfl
 | v :: vs,cs,o => by simp [setL,setL_length vs]
theorem setL_eq : ∀ (vs cs : List Value) (o : Nat),o + vs.length <= cs.length -> setL cs o vs = cs.take o ++ vs ++ cs.drop (o + vs.length)
 | [],cs,o,_ => by simp [setL]
 | v :: vs,cs,o,h => by
   simp only [List.length_cons] at h
   rw [setL,setL_eq vs (cs.set o v) (o + 1) (by simp; omega)]
   have := list_seg_step cs o v vs (by omega)
   simpa [Nat.add_comm,Nat.add_left_comm] using this
theorem All2.setL {R : Value -> Value -> Prop} : ∀ {vs vs' : List Value} {cs cs' : List Value} (o : Nat),All2 R vs vs' -> All2 R cs cs' -> All2 R (Go.Proofs.YtbjeldblaclpnaaGreatI.setL cs o vs) (Go.Proofs.YtbjeldblaclpnaaGreatI.setL cs' o vs')
 | [],[],cs,cs',o,_,h => h
 | v :: vs,v' :: vs',cs,cs',o,hv,h => by
   have h0 : R v v' := by obtain ⟨y,hy,r⟩ := hv.2 0 v rfl; simp at hy; subst hy; exact r
   exact All2.setL (o + 1) ⟨by simpa using hv.1,fun i x hx => hv.2 (i + 1) x (by simpa using hx)⟩ (h.set o h0)
 | [],v' :: vs',cs,cs',o,hv,h => by have := hv.1; simp at this
 | v :: vs,[],cs,cs',o,hv,h => by have := hv.1; simp at this
theorem foldl_setL : ∀ (vs : List Value) (k o : Nat) (cs : Array Value),((vs.zipIdx k).foldl (fun cs (x : Value × Nat) => cs.setIfInBounds (o + x.2) x.1) cs).toList = setL cs.toList (o + k) vs
 | [],k,o,cs => by simp [setL]
 | v :: vs,k,o,cs => by
   simp only [List.zipIdx_cons,List.foldl_cons]
   rw [foldl_setL vs (k + 1) o]
   simp [setL,Nat.add_assoc]
theorem fill_does (pl : Nat -> Option (Nat × Nat)) : ∀ (ps : List (Nat × Operand)) (ps' : List (Nat × Nat × Opd)) (cs : List Value) (cs' : Array Value) (out : List Value),
  cParts P pl ps = some ps' -> (∀ t,(∃ i,(i,Operand.tmp t) ∈ ps) -> VR m (e t) (a.eval (.tmp t))) -> All2 (VR1 m) cs cs'.toList -> fillL e cs ps' = some out ->
  ∃ out',Instr.fill pl cs' (ps.map fun x => (x.1,a.eval x.2)) = some out' /\ All2 (VR1 m) out out'.toList
 | [],ps',cs,cs',out,hp,hu,hr,hf => by
   simp only [cParts,Option.some.injEq] at hp
   subst hp
   simp only [fillL,Option.some.injEq] at hf
   subst hf
   exact ⟨cs',rfl,hr⟩
 | (i,x) :: ps,ps',cs,cs',out,hp,hu,hr,hf => by
   simp only [cParts,Option.bind_eq_some_iff,Option.map_eq_some_iff] at hp
   obtain ⟨⟨o',n⟩,hpl,x',hx,ps1,hp1,rfl⟩ := hp
   simp only [fillL] at hf
   split at hf
   case isFalse => cases hf
   case isTrue hc =>
    obtain ⟨h1,h2,h3⟩ := hc
    have hv : VR m (x'.ev e) (a.eval x) := by
     cases x with
     | tmp t => cases hx; exact hu t ⟨i,by simp⟩
     | const v => exact OkU.ev (xs := #[.const v]) (fun t ht => by simp at ht) (by simp) hx
     | func f => exact OkU.ev (xs := #[.func f]) (fun t ht => by simp at ht) (by simp) hx
     | global g => cases hx
    have hv' := hv.cells h3
    have hl : (a.eval x).cells.size = n := by have := hv'.1; simp at this h1; omega
    have hcs : cs'.size = cs.length := by have := hr.1; simpa using this.symm
    have hset := All2.setL o' hv' hr
    obtain ⟨out',h4,h5⟩ := fill_does pl ps ps1 _ ((a.eval x).cells.zipIdx.foldl (fun cs (c,j) => cs.setIfInBounds (o' + j) c) cs') out hp1
     (fun t ⟨j,hj⟩ => hu t ⟨j,by simp [hj]⟩) (by
      have := foldl_setL (a.eval x).cells.toList 0 o' cs'
      rw [Nat.add_zero] at this
      rw [<- Array.foldl_toList,Array.toList_zipIdx]
      refine Eq.mp ?_ hset
      congr 1
      rw [<- this]) hf
    refine ⟨out',?_,h5⟩
    simp only [List.map_cons,Instr.fill,hpl]
    rw [if_neg (by simp only [Bool.or_eq_true,decide_eq_true_eq,not_or]; omega)]
    exact h4
theorem does_build {t : TypeId} {ps : Array (Nat × Operand)} (ho : o.op = .build t ps) {i : TypeInfo} (hi : P.info? t = some i) {z : Value} (hz : i.zero = some z) {fs : Array Field}
  (hu : P.underlying t = some (.struct fs)) (hc : z.cells.toList.all okC = true) {pl : List (Nat × Nat)} (hp : fplaces P fs = some pl) {ps' : List (Nat × Nat × Opd)} (hps : cParts P (pl[·]?) ps.toList = some ps')
  {out : List Value} (hf : fillL e z.cells.toList ps' = some out) (s : Sim lo base m H w.heap) (u : OkU m e a o.op.operands) : OpDoes P o a w lo base m H (.agg out.toArray) H := by
 obtain ⟨out',h1,h2⟩ := fill_does (P := P) (a := a) (m := m) (pl[·]?) ps.toList ps' z.cells.toList z.cells out hps
  (fun t ⟨j,hj⟩ => u t (by simp only [ho,Op.operands,List.mem_toArray,List.mem_map]; exact ⟨_,hj,rfl⟩))
  ⟨rfl,fun j v hj => ⟨v,hj,VR1.okC (List.all_eq_true.1 hc _ (List.mem_of_getElem? hj))⟩⟩ hf
 refine OpDoes.still s (v' := .agg out') ?_ (.inl (.inr ⟨_,_,rfl,rfl,by simpa using h2⟩))
 have hb : P.built t (ps.map fun (i,x) => (i,a.eval x)).toList = some out' := by
  unfold Program.built
  simp only [hi,hu,hz]
  unfold fplaces at hp
  rw [hp]
  simpa [Array.toList_map] using h1
 simp [execOp,ho,run_build w t _ out' hb]
theorem does_lit {t el : TypeId} {len : Nat} {ps : Array (Nat × Operand)} (ho : o.op = .buildSlice t len ps) (hu : P.underlying t = some (.slice el)) {i : TypeInfo} (hi : P.info? el = some i) {z : Value} (hz : i.zero = some z)
  (h24 : len * i.size <= 2 ^ 24) (hpos : 0 < i.size) (hc : z.cells.toList.all okC = true) (hsz : z.cells.size = i.size)
  {ps' : List (Nat × Nat × Opd)} (hps : cParts P (fun j => some (j * i.size,i.size)) ps.toList = some ps')
  {out : List Value} (hf : fillL e ((Array.range (len * i.size)).map (z.cells[· % z.cells.size]!)).toList ps' = some out) (s : Sim lo base m H w.heap) (u : OkU m e a o.op.operands) :
  OpDoes P o a w lo base m H (sli H.length 0 len) (H ++ [⟨out,i.size,el,true,true⟩]) := by
 have hz0 : ∀ (j : Nat) (v : Value),((Array.range (len * i.size)).map (z.cells[· % z.cells.size]!)).toList[j]? = some v -> VR1 m v v := by
  intro j v hj
  refine VR1.okC (List.all_eq_true.1 hc _ ?_)
  simp only [Array.toList_map,List.getElem?_map,Option.map_eq_some_iff] at hj
  obtain ⟨q,_,rfl⟩ := hj
  have hlt : q % z.cells.size < z.cells.size := Nat.mod_lt _ (by omega)
  rw [getElem!_pos z.cells _ hlt]
  simp
 obtain ⟨out',h1,h2⟩ := fill_does (P := P) (a := a) (m := m) (fun j => some (j * i.size,i.size)) ps.toList ps' _ ((Array.range (len * i.size)).map (z.cells[· % z.cells.size]!)) out hps
  (fun t ⟨j,hj⟩ => u t (by simp only [ho,Op.operands,List.mem_toArray,List.mem_map]; exact ⟨_,hj,rfl⟩))
  ⟨rfl,fun j v hj => ⟨v,hj,hz0 j v hj⟩⟩ hf
 have hlen : out'.size = len * i.size := by
  have hfl : ∀ (ps : List (Nat × Nat × Opd)) (cs out : List Value),fillL e cs ps = some out -> out.length = cs.length := by
   intro ps
   induction ps with
   | nil => intro cs out h; simp only [fillL,Option.some.injEq] at h; subst h; rfl
   | cons p ps ih =>
     intro cs out h
     obtain ⟨o1,n1,x1⟩ := p
     simp only [fillL] at h
     split at h
     ·rw [ih _ _ h,setL_length]
     ·cases h
  have := hfl _ _ _ hf
  have h3 := h2.1
  simp at this h3
  omega
 have key := OpDoes.newB (P := P) (o := o) (a := a) (base := base) s ⟨out,i.size,el,true,true⟩ out' el len len true ⟨w,rfl,Kept.refl _ _,?_⟩ ?_ (fun _ => rfl) ?_ (fun _ => ⟨Nat.le_refl _,by show len * i.size <= out'.size; omega⟩)
 ·simpa using key
 ·by_cases h0 : len * i.size = 0
  ·have hlen0 : len = 0 := by rcases Nat.mul_eq_zero.1 h0 with h | h <;> omega
   subst hlen0
   have hf' : Instr.fill (fun j => some (j * i.size,i.size)) #[] (List.map (fun x => (x.fst,a.eval x.snd)) ps.toList) = some out' := by simpa [Array.range_zero'] using h1
   simp [execOp,ho,Instr.buildSlice,run_underlying hu,sizeOf,typeInfo,hi,newRow,hf',Array.range_zero']
  ·have hr := run_buildSlice (P := P) w t el len (ps.map fun (i,x) => (i,a.eval x)) out' i z hu hi hz (by omega) h0 (by simpa [Array.toList_map] using h1)
   simp [execOp,ho,hr]
 ·intro j v hj
  obtain ⟨v',q1,q2⟩ := h2.2 j v hj
  exact ⟨v',by simpa using q1,q2⟩
 ·intro _ h
  have h3 := h2.1
  rw [show out = [] from h] at h3
  simpa using h3.symm
theorem Sim.read (s : Sim lo base m H w.heap) {b o n : Nat} {cs : List Value} (hg : getCells H b o n = some cs) {x : MB} (hx : m b = some x) :
  ∃ cs' : List Value,All2 (VR1 m) cs cs' /\ (∀ j v,cs'[j]? = some v -> w.cell? ⟨x.blk,x.off + o + j,none⟩ = some v) /\ cs.length = n := by
 unfold getCells at hg
 split at hg
 case h_2 => cases hg
 case h_1 k hk =>
  split at hg
  case isFalse => cases hg
  case isTrue hle =>
   simp only [Option.some.injEq] at hg
   subst hg
   obtain ⟨c,t,fr,h1,h2⟩ := s.cell b x k hx hk
   refine ⟨(c.toList.drop (x.off + o)).take n,⟨?_,?_⟩,?_,?_⟩
   ·have hsz : x.off + o + n <= c.size \/ n = 0 := by
     rcases Nat.eq_zero_or_pos n with h0 | hp
     ·exact .inr h0
     ·left
      obtain ⟨v',hv',_⟩ := h2 (o + (n - 1)) (k.cells[o + (n - 1)]'(by omega)) (List.getElem?_eq_getElem (by omega))
      have := (Array.getElem?_eq_some_iff.1 hv').1
      omega
    simp only [List.length_take,List.length_drop,Array.length_toList]
    omega
   ·intro j v hj
    rw [List.getElem?_take] at hj ⊢
    split at hj
    ·rename_i hjn
     rw [if_pos hjn]
     rw [List.getElem?_drop] at hj ⊢
     obtain ⟨v',q1,q2⟩ := h2 _ v hj
     exact ⟨v',by simpa [Nat.add_assoc] using q1,q2⟩
    ·cases hj
   ·intro j v hj
    rw [List.getElem?_take] at hj
    split at hj
    ·rw [List.getElem?_drop] at hj
     simp only [World.cell?,h1,Option.isSome_none,Bool.false_eq_true,if_false]
     simpa using hj
    ·cases hj
   ·simp only [List.length_take,List.length_drop]; omega
theorem valOf_does {agg : Bool} {cs cs' : List Value} (h : All2 (VR1 m) cs cs') (hv : valOf agg cs = some v) :
  ∃ v',VR m v v' /\ (if agg then v' = .agg cs'.toArray else cs' = [v']) := by
 cases agg with
 | true =>
   simp only [valOf,if_true,Option.some.injEq] at hv
   subst hv
   exact ⟨_,.inl (.inr ⟨_,_,rfl,rfl,by simpa using h⟩),by simp⟩
 | false =>
   unfold valOf at hv
   simp only [Bool.false_eq_true,if_false] at hv
   split at hv
   ·simp only [Option.some.injEq] at hv
    subst hv
    obtain ⟨y,hy,r⟩ := h.2 0 _ rfl
    refine ⟨y,VR.of1 r,?_⟩
    have hl := h.1
    simp only [Bool.false_eq_true,if_false]
    cases cs' with
    | nil => simp at hy
    | cons z zs => simp at hy hl; subst hy; rw [hl]
   ·cases hv
theorem does_load {t : TypeId} {x : Operand} (ho : o.op = .load t x) {d : TypeDesc} (hu : P.underlying t = some d) {i : TypeInfo} (hi : P.info? t = some i) (hd : isAggD d = true \/ i.size = 1)
  {x' : Opd} (hx : cOpd x = some x') {ad : Addr} (hp : x'.ev e = .pointer (some ad)) {cs : List Value} (hg : getCells H ad.block ad.off i.size = some cs) (hv : valOf (isAggD d) cs = some v)
  (s : Sim lo base m H w.heap) (u : OkU m e a o.op.operands) : OpDoes P o a w lo base m H v H := by
 have h1 := u.ev (x := x) (by simp [ho,Op.operands]) hx
 rw [hp] at h1
 obtain ⟨mb,hm,_,hax⟩ := h1.ptr
 obtain ⟨cs',h2,h3,h4⟩ := s.read hg hm
 obtain ⟨v',h5,h6⟩ := valOf_does h2 hv
 refine OpDoes.still s (v' := v') ?_ h5
 have hl : cs'.length = i.size := by rw [<- h2.1,h4]
 have hread : ∀ j v,cs'[j]? = some v -> w.cell? ((⟨mb.blk,mb.off + ad.off,none⟩ : Addr).add j) = some v := fun j v hj => by
  rw [Addr.add_lit]; exact h3 j v hj
 cases hagg : isAggD d with
 | true =>
   rw [hagg] at h6
   simp only [if_true] at h6
   subst h6
   have hlc := run_loadCells_list (P := P) w _ cs' hread
   rw [hl] at hlc
   have hia : (isAgg t).run P w = .ok true w := by
    simp only [isAgg,Sem.run_bind,run_underlying hu,Result.andThen_ok]
    cases d <;> simp [isAggD] at hagg <;> rfl
   simp [execOp,ho,hax,Instr.loadAt,Instr.sureAddr,loadVar,hia,sizeOf,typeInfo,hi,hlc]
 | false =>
   rw [hagg] at h6
   simp only [Bool.false_eq_true,if_false] at h6
   subst h6
   have hc := hread 0 v' rfl
   rw [Addr.add_zero'] at hc
   have hia : (isAgg t).run P w = .ok false w := by
    simp only [isAgg,Sem.run_bind,run_underlying hu,Result.andThen_ok]
    cases d <;> simp [isAggD] at hagg <;> rfl
   simp [execOp,ho,hax,Instr.loadAt,Instr.sureAddr,loadVar,hia,hc]
theorem does_store {t : TypeId} {x y : Operand} (ho : o.op = .store t x y) {i : TypeInfo} (hi : P.info? t = some i) (hpos : 0 < i.size) {x' y' : Opd} (hx : cOpd x = some x') (hy : cOpd y = some y')
  {ad : Addr} (hp : x'.ev e = .pointer (some ad)) {k : Blk} (hk : H[ad.block]? = some k) (hlo : lo <= ad.block) (hs : k.solo = true) (hn : (y'.ev e).cells.toList.length = i.size)
  (hle : ad.off + i.size <= k.cells.length) (hone : (y'.ev e).cells.toList.all one = true) (s : Sim lo base m H w.heap) (u : OkU m e a o.op.operands) :
  OpDoes P o a w lo base m H undef (H.set ad.block { k with cells := setL k.cells ad.off (y'.ev e).cells.toList }) := by
 have h1 := u.ev (x := x) (by simp [ho,Op.operands]) hx
 have h2 := (u.ev (x := y) (by simp [ho,Op.operands]) hy).cells hone
 rw [hp] at h1
 obtain ⟨mb,hm,_,hax⟩ := h1.ptr
 obtain ⟨o1,o2,o3,cs,o4,o5⟩ := s.own ad.block mb k hlo hm hk
 obtain ⟨cs0,t0,fr0,c1,c2⟩ := s.cell ad.block mb k hm hk
 rw [o4] at c1
 simp only [Option.some.injEq,Obj.cells.injEq] at c1
 obtain ⟨rfl,_,_⟩ := c1
 have hlen : (a.eval y).cells.toList.length = i.size := by rw [<- h2.1,hn]
 have hlen' : (a.eval y).cells.size = i.size := by simpa using hlen
 have hksz : k.cells.length <= cs.size := by
  rcases Nat.eq_zero_or_pos k.cells.length with h0 | hp'
  ·omega
  ·obtain ⟨v',q,_⟩ := c2 (k.cells.length - 1) (k.cells[k.cells.length - 1]'(by omega)) (List.getElem?_eq_getElem (by omega))
   have := (Array.getElem?_eq_some_iff.1 q).1
   rw [o2] at this
   omega
 have hst := run_storeCells_at P mb.blk (mb.off + ad.off) mb.et (a.eval y).cells.toList 0 cs w o4 (by rw [o2]; omega) (fun v hv => by
  obtain ⟨v0,_,r⟩ := h2.mem_right hv
  exact r.one_right)
 simp only [Nat.add_zero,o2,Nat.zero_add] at hst
 rw [<- setL_eq _ _ _ (by simp only [Array.length_toList] at hlen ⊢; omega)] at hst
 refine ⟨undef,w.setRow mb.blk (setL cs.toList ad.off (a.eval y).cells.toList).toArray,m,.inr ⟨?_,rfl⟩,MM.agree.refl _ _,?_,VR.mono (m := fun _ => none) (fun b x hx => by cases hx) (.inr ⟨#[],#[],rfl,rfl,All2.nil⟩),?_,by simp⟩
 ·have hsz : (a.eval y).cells.size = i.size := by simpa using hlen
  simp [execOp,ho,hax,Instr.storeAt,Instr.sureAddr,storeVar,sizeOf,typeInfo,hi,hsz,o2,hst]
 ·refine s.upd hlo hm hk hs (by intro h0; rw [h0] at hle; simp at hle; omega) _ (setL_length _ _ _) _ (setRow_size _ _ _) (setRow_heap w _ _ _ _ _ o4) (fun c hc => setRow_other w _ _ _ hc) (by simp [setL_length,o5]) ?_
  intro j v hj
  have hall : All2 (VR1 m) k.cells (cs.toList.take k.cells.length) := by
   refine ⟨by simp only [List.length_take,Array.length_toList]; omega,fun i x hx => ?_⟩
   obtain ⟨v',q1,q2⟩ := c2 i x hx
   have hi' := (List.getElem?_eq_some_iff.1 hx).1
   rw [o2,Nat.zero_add] at q1
   exact ⟨v',by rw [List.getElem?_take,if_pos hi']; simpa using q1,q2⟩
  obtain ⟨v',q1,q2⟩ := (All2.setL ad.off h2 hall).2 j v hj
  refine ⟨v',?_,q2⟩
  have hjl : j < k.cells.length := by have := (List.getElem?_eq_some_iff.1 hj).1; rwa [setL_length] at this
  rw [setL_eq _ _ _ (by rw [hlen,List.length_take,Array.length_toList]; omega)] at q1
  simp only [List.getElem?_toArray]
  rw [setL_eq _ _ _ (by rw [hlen,Array.length_toList]; omega)]
  rw [<- q1]
  simp only [List.getElem?_append,List.length_append,List.length_take,List.getElem?_take,List.getElem?_drop,Array.length_toList]
  have e1 : min ad.off (min k.cells.length cs.size) = ad.off := by omega
  have e2 : min ad.off cs.size = ad.off := by omega
  rw [e1,e2]
  repeat' split
  all_goals first | rfl | (exfalso; omega) | omega
 ·exact ⟨rfl,rfl,rfl,by simp,fun c hc => setRow_other w _ _ _ (fun e => o1 (e ▸ hc))⟩
theorem does_nilck {x : Operand} (ho : o.op = .nilCheck x) {x' : Opd} (hx : cOpd x = some x')
  (hp : (∃ ad,x'.ev e = .pointer (some ad)) \/ ∃ g f c,x'.ev e = .func (.func g) f c) (s : Sim lo base m H w.heap) (u : OkU m e a o.op.operands) : OpDoes P o a w lo base m H (x'.ev e) H := by
 have h1 := u.ev (x := x) (by simp [ho,Op.operands]) hx
 refine OpDoes.still s (v' := a.eval x) ?_ h1
 rcases hp with ⟨ad,hp⟩ | ⟨g,f,c,hp⟩
 ·rw [hp] at h1
  obtain ⟨mb,_,_,hax⟩ := h1.ptr
  simp [execOp,ho,hax]
 ·rw [hp] at h1
  obtain ⟨f',c',hax,_⟩ := h1.func
  simp [execOp,ho,hax]
theorem does_un {op : UnOp} {t : TypeId} {x : Operand} (ho : o.op = .unOp op t x) {x' : Opd} (hx : cOpd x = some x') (hv : unV op (x'.ev e) = some v)
  (s : Sim lo base m H w.heap) (u : OkU m e a o.op.operands) : OpDoes P o a w lo base m H v H := by
 have h1 := u.ev (x := x) (by simp [ho,Op.operands]) hx
 unfold unV at hv
 split at hv
 ·rename_i b he
  cases hv
  rw [he] at h1
  refine OpDoes.still s (v' := .bool (!b)) ?_ (VR.of0 rfl)
  simp [execOp,ho,h1.bool,Op.unary]
 ·rename_i k n he
  cases hv
  rw [he] at h1
  refine OpDoes.still s (v' := .int k (k.wrap (0 - n))) ?_ (VR.of0 rfl)
  simp [execOp,ho,h1.int,Op.unary,Op.intArith]
 ·cases hv
theorem does_conv {sT dT : TypeId} {x : Operand} (ho : o.op = .convert sT dT x) {d : TypeDesc} (hs : P.underlying sT = some d) {k : IntKind} (hd : P.underlying dT = some (.int k)) {x' : Opd} (hx : cOpd x = some x')
  {k0 : IntKind} {n : Int} (he : x'.ev e = .int k0 n) (s : Sim lo base m H w.heap) (u : OkU m e a o.op.operands) : OpDoes P o a w lo base m H (.int k (k.wrap n)) H := by
 have h1 := u.ev (x := x) (by simp [ho,Op.operands]) hx
 rw [he] at h1
 refine OpDoes.still s (v' := .int k (k.wrap n)) ?_ (VR.of0 rfl)
 cases d <;> simp [execOp,ho,h1.int,convert,run_underlying hs,run_underlying hd,Conv.intToInt]
theorem does_fad {sT : TypeId} {x : Operand} {f : Nat} (ho : o.op = .fieldAddr sT x f) {fs : Array Field} (hu : P.underlying sT = some (.struct fs)) {fd : Field} (hf : fs[f]? = some fd) {i : TypeInfo} (hi : P.info? fd.type = some i)
  (h0 : i.size ≠ 0) {x' : Opd} (hx : cOpd x = some x') {ad : Addr} (he : x'.ev e = .pointer (some ad)) (s : Sim lo base m H w.heap) (u : OkU m e a o.op.operands) :
  OpDoes P o a w lo base m H (ptr ad.block (ad.off + fd.offset)) H := by
 have h1 := u.ev (x := x) (by simp [ho,Op.operands]) hx
 rw [he] at h1
 obtain ⟨mb,hm,_,hax⟩ := h1.ptr
 refine OpDoes.still s (v' := .pointer (some ⟨mb.blk,mb.off + ad.off + fd.offset,none⟩)) ?_ (VR.of0 ⟨mb,hm,rfl,by simp [Nat.add_assoc]⟩)
 simp [execOp,ho,hax,Instr.fieldAt,run_underlying hu,hf,Instr.sureAddr,fieldPlace,sizeOf,typeInfo,hi,h0,Addr.add_lit]
theorem does_fld {sT : TypeId} {x : Operand} {f : Nat} (ho : o.op = .field sT x f) {fs : Array Field} (hu : P.underlying sT = some (.struct fs)) {fd : Field} (hf : fs[f]? = some fd) {i : TypeInfo} (hi : P.info? fd.type = some i)
  {d : TypeDesc} (hd : P.underlying fd.type = some d) (h1 : isAggD d = true \/ i.size = 1) {x' : Opd} (hx : cOpd x = some x') {cs : Array Value} (he : x'.ev e = .agg cs) (hle : fd.offset + i.size <= cs.toList.length)
  (hv : valOf (isAggD d) ((cs.toList.drop fd.offset).take i.size) = some v) (s : Sim lo base m H w.heap) (u : OkU m e a o.op.operands) : OpDoes P o a w lo base m H v H := by
 have h2 := u.ev (x := x) (by simp [ho,Op.operands]) hx
 rw [he] at h2
 obtain ⟨cs',hax,hr⟩ := h2.agg
 obtain ⟨v',h5,h6⟩ := valOf_does ((hr.drop fd.offset).take i.size) hv
 refine OpDoes.still s (v' := v') ?_ h5
 have hl : cs'.size = cs.size := by have := hr.1; simpa using this.symm
 cases hagg : isAggD d with
 | true =>
   rw [hagg] at h6
   simp only [if_true] at h6
   subst h6
   have hia : (isAgg fd.type).run P w = .ok true w := by
    simp only [isAgg,Sem.run_bind,run_underlying hd,Result.andThen_ok]
    cases d <;> simp [isAggD] at hagg <;> rfl
   have hex : cs'.extract fd.offset (fd.offset + i.size) = (List.take i.size (List.drop fd.offset cs'.toList)).toArray := by
    apply Array.ext'
    simp [Array.toList_extract,List.extract_eq_take_drop]
   simp [execOp,ho,hax,Instr.field,run_underlying hu,hf,asAgg,part,hia,sizeOf,typeInfo,hi,hex]
 | false =>
   rw [hagg] at h6
   simp only [Bool.false_eq_true,if_false] at h6
   have hia : (isAgg fd.type).run P w = .ok false w := by
    simp only [isAgg,Sem.run_bind,run_underlying hd,Result.andThen_ok]
    cases d <;> simp [isAggD] at hagg <;> rfl
   have hc : cs'[fd.offset]? = some v' := by
    have := congrArg (fun l => l[0]?) h6
    rcases h1 with h1 | h1
    ·rw [hagg] at h1; cases h1
    ·simpa [List.getElem?_take,h1] using this
   simp [execOp,ho,hax,Instr.field,run_underlying hu,hf,asAgg,part,hia,hc]
theorem does_iad {t el : TypeId} {x y : Operand} (ho : o.op = .indexAddr t x y) (hu : P.underlying t = some (.slice el)) {i : TypeInfo} (hi : P.info? el = some i) {x' y' : Opd} (hx : cOpd x = some x') (hy : cOpd y = some y')
  {ad : Addr} {n c' : Nat} (he : x'.ev e = .slice (some ad) n c') {k : IntKind} {j : Int} (hj : y'.ev e = .int k j) (h0 : 0 <= j) (hn : j < n) (s : Sim lo base m H w.heap) (u : OkU m e a o.op.operands) :
  OpDoes P o a w lo base m H (ptr ad.block (ad.off + j.toNat * i.size)) H := by
 have h1 := u.ev (x := x) (by simp [ho,Op.operands]) hx
 have h2 := u.ev (x := y) (by simp [ho,Op.operands]) hy
 rw [he] at h1
 rw [hj] at h2
 obtain ⟨mb,hm,_,c1,hax,_⟩ | ⟨hz,_⟩ := h1.sl
 ·refine OpDoes.still s (v' := .pointer (some ⟨mb.blk,mb.off + ad.off + j.toNat * i.size,none⟩)) ?_ (VR.of0 ⟨mb,hm,rfl,by simp [Nat.add_assoc]⟩)
  simp [execOp,ho,hax,h2.int,Instr.indexAt,asIntOf,run_underlying hu,h0,hn,sizeOf,typeInfo,hi,Addr.add_lit]
 ·omega
theorem does_ext {x : Operand} {i : Nat} (ho : o.op = .extract x i) {x' : Opd} (hx : cOpd x = some x') {vs : Array Value} (he : x'.ev e = .tuple vs) (hv : vs.toList[i]? = some v)
  (s : Sim lo base m H w.heap) (u : OkU m e a o.op.operands) : OpDoes P o a w lo base m H v H := by
 have h1 := u.ev (x := x) (by simp [ho,Op.operands]) hx
 rw [he] at h1
 obtain ⟨vs',hax,hr⟩ := h1.tup
 obtain ⟨v',h2,h3⟩ := hr.2 i v hv
 refine OpDoes.still s (v' := v') ?_ (.inl h3)
 have h2' : vs'[i]? = some v' := by simpa using h2
 simp [execOp,ho,hax,Instr.extract,h2']
theorem does_len {x : Operand} {t : TypeId} {ts : Array TypeId} (ho : o.op = .call ⟨.builtin .len,#[x],ts⟩) (ht : ts[0]? = some t) {el : TypeId} (hu : P.underlying t = some (.slice el)) {x' : Opd} (hx : cOpd x = some x')
  {ad : Option Addr} {n c' : Nat} (he : x'.ev e = .slice ad n c') (s : Sim lo base m H w.heap) (u : OkU m e a o.op.operands) : OpDoes P o a w lo base m H (.int .i64 n) H := by
 have h1 := u.ev (x := x) (by simp [ho,Op.operands,Call.operands]) hx
 rw [he] at h1
 refine OpDoes.still s (v' := .int .i64 n) ?_ (VR.of0 rfl)
 have hs : ∃ A c1,a.eval x = .slice A n c1 := by
  cases ad with
  | none => obtain ⟨rfl,h⟩ := h1.slN; exact ⟨_,_,h⟩
  | some ad =>
    obtain ⟨mb,_,_,c1,hax,_⟩ | ⟨rfl,_,A,c1,hax⟩ := h1.sl
    ·exact ⟨_,_,hax⟩
    ·exact ⟨_,_,hax⟩
 obtain ⟨A,c1,hax⟩ := hs
 simp [execOp,ho,resolve,hax,invoke,builtin,Builtin.len_,ht,run_underlying hu,goInt]
theorem does_max {x y : Operand} {ts : Array TypeId} (ho : o.op = .call ⟨.builtin .max,#[x,y],ts⟩) {x' y' : Opd} (hx : cOpd x = some x') (hy : cOpd y = some y') {k k' : IntKind} {p q : Int}
  (he : x'.ev e = .int k p) (hf : y'.ev e = .int k' q) (s : Sim lo base m H w.heap) (u : OkU m e a o.op.operands) : OpDoes P o a w lo base m H (.int k (if q > p then q else p)) H := by
 have h1 := u.ev (x := x) (by simp [ho,Op.operands,Call.operands]) hx
 have h2 := u.ev (x := y) (by simp [ho,Op.operands,Call.operands]) hy
 rw [he] at h1
 rw [hf] at h2
 refine OpDoes.still s (v' := .int k (if q > p then q else p)) ?_ (VR.of0 rfl)
 simp [execOp,ho,resolve,h1.int,h2.int,invoke,builtin,Builtin.max_,Builtin.max2]
theorem does_bin {op : BinOp} {t ty : TypeId} {x y : Operand} (ho : o.op = .binOp op t x y ty) {x' y' : Opd} (hx : cOpd x = some x') (hy : cOpd y = some y') (hv : binV op (x'.ev e) (y'.ev e) = some v)
  (s : Sim lo base m H w.heap) (u : OkU m e a o.op.operands) : OpDoes P o a w lo base m H v H := by
 have h1 := u.ev (x := x) (by simp [ho,Op.operands]) hx
 have h2 := u.ev (x := y) (by simp [ho,Op.operands]) hy
 unfold binV at hv
 split at hv
 case h_2 => cases hv
 case h_1 k p k' q hp hq =>
  rw [hp] at h1
  rw [hq] at h2
  have e1 := h1.int
  have e2 := h2.int
  by_cases hk : shiftOp op = true \/ k = k'
  case neg => rw [if_neg hk] at hv; cases hv
  case pos =>
   rw [if_pos hk] at hv
   cases op <;> simp only [binI] at hv
   case quo =>
    split at hv
    ·cases hv
    ·rename_i hq0
     cases hv
     refine OpDoes.still s ?_ (VR.of0 rfl)
     simp [shiftOp] at hk
     subst hk
     simp [execOp,ho,e1,e2,eqGuard,binOp,Op.intDiv,hq0]
   case rem =>
    split at hv
    ·cases hv
    ·rename_i hq0
     cases hv
     refine OpDoes.still s ?_ (VR.of0 rfl)
     simp [shiftOp] at hk
     subst hk
     simp [execOp,ho,e1,e2,eqGuard,binOp,Op.intDiv,hq0]
   case shl =>
    split at hv
    ·cases hv
    ·rename_i hq0
     cases hv
     refine OpDoes.still s ?_ (VR.of0 rfl)
     simp [execOp,ho,e1,e2,eqGuard,binOp,Op.shift,hq0]
   case shr =>
    split at hv
    ·cases hv
    ·rename_i hq0
     cases hv
     refine OpDoes.still s ?_ (VR.of0 rfl)
     simp [execOp,ho,e1,e2,eqGuard,binOp,Op.shift,hq0]
   all_goals
    cases hv
    refine OpDoes.still s ?_ (VR.of0 rfl)
    simp [shiftOp] at hk
    subst hk
    simp [execOp,ho,e1,e2,eqGuard,binOp,Op.intArith,Op.intBits,Op.intCmp]
theorem does_beq {op : BinOp} {t ty : TypeId} {x y : Operand} (ho : o.op = .binOp op t x y ty) (hu : P.underlying t = some .bool) (hop : op = .eql \/ op = .neq) {x' y' : Opd} (hx : cOpd x = some x') (hy : cOpd y = some y')
  {p q : Bool} (hp : x'.ev e = .bool p) (hq : y'.ev e = .bool q) (s : Sim lo base m H w.heap) (u : OkU m e a o.op.operands) :
  OpDoes P o a w lo base m H (.bool (if isNeq op then !(p == q) else p == q)) H := by
 have h1 := u.ev (x := x) (by simp [ho,Op.operands]) hx
 have h2 := u.ev (x := y) (by simp [ho,Op.operands]) hy
 rw [hp] at h1
 rw [hq] at h2
 refine OpDoes.still s (v' := .bool (if isNeq op then !(p == q) else p == q)) ?_ (VR.of0 rfl)
 rcases hop with rfl | rfl <;> simp [execOp,ho,h1.bool,h2.bool,eqGuard,binOp,run_equal_bool w t _ _ hu,isNeq]
theorem eqCells_eqFields (d : Nat) : ∀ (fs : List Field) (j : Nat) (xs ys : Array Value) (r : Bool),
  ((fs.zipIdx j).all fun (f, j) => f.name != "_" && f.offset == j && (P.underlying f.type matches some (.int _)) && (P.info? f.type).any (·.size == 1)) = true →
  eqCells (xs.toList.drop j) (ys.toList.drop j) = some r -> xs.size = j + fs.length -> ys.size = j + fs.length -> (Op.eqFields (d + 1) xs ys fs).run P w = .ok r w
 | [],j,xs,ys,r,_,he,hx,hy => by
   simp only [List.length_nil] at hx hy
   rw [List.drop_eq_nil_of_le (by simp; omega),List.drop_eq_nil_of_le (by simp; omega)] at he
   simp only [eqCells,Option.some.injEq] at he
   subst he
   simp [Op.eqFields]
 | f :: fs,j,xs,ys,r,hall,he,hx,hy => by
   simp only [List.zipIdx_cons,List.all_cons,Bool.and_eq_true,bne_iff_ne,ne_eq,beq_iff_eq] at hall
   obtain ⟨⟨⟨⟨hn,hoff⟩,hint⟩,_⟩,hrest⟩ := hall
   simp only [List.length_cons] at hx hy
   obtain ⟨k,hk⟩ : ∃ k,P.underlying f.type = some (.int k) := by
    revert hint
    cases hq : P.underlying f.type with
    | none => simp
    | some d => cases d <;> simp
   have hxj : xs.toList.drop j = xs[j]'(by omega) :: xs.toList.drop (j + 1) := by
    rw [List.drop_eq_getElem_cons (by simp; omega)]; simp
   have hyj : ys.toList.drop j = ys[j]'(by omega) :: ys.toList.drop (j + 1) := by
    rw [List.drop_eq_getElem_cons (by simp; omega)]; simp
   rw [hxj,hyj] at he
   have hia : (isAgg f.type).run P w = .ok false w := by
    simp only [isAgg,Sem.run_bind,run_underlying hk,Result.andThen_ok]; rfl
   have hpx : (part f.type xs f.offset).run P w = .ok (xs[j]'(by omega)) w := by
    simp [part,hia,hoff,Array.getElem?_eq_getElem (show j < xs.size by omega)]
   have hpy : (part f.type ys f.offset).run P w = .ok (ys[j]'(by omega)) w := by
    simp [part,hia,hoff,Array.getElem?_eq_getElem (show j < ys.size by omega)]
   generalize xs[j]'(by omega) = vx at he hpx
   generalize ys[j]'(by omega) = vy at he hpy
   obtain ⟨k1,p,q,ys1,r',rfl,h2,hr',rfl⟩ := eqCells_cons he
   simp only [List.cons.injEq] at h2
   obtain ⟨rfl,rfl⟩ := h2
   have ih := eqCells_eqFields d fs (j + 1) xs ys r' hrest hr' (by omega) (by omega)
   have hq := run_equalIn_int (P := P) w d f.type k1 k p q hk
   by_cases hpq : p = q
   ·subst hpq
    simp [Op.eqFields,hn,hpx,hpy,hq,ih]
   ·have : (p == q) = false := by simpa using hpq
    simp [Op.eqFields,hn,hpx,hpy,hq,this]
theorem does_eqs {op : BinOp} {t ty : TypeId} {x y : Operand} (ho : o.op = .binOp op t x y ty) {fs : Array Field} (hu : P.underlying t = some (.struct fs)) (hop : op = .eql \/ op = .neq) (hfl : flatInts P fs = true)
  (hst : P.stoodInHeld t = false) (hg : P.eqGuardType P.depth t = false) {x' y' : Opd} (hx : cOpd x = some x') (hy : cOpd y = some y') {p q : Array Value} (hp : x'.ev e = .agg p) (hq : y'.ev e = .agg q)
  (hpl : p.toList.length = fs.size) (hql : q.toList.length = fs.size) {r : Bool} (hr : eqCells p.toList q.toList = some r) (s : Sim lo base m H w.heap) (u : OkU m e a o.op.operands) :
  OpDoes P o a w lo base m H (.bool (if isNeq op then !r else r)) H := by
 have h1 := u.ev (x := x) (by simp [ho,Op.operands]) hx
 have h2 := u.ev (x := y) (by simp [ho,Op.operands]) hy
 rw [hp] at h1
 rw [hq] at h2
 obtain ⟨p',e1,r1⟩ := h1.agg
 obtain ⟨q',e2,r2⟩ := h2.agg
 have heq : ∀ (xs xs' ys ys' : List Value) (r : Bool),All2 (VR1 m) xs xs' -> All2 (VR1 m) ys ys' -> eqCells xs ys = some r -> eqCells xs' ys' = some r := by
  intro xs
  induction xs with
  | nil =>
    intro xs' ys ys' r h1 h2 h
    cases ys with
    | nil =>
      have := h1.1; have := h2.1
      cases xs' <;> cases ys' <;> simp_all
    | cons => simp [eqCells] at h
  | cons v xs ih =>
    intro xs' ys ys' r h1 h2 h
    obtain ⟨k1,p,q,ys1,r',rfl,rfl,hr',rfl⟩ := eqCells_cons h
    cases xs' with
    | nil => have := h1.1; simp at this
    | cons v1 xs' =>
      cases ys' with
      | nil => have := h2.1; simp at this
      | cons v2 ys' =>
        obtain ⟨y1,w1,w2⟩ := h1.2 0 _ rfl
        obtain ⟨y2,w3,w4⟩ := h2.2 0 _ rfl
        simp only [List.getElem?_cons_zero,Option.some.injEq] at w1 w3
        subst w1 w3
        have e1 := (VR.of1 w2).int
        have e2 := (VR.of1 w4).int
        subst e1 e2
        have := ih xs' ys1 ys' r' ⟨by simpa using h1.1,fun i z hz => h1.2 (i + 1) z (by simpa using hz)⟩ ⟨by simpa using h2.1,fun i z hz => h2.2 (i + 1) z (by simpa using hz)⟩ hr'
        simp [eqCells,this]
 have hr' := heq _ _ _ _ r r1 r2 hr
 refine OpDoes.still s (v' := .bool (if isNeq op then !r else r)) ?_ (VR.of0 rfl)
 have hfo : P.fieldsOf t = fs := by simp [Program.fieldsOf,hu]
 have hsz1 : p'.size = fs.size := by have := r1.1; simp at this hpl; omega
 have hsz2 : q'.size = fs.size := by have := r2.1; simp at this hql; omega
 have hrun : (Op.equalIn 10000 t (.agg p') (.agg q')).run P w = .ok r w := by
  rw [run_equalIn_struct w 9999 t p' q' (by rw [hfo]; exact hu) hst,hfo]
  refine eqCells_eqFields 9998 fs.toList 0 p' q' r ?_ (by simpa using hr') (by simpa using hsz1) (by simpa using hsz2)
  unfold flatInts at hfl
  simpa using hfl
 rcases hop with rfl | rfl
 ·simp [execOp,ho,e1,e2,run_eqGuard_agg w .eql t x y p' q' hg,run_eql_struct,hrun,isNeq]
 ·simp [execOp,ho,e1,e2,run_eqGuard_agg w .neq t x y p' q' hg,run_neq_struct,hrun,isNeq]
theorem sim0_VR0 {m : MM} {v v' : Value} (h : sim0 v = true) (r : VR m v v') : VR0 m v v' := by
 rcases r.to1 (by cases v <;> first | rfl | (simp [sim0] at h)) with r | ⟨g,f,c,f',c',rfl,_⟩
 ·exact r
 ·simp [sim0] at h
theorem cOpds_does : ∀ (xs : List Operand) (xs' : List Opd),cOpds xs = some xs' -> (∀ t,Operand.tmp t ∈ xs -> VR m (e t) (a.eval (.tmp t))) ->
  All2 (VR m) (xs'.map (·.ev e)) (xs.map a.eval)
 | [],xs',h,_ => by simp only [cOpds,Option.some.injEq] at h; subst h; exact All2.nil
 | x :: xs,xs',h,hu => by
   simp only [cOpds,Option.bind_eq_some_iff,Option.map_eq_some_iff] at h
   obtain ⟨x',hx,xs1,h1,rfl⟩ := h
   refine All2.cons ?_ (cOpds_does xs xs1 h1 fun t ht => hu t (by simp [ht]))
   cases x with
   | tmp t => cases hx; exact hu t (by simp)
   | const v => exact OkU.ev (xs := #[.const v]) (fun t ht => by simp at ht) (by simp) hx
   | func f => exact OkU.ev (xs := #[.func f]) (fun t ht => by simp at ht) (by simp) hx
   | global g => cases hx
theorem does_mkf {f : Nat} {xs ys : Array Operand} (ho : o.op = .makeFunc (.func f) xs ys) {xs' ys' : List Opd} (hx : cOpds xs.toList = some xs') (hy : cOpds ys.toList = some ys')
  (h1 : (xs'.map (·.ev e)).all sim0 = true) (h2 : (ys'.map (·.ev e)).all sim0 = true) (s : Sim lo base m H w.heap) (u : OkU m e a o.op.operands) :
  OpDoes P o a w lo base m H (.func (.func f) (xs'.map (·.ev e)).toArray (ys'.map (·.ev e)).toArray) H := by
 have r1 := cOpds_does (e := e) (m := m) (a := a) xs.toList xs' hx (fun t ht => u t (by simp [ho,Op.operands]; exact .inl (by simpa using ht)))
 have r2 := cOpds_does (e := e) (m := m) (a := a) ys.toList ys' hy (fun t ht => u t (by simp [ho,Op.operands]; exact .inr (by simpa using ht)))
 refine OpDoes.still s (v' := .func (.func f) (xs.map a.eval) (ys.map a.eval)) ?_ (VR.of1 (.inr ⟨f,_,_,_,_,rfl,rfl,?_,?_⟩))
 ·simp [execOp,ho,Instr.makeFunc]
 ·simpa [Array.toList_map] using r1.mono fun x y hm r => sim0_VR0 (List.all_eq_true.1 h1 _ hm) r
 ·simpa [Array.toList_map] using r2.mono fun x y hm r => sim0_VR0 (List.all_eq_true.1 h2 _ hm) r
theorem get_flatten_replicate (z : List Value) : ∀ (n j : Nat) (v : Value),((List.replicate n z).flatten)[j]? = some v -> 0 < z.length /\ j < n * z.length /\ z[j % z.length]? = some v
 | 0,j,v,h => by simp at h
 | n + 1,j,v,h => by
   simp only [List.replicate_succ,List.flatten_cons,List.getElem?_append] at h
   split at h
   ·rename_i hj
    refine ⟨by omega,by rw [Nat.succ_mul]; omega,?_⟩
    rw [Nat.mod_eq_of_lt hj]; exact h
   ·rename_i hj
    obtain ⟨h1,h2,h3⟩ := get_flatten_replicate z n _ v h
    refine ⟨h1,by rw [Nat.succ_mul]; omega,?_⟩
    rw [Nat.mod_eq_sub_mod (by omega)]
    exact h3
theorem does_mks {t el : TypeId} {x y : Operand} (ho : o.op = .makeSlice t x y) (hu : P.underlying t = some (.slice el)) {i : TypeInfo} (hi : P.info? el = some i) {z : Value} (hz : i.zero = some z)
  (hpos : 0 < i.size) (hc : z.cells.toList.all okC = true) (hsz : z.cells.size = i.size) {x' y' : Opd} (hx : cOpd x = some x') (hy : cOpd y = some y') {k k' : IntKind} {n : Int} (hp : x'.ev e = .int k n) (hq : y'.ev e = .int k' n)
  (h0 : 0 <= n) (hb : n * i.bytes <= 140737488355328) (h63 : n <= 9223372036854775807) (s : Sim lo base m H w.heap) (u : OkU m e a o.op.operands) :
  OpDoes P o a w lo base m H (sli H.length 0 n.toNat) (H ++ [⟨(List.replicate n.toNat z.cells.toList).flatten,i.size,el,true,true⟩]) := by
 have h1 := u.ev (x := x) (by simp [ho,Op.operands]) hx
 have h2 := u.ev (x := y) (by simp [ho,Op.operands]) hy
 rw [hp] at h1
 rw [hq] at h2
 have hr := run_make (P := P) w t el i z hu hi hz k k' n n h0 (Int.le_refl _) (by rw [Int.mul_comm]; omega) h63
 have key := OpDoes.newB (P := P) (o := o) (a := a) (base := base) s ⟨(List.replicate n.toNat z.cells.toList).flatten,i.size,el,true,true⟩ (madeCells z.cells (n.toNat * i.size)) el n.toNat n.toNat true
  ⟨w,rfl,Kept.refl _ _,?_⟩ ?_ (fun _ => rfl) ?_ (fun _ => ⟨Nat.le_refl _,by rw [size_madeCells]; exact Nat.le_refl _⟩)
 ·simpa using key
 ·simp [execOp,ho,h1.int,h2.int,hr]
 ·intro j v hj
  obtain ⟨q1,q2,q3⟩ := get_flatten_replicate _ _ _ _ hj
  simp only [Array.length_toList] at q1 q2 q3
  refine ⟨v,?_,VR1.okC (List.all_eq_true.1 hc _ (List.mem_of_getElem? q3))⟩
  have hlt : j % z.cells.size < z.cells.size := Nat.mod_lt _ q1
  unfold madeCells
  rw [Array.getElem?_map,Array.getElem?_range]
  rw [hsz] at q2
  rw [if_pos q2]
  simp only [Option.map_some,Option.some.injEq]
  rw [getElem!_pos z.cells _ hlt]
  have : z.cells[j % z.cells.size]? = some v := by simpa using q3
  rw [Array.getElem?_eq_getElem hlt] at this
  simpa using this
 ·intro _ h
  rw [size_madeCells]
  have h3 := congrArg List.length (show (List.replicate n.toNat z.cells.toList).flatten = [] from h)
  simp only [List.length_flatten,List.map_replicate,List.sum_replicate_nat,Array.length_toList,List.length_nil,hsz] at h3
  exact h3
theorem bound_does {n d : Nat} {cap : Nat} (hn : n <= cap) {x : Option Operand} {x' : Option Opd} (hx : cOptO x = some x') {r : Nat} (hr : subB n e d x' = some r) (hu : ∀ t,x = some (.tmp t) -> VR m (e t) (a.eval (.tmp t))) :
  (x = none /\ r = d) \/ ∃ y k i,x = some y /\ a.eval y = .int k i /\ 0 <= i /\ i <= n /\ r = i.toNat := by
 cases x with
 | none => cases hx; simp only [subB,Option.some.injEq] at hr; exact .inl ⟨rfl,hr.symm⟩
 | some x =>
   simp only [cOptO,Option.map_eq_some_iff] at hx
   obtain ⟨y',hy,rfl⟩ := hx
   have hv : VR m (y'.ev e) (a.eval x) := by
    cases x with
    | tmp t => cases hy; exact hu t rfl
    | const v => exact OkU.ev (xs := #[.const v]) (fun t ht => by simp at ht) (by simp) hy
    | func f => exact OkU.ev (xs := #[.func f]) (fun t ht => by simp at ht) (by simp) hy
    | global g => cases hy
   simp only [subB] at hr
   split at hr
   ·rename_i k i he
    rw [he] at hv
    split at hr
    ·rename_i hb
     simp only [Option.some.injEq] at hr
     exact .inr ⟨x,k,i,rfl,hv.int,hb.1,hb.2,hr.symm⟩
    ·cases hr
   ·cases hr
theorem does_sub {t el : TypeId} {x : Operand} {l h : Option Operand} (ho : o.op = .slice t x l h none) (hu : P.underlying t = some (.slice el)) {i : TypeInfo} (hi : P.info? el = some i) (hpos : 0 < i.size)
  {x' : Opd} {l' h' : Option Opd} (hx : cOpd x = some x') (hl : cOptO l = some l') (hh : cOptO h = some h') {ad : Option Addr} {n c' : Nat} (he : x'.ev e = .slice ad n c') {hi' lo' : Nat}
  (h1 : subB n e n h' = some hi') (h2 : subB hi' e 0 l' = some lo') (s : Sim lo base m H w.heap) (u : OkU m e a o.op.operands) :
  OpDoes P o a w lo base m H (.slice (ad.map fun a => ⟨a.block,a.off + lo' * i.size,none⟩) (hi' - lo') (hi' - lo')) H := by
 have hv := u.ev (x := x) (by simp [ho,Op.operands]) hx
 rw [he] at hv
 have hhi : hi' <= n := by
  rcases bound_does (a := a) (m := m) (Nat.le_refl n) hh h1 (fun t ht => u t (by simp [ho,Op.operands,ht])) with ⟨_,rfl⟩ | ⟨y,k,j,_,_,q1,q2,rfl⟩ <;> omega
 have hlo : lo' <= hi' := by
  rcases bound_does (a := a) (m := m) (Nat.le_refl hi') hl h2 (fun t ht => u t (by simp [ho,Op.operands,ht])) with ⟨_,rfl⟩ | ⟨y,k,j,_,_,q1,q2,rfl⟩ <;> omega
 have hrun : ∀ (A : Option Addr) (c1 : Nat),n <= c1 -> a.eval x = .slice A n c1 ->
   (execOp a.eval o).run P w = .ok (.value (.slice (if c1 = lo' then A else A.map (·.add (lo' * i.size))) (hi' - lo') (c1 - lo'))) w := by
  intro A c1 hc hax
  have b1 := bound_does (a := a) (m := m) hc hh h1 (fun t ht => u t (by simp [ho,Op.operands,ht]))
  have b2 := bound_does (a := a) (m := m) (Nat.le_refl hi') hl h2 (fun t ht => u t (by simp [ho,Op.operands,ht]))
  have hsb : (Instr.sliceBounds true n c1 (l.map a.eval) (h.map a.eval) none).run P w = .ok (lo',hi',c1) w := by
   rcases b1 with ⟨rfl,rfl⟩ | ⟨y,k,j,rfl,ey,q1,q2,rfl⟩
   ·rcases b2 with ⟨rfl,rfl⟩ | ⟨y2,k2,j2,rfl,ey2,q3,q4,rfl⟩
    ·simp [Instr.sliceBounds]
    ·simp [Instr.sliceBounds,ey2,run_sliceBound w k2 j2 _ _ q3 q4]
   ·rcases b2 with ⟨rfl,rfl⟩ | ⟨y2,k2,j2,rfl,ey2,q3,q4,rfl⟩
    ·simp [Instr.sliceBounds,ey,run_sliceBound w k j c1 _ q1 (by omega)]
    ·simp [Instr.sliceBounds,ey,ey2,run_sliceBound w k j c1 _ q1 (by omega),run_sliceBound w k2 j2 _ _ q3 q4]
  simp [execOp,ho,hax,Instr.sliceAt,Instr.slice,run_underlying hu,hsb,sizeOf,typeInfo,hi]
 cases ad with
 | none =>
   obtain ⟨rfl,hax⟩ := hv.slN
   have h00 : hi' = 0 := by omega
   subst h00
   have h01 : lo' = 0 := by omega
   subst h01
   refine OpDoes.still s (hrun none 0 (Nat.le_refl _) hax) ?_
   exact VR.of0 ⟨rfl,by simp⟩
 | some ad =>
   obtain ⟨mb,hm,_,c1,hax,hc,hcp⟩ | ⟨rfl,hoff,A,c1,hax⟩ := hv.sl
   ·refine OpDoes.still s (hrun _ c1 hc hax) (VR.of0 ?_)
    rcases Nat.eq_zero_or_pos lo' with h0 | hp
    ·subst h0
     left
     refine ⟨mb,hm,rfl,c1 - 0,?_,by omega,fun h0 => by simpa using hcp (by simpa using h0)⟩
     simp only [Nat.zero_mul,Nat.add_zero,Addr.add_zero',Option.map_some,ite_self]
    ·rcases Nat.eq_zero_or_pos (hi' - lo') with h0 | hp2
     ·right
      refine ⟨h0,?_,_,_,by rw [h0]⟩
      have : 0 < lo' * i.size := Nat.mul_pos hp hpos
      show 0 < ad.off + lo' * i.size
      omega
     ·left
      refine ⟨mb,hm,rfl,c1 - lo',?_,by omega,fun h0 => ?_⟩
      ·rw [if_neg (by omega)]
       simp [Addr.add_lit,Nat.add_assoc]
      ·have : 0 < lo' * i.size := Nat.mul_pos hp hpos
       have h0' : ad.off + lo' * i.size = 0 := h0
       omega
   ·have h00 : hi' = 0 := by omega
    subst h00
    have h01 : lo' = 0 := by omega
    subst h01
    refine OpDoes.still s (hrun A c1 (by omega) hax) (VR.of0 (.inr ⟨by simp,by simpa using hoff,_,_,rfl⟩))
theorem does_app_none {x y : Operand} {t el : TypeId} (ho : o.op = .call ⟨.builtin .append,#[x,y],#[t,t]⟩) (hu : P.underlying t = some (.slice el)) {i : TypeInfo} (hi : P.info? el = some i) {x' y' : Opd} (hx : cOpd x = some x') (hy : cOpd y = some y')
  {ad : Option Addr} {c' : Nat} (he : y'.ev e = .slice ad 0 c') (hsl : ∃ b n c,x'.ev e = .slice b n c) (s : Sim lo base m H w.heap) (u : OkU m e a o.op.operands) : OpDoes P o a w lo base m H (x'.ev e) H := by
 have h1 := u.ev (x := x) (by simp [ho,Op.operands,Call.operands]) hx
 have h2 := u.ev (x := y) (by simp [ho,Op.operands,Call.operands]) hy
 obtain ⟨b,n,c,hxs⟩ := hsl
 refine OpDoes.still s (v' := a.eval x) ?_ h1
 rw [he] at h2
 have hys : ∃ A c1,a.eval y = .slice A 0 c1 := by
  cases ad with
  | none => obtain ⟨_,h⟩ := h2.slN; exact ⟨_,_,h⟩
  | some ad =>
    obtain ⟨mb,_,_,c1,hax,_⟩ | ⟨_,_,A,c1,hax⟩ := h2.sl
    ·exact ⟨_,_,hax⟩
    ·exact ⟨_,_,hax⟩
 obtain ⟨A,c1,hay⟩ := hys
 rw [hxs] at h1
 have hxs' : ∃ A n c1,a.eval x = .slice A n c1 /\ n <= c1 := by
  cases b with
  | none => obtain ⟨_,h⟩ := h1.slN; exact ⟨_,_,_,h,Nat.le_refl _⟩
  | some ad =>
    obtain ⟨mb,_,_,c1,hax,hc,_⟩ | ⟨_,_,A,c1,hax⟩ := h1.sl
    ·exact ⟨_,_,_,hax,hc⟩
    ·exact ⟨_,_,_,hax,Nat.zero_le _⟩
 obtain ⟨A2,n2,c2,hax,hle⟩ := hxs'
 have hf : (Builtin.firstCells i.size 0 (.slice A 0 c1)).run P w = .ok #[] w := by
  cases A <;> simp [Builtin.firstCells,loadCells,loadCellsFrom]
 cases A2 <;> simp [execOp,ho,resolve,hax,hay,invoke,builtin,Builtin.append_,run_underlying hu,sizeOf,typeInfo,hi,Builtin.lenOf,hle,hf,storeCells]
theorem does_app_nil {x y : Operand} {t el : TypeId} (ho : o.op = .call ⟨.builtin .append,#[x,y],#[t,t]⟩) (hu : P.underlying t = some (.slice el)) {i : TypeInfo} (hi : P.info? el = some i) {z : Value} (hz : i.zero = some z) (hpos : 0 < i.size) (hsz : z.cells.size = i.size)
  {x' y' : Opd} (hx : cOpd x = some x') (hy : cOpd y = some y') {ad : Addr} {n m' c c' : Nat} (hm0 : m' ≠ 0) (he : y'.ev e = .slice (some ad) m' c') (hxs : x'.ev e = .slice none n c) {ys : List Value} (hg : getCells H ad.block ad.off (m' * i.size) = some ys)
  (hb : m' * i.bytes <= 140737488355328) (h63 : m' <= 9223372036854775807) (s : Sim lo base m H w.heap) (u : OkU m e a o.op.operands) : OpDoes P o a w lo base m H (sli H.length 0 m') (H ++ [⟨ys,i.size,el,true,true⟩]) := by
 have h1 := u.ev (x := x) (by simp [ho,Op.operands,Call.operands]) hx
 have h2 := u.ev (x := y) (by simp [ho,Op.operands,Call.operands]) hy
 rw [hxs] at h1
 rw [he] at h2
 obtain ⟨_,hax⟩ := h1.slN
 obtain ⟨mb,hmb,_,c1,hay,_⟩ | ⟨h0,_⟩ := h2.sl
 case inr => exact absurd h0 hm0
 obtain ⟨ys',r1,r2,r3⟩ := s.read hg hmb
 have hl : ys'.length = m' * i.size := by rw [<- r1.1,r3]
 have hr := run_append_nil (P := P) w t o.type el i z hu hi hz ⟨mb.blk,mb.off + ad.off,none⟩ m' c1 ys' hl (fun j v hj => by rw [Addr.add_lit]; exact r2 j v hj) (by omega) (by omega) (by omega)
 have hge := grownCap_ge w m' 0 el
 have hysn : ys ≠ [] := fun h => by
  have h1 : m' * i.size = 0 := by rw [<- hl,<- r1.1,h]; rfl
  rcases Nat.mul_eq_zero.1 h1 with h1 | h1 <;> omega
 have hcs : (ys'.toArray ++ Builtin.zeroCells z.cells (grownCap w m' 0 el - m')).size = grownCap w m' 0 el * i.size := by
  rw [Array.size_append,size_zeroCells,hsz]
  simp only [List.size_toArray,hl]
  rw [<- Nat.add_mul]
  congr 1
  omega
 have key := OpDoes.newB (P := P) (o := o) (a := a) (base := base) s ⟨ys,i.size,el,true,true⟩ (ys'.toArray ++ Builtin.zeroCells z.cells (grownCap w m' 0 el - m')) el (grownCap w m' 0 el) m' true
  ⟨w.drew,rfl,(Kept.refl _ _).drew,?_⟩ ?_ (fun _ => rfl) (fun _ h => absurd h hysn) (fun _ => ⟨hge,by show grownCap w m' 0 el * i.size <= _; omega⟩)
 ·simpa using key
 ·simp [execOp,ho,resolve,hax,hay,invoke,builtin,hr]
 ·intro j v hj
  obtain ⟨v',q1,q2⟩ := r1.2 j v hj
  refine ⟨v',?_,q2⟩
  have hjl := (List.getElem?_eq_some_iff.1 q1).1
  rw [Array.getElem?_append_left (by simpa using hjl)]
  simpa using q1
theorem does_app_lit {x y : Operand} {t el : TypeId} (ho : o.op = .call ⟨.builtin .append,#[x,y],#[t,t]⟩) (hu : P.underlying t = some (.slice el)) {i : TypeInfo} (hi : P.info? el = some i) {z : Value} (hz : i.zero = some z) (hpos : 0 < i.size) (hsz : z.cells.size = i.size)
  {x' y' : Opd} (hx : cOpd x = some x') (hy : cOpd y = some y') {ad bd : Addr} {m' c c' : Nat} (hm0 : m' ≠ 0) (he : y'.ev e = .slice (some ad) m' c') (hxs : x'.ev e = .slice (some bd) 0 c) {ys : List Value} (hg : getCells H ad.block ad.off (m' * i.size) = some ys)
  {k : Blk} (hk : H[bd.block]? = some k) (hoff : bd.off = 0) (happ : k.app = true) (hes : k.es = i.size) (hcs0 : k.cells = [])
  (hb : m' * i.bytes <= 140737488355328) (h63 : m' <= 9223372036854775807) (s : Sim lo base m H w.heap) (u : OkU m e a o.op.operands) : OpDoes P o a w lo base m H (sli H.length 0 m') (H ++ [⟨ys,i.size,el,true,true⟩]) := by
 have h1 := u.ev (x := x) (by simp [ho,Op.operands,Call.operands]) hx
 have h2 := u.ev (x := y) (by simp [ho,Op.operands,Call.operands]) hy
 rw [hxs] at h1
 rw [he] at h2
 obtain ⟨xb,hxb,_,cx,hax,hncx,hcpx⟩ | ⟨_,h0,_⟩ := h1.sl
 case inr => omega
 obtain ⟨mb,hmb,_,c1,hay,_⟩ | ⟨h0,_⟩ := h2.sl
 case inr => exact absurd h0 hm0
 obtain ⟨z1,z2,z3⟩ := s.zc bd.block xb k hxb hk happ hcs0
 have hcx : cx = 0 := by
  have h3 := hcpx hoff
  rw [z2,hes,z3] at h3
  have h4 : cx * i.size = 0 := by omega
  rcases Nat.mul_eq_zero.1 h4 with h4 | h4 <;> omega
 subst hcx
 rw [z1,hoff] at hax
 simp only [Nat.add_zero] at hax
 obtain ⟨ys',r1,r2,r3⟩ := s.read hg hmb
 have hl : ys'.length = m' * i.size := by rw [<- r1.1,r3]
 have hread : ∀ j v,ys'[j]? = some v -> w.cell? ((⟨mb.blk,mb.off + ad.off,none⟩ : Addr).add j) = some v := fun j v hj => by rw [Addr.add_lit]; exact r2 j v hj
 have hysn : ys ≠ [] := fun h => by
  have h1 : m' * i.size = 0 := by rw [<- hl,<- r1.1,h]; rfl
  rcases Nat.mul_eq_zero.1 h1 with h1 | h1 <;> omega
 have hgf := growslice_fits (need := 0 + m') (old := 0) (by omega) (by simpa using hb)
 have hr := run_append_grow (P := P) w t o.type el i z hu hi hz ⟨xb.blk,0,none⟩ 0 0 [] (by simp) (fun j v hj => by simp at hj) ⟨mb.blk,mb.off + ad.off,none⟩ m' c1 ys' hl hread (by omega) (by omega) hgf
 have hge := grownCap_ge w (0 + m') 0 el
 generalize hG : grownCap w (0 + m') 0 el = G at hr hge
 have hcs : (([] : List Value).toArray ++ ys'.toArray ++ Builtin.zeroCells z.cells (G - (0 + m'))).size = G * i.size := by
  rw [Array.size_append,Array.size_append,size_zeroCells,hsz]
  simp only [List.size_toArray,hl,List.length_nil,Nat.zero_add]
  rw [<- Nat.add_mul]
  congr 1
  omega
 have key := OpDoes.newB (P := P) (o := o) (a := a) (base := base) s ⟨ys,i.size,el,true,true⟩
  (([] : List Value).toArray ++ ys'.toArray ++ Builtin.zeroCells z.cells (G - (0 + m'))) el G m' true
  ⟨w.drew,rfl,(Kept.refl _ _).drew,?_⟩ ?_ (fun _ => rfl) (fun _ h => absurd h hysn) (fun _ => ⟨by omega,by show G * i.size <= _; omega⟩)
 ·simpa using key
 ·simp at hr
  simp [execOp,ho,resolve,hax,hay,invoke,builtin,hr]
 ·intro j v hj
  obtain ⟨v',b1,b2⟩ := r1.2 j v hj
  have hjl2 := (List.getElem?_eq_some_iff.1 b1).1
  refine ⟨v',?_,b2⟩
  rw [Array.getElem?_append_left (by simp; omega),Array.getElem?_append_right (by simp)]
  simpa using b1
theorem does_app {x y : Operand} {t el : TypeId} (ho : o.op = .call ⟨.builtin .append,#[x,y],#[t,t]⟩) (hu : P.underlying t = some (.slice el)) {i : TypeInfo} (hi : P.info? el = some i) {z : Value} (hz : i.zero = some z) (hpos : 0 < i.size) (hsz : z.cells.size = i.size)
  {x' y' : Opd} (hx : cOpd x = some x') (hy : cOpd y = some y') {ad bd : Addr} {n m' c c' : Nat} (hm0 : m' ≠ 0) (he : y'.ev e = .slice (some ad) m' c') (hxs : x'.ev e = .slice (some bd) n c) {ys : List Value} (hg : getCells H ad.block ad.off (m' * i.size) = some ys)
  {k : Blk} (hk : H[bd.block]? = some k) (hlo : lo <= bd.block) (hoff : bd.off = 0) (happ : k.app = true) (hes : k.es = i.size) (het : k.et = el) (hlen : k.cells.length = n * i.size)
  (hb : (n + m') * i.bytes <= 140737488355328) (h63 : n + m' <= 9223372036854775807) (kill : Bool) (s : Sim lo base m H w.heap) (u : OkU m e a o.op.operands) :
  OpDoes P o a w lo base m H (sli H.length 0 (n + m'))
   (H.set bd.block { k with app := false,solo := k.solo && n == 0,cells := if kill then [] else k.cells } ++ [⟨k.cells ++ ys,i.size,el,true,k.solo && (n == 0 || kill)⟩]) := by
 have h1 := u.ev (x := x) (by simp [ho,Op.operands,Call.operands]) hx
 have h2 := u.ev (x := y) (by simp [ho,Op.operands,Call.operands]) hy
 rw [hxs] at h1
 rw [he] at h2
 obtain ⟨xb,hxb,_,cx,hax,hncx,hcpx⟩ | ⟨_,h0,_⟩ := h1.sl
 case inr => omega
 obtain ⟨mb,hmb,_,c1,hay,_⟩ | ⟨h0,_⟩ := h2.sl
 case inr => exact absurd h0 hm0
 obtain ⟨ys',r1,r2,r3⟩ := s.read hg hmb
 have hl : ys'.length = m' * i.size := by rw [<- r1.1,r3]
 obtain ⟨o1,o2,o3,cur,o4,o5⟩ := s.own bd.block xb k hlo hxb hk
 obtain ⟨e1,e2⟩ := o3 happ
 obtain ⟨cs0,t0,fr0,q1,q2⟩ := s.cell bd.block xb k hxb hk
 rw [o4] at q1
 simp only [Option.some.injEq,Obj.cells.injEq] at q1
 obtain ⟨rfl,_,_⟩ := q1
 rw [o2,hoff] at hax
 simp only [Nat.add_zero] at hax
 have hcp := hcpx hoff
 rw [e1,hes] at hcp
 have het' : xb.et = el := by rw [e2,het]
 have o4' : w.heap[xb.blk]? = some (.cells cur el (0,0)) := by rw [<- het']; exact o4
 have hnsz : n * i.size <= cur.size := by
  have : n * i.size <= cx * i.size := Nat.mul_le_mul_right _ hncx
  omega
 have hread : ∀ j v,ys'[j]? = some v -> w.cell? ((⟨mb.blk,mb.off + ad.off,none⟩ : Addr).add j) = some v := fun j v hj => by rw [Addr.add_lit]; exact r2 j v hj
 have hflag := s.flag hk (k.solo && n == 0) (fun h => by simp at h; exact h.1) (if kill then [] else k.cells) (by cases kill <;> simp)
 have hlenH : (H.set bd.block { k with app := false,solo := k.solo && n == 0,cells := if kill then [] else k.cells }).length = H.length := by simp
 have hold : ∀ (j : Nat) (v : Value),k.cells[j]? = some v -> ∃ v',cur[j]? = some v' /\ VR1 m v v' := fun j v hj => by
  obtain ⟨v',a1,a2⟩ := q2 j v hj
  rw [o2,Nat.zero_add] at a1
  exact ⟨v',a1,a2⟩
 have hcn : k.cells ++ ys ≠ [] := fun h => by
  have h0 := (List.append_eq_nil_iff.1 h).2
  have h1 : m' * i.size = 0 := by rw [<- hl,<- r1.1,h0]; rfl
  rcases Nat.mul_eq_zero.1 h1 with h1 | h1 <;> omega
 by_cases hroom : n + m' <= cx
 ·have hfit : n * i.size + ys'.length <= cur.size := by
   rw [hl,<- Nat.add_mul]
   have : (n + m') * i.size <= cx * i.size := Nat.mul_le_mul_right _ hroom
   omega
  have hr := run_append_room (P := P) w t o.type el i hu hi xb.blk n cx cur o4' ⟨mb.blk,mb.off + ad.off,none⟩ m' c1 ys' hl hread (fun v hv => by
   obtain ⟨v0,_,r⟩ := r1.mem_right hv
   exact r.one_right) hroom hfit
  generalize hnew : (cur.toList.take (n * i.size) ++ ys' ++ cur.toList.drop (n * i.size + ys'.length)).toArray = cur' at hr
  have hsz' : cur'.size = cur.size := by rw [<- hnew]; simp; omega
  have hpre : ∀ j,j < n * i.size -> cur'[j]? = cur[j]? := by
   intro j hj
   rw [<- hnew]
   simp only [List.getElem?_toArray,List.append_assoc]
   rw [List.getElem?_append_left (by simp; omega),List.getElem?_take,if_pos hj]
   simp
  have hnews : ∀ j,j < ys'.length -> cur'[n * i.size + j]? = ys'[j]? := by
   intro j hj
   rw [<- hnew]
   simp only [List.getElem?_toArray,List.append_assoc]
   rw [List.getElem?_append_right (by simp; omega)]
   simp only [List.length_take,Array.length_toList]
   rw [List.getElem?_append_left (by omega)]
   congr 1
   omega
  have hpl := hflag.place (h' := (w.setRow xb.blk cur').heap) ⟨xb.blk,0,i.size,xb.et,xb.cp⟩ ⟨k.cells ++ ys,i.size,el,true,k.solo && (n == 0 || kill)⟩ cur cur' (n * i.size)
   o1 rfl rfl het' o4 o5 (setRow_size _ _ _) (setRow_heap w _ _ _ _ _ o4) (fun c hc => setRow_other w _ _ _ hc) (by rw [hsz',o5]) hpre (by simp [hlen]) hcn ?_ ?_
  ·rw [hlenH] at hpl
   refine ⟨.slice (some ⟨xb.blk,0,none⟩) (n + m') cx,w.setRow xb.blk cur',_,.inl ?_,MM.put_agree _ _ _,hpl,?_,?_,by simp⟩
   ·simp [execOp,ho,resolve,hax,hay,invoke,builtin,hr]
   ·exact VR.of0 (.inl ⟨_,MM.put_self _ _ _,rfl,cx,by simp,hroom,fun _ => hcp⟩)
   ·exact ⟨rfl,rfl,rfl,by simp,fun c hc => setRow_other w _ _ _ (fun e => o1 (e ▸ hc))⟩
  ·intro j v hj
   rw [List.getElem?_append] at hj
   split at hj
   ·rename_i hjl
    obtain ⟨v',a1,a2⟩ := hold j v hj
    exact ⟨v',by rw [hpre j (by omega)]; exact a1,a2⟩
   ·rename_i hjl
    obtain ⟨v',a1,a2⟩ := r1.2 _ v hj
    have hjl2 := (List.getElem?_eq_some_iff.1 a1).1
    refine ⟨v',?_,a2⟩
    have := hnews _ hjl2
    rw [show n * i.size + (j - k.cells.length) = j by omega] at this
    rw [this,a1]
  ·intro b y kb hlob hyb hkb hblk
   rcases get_set hkb with ⟨rfl,rfl,_⟩ | ⟨hbne,hkb⟩
   ·refine ⟨rfl,?_,?_⟩
    ·cases kill <;> simp [hlen]
    ·cases kill with
     | true => left; rfl
     | false =>
       by_cases hn0 : n = 0
       ·left
        show k.cells = []
        exact List.eq_nil_of_length_eq_zero (by rw [hlen,hn0]; simp)
       ·right
        have : (n == 0) = false := by simpa using hn0
        simp [this]
   ·obtain ⟨g1,g2⟩ := s.sep bd.block b xb y k kb (Ne.symm hbne) hlo hlob hxb hyb hk hkb hblk.symm
    obtain ⟨g3,g4⟩ := g2 happ
    refine ⟨g3,by omega,?_⟩
    rcases g1 with g1 | g1 | ⟨g1,g5⟩
    ·left; exact List.eq_nil_of_length_eq_zero (by rw [g1] at g4; simpa using g4)
    ·exact .inl g1
    ·right; exact ⟨g5,by simp [g1]⟩
 ·have hgf := growslice_fits (need := n + m') (old := cx) (by omega) hb
  have holds : ∀ j v,(cur.toList.take (n * i.size))[j]? = some v -> w.cell? ((⟨xb.blk,0,none⟩ : Addr).add j) = some v := by
   intro j v hj
   rw [List.getElem?_take] at hj
   split at hj
   ·rw [Addr.add_lit,Nat.zero_add]
    simp only [World.cell?,o4,Option.isSome_none,Bool.false_eq_true,if_false]
    simpa using hj
   ·cases hj
  have hr := run_append_grow (P := P) w t o.type el i z hu hi hz ⟨xb.blk,0,none⟩ n cx (cur.toList.take (n * i.size)) (by simp; omega) holds ⟨mb.blk,mb.off + ad.off,none⟩ m' c1 ys' hl hread (by omega) (by omega) hgf
  have hge := grownCap_ge w (n + m') cx el
  generalize hG : grownCap w (n + m') cx el = G at hr hge
  have hcs : ((cur.toList.take (n * i.size)).toArray ++ ys'.toArray ++ Builtin.zeroCells z.cells (G - (n + m'))).size = G * i.size := by
   rw [Array.size_append,Array.size_append,size_zeroCells,hsz]
   simp only [List.size_toArray,hl,List.length_take,Array.length_toList]
   rw [Nat.min_eq_left hnsz,<- Nat.add_mul,<- Nat.add_mul]
   congr 1
   omega
  have key := OpDoes.newB (P := P) (o := o) (a := a) (base := base) hflag ⟨k.cells ++ ys,i.size,el,true,k.solo && (n == 0 || kill)⟩
   ((cur.toList.take (n * i.size)).toArray ++ ys'.toArray ++ Builtin.zeroCells z.cells (G - (n + m'))) el G (n + m') true
   ⟨w.drew,rfl,(Kept.refl _ _).drew,?_⟩ ?_ (fun _ => rfl) (fun _ h => absurd h hcn) (fun _ => ⟨hge,by show G * i.size <= _; omega⟩)
  ·rw [hlenH] at key
   obtain ⟨v',w',m2,a1,a2,a3,a4,a5,a6⟩ := key
   rw [hlenH] at a2
   exact ⟨v',w',m2,a1,a2,a3,by simpa using a4,a5,by rw [hlenH] at a6; exact a6⟩
  ·simp [execOp,ho,resolve,hax,hay,invoke,builtin,hr]
  ·intro j v hj
   rw [List.getElem?_append] at hj
   split at hj
   ·rename_i hjl
    obtain ⟨v',b1,b2⟩ := hold j v hj
    refine ⟨v',?_,b2⟩
    rw [Array.getElem?_append_left (by simp; omega),Array.getElem?_append_left (by simp; omega)]
    simp only [List.getElem?_toArray,List.getElem?_take]
    rw [if_pos (by omega)]
    simpa using b1
   ·rename_i hjl
    obtain ⟨v',b1,b2⟩ := r1.2 _ v hj
    have hjl2 := (List.getElem?_eq_some_iff.1 b1).1
    refine ⟨v',?_,b2⟩
    rw [Array.getElem?_append_left (by simp; omega),Array.getElem?_append_right (by simp; omega)]
    simp only [List.getElem?_toArray,List.size_toArray,List.length_take,Array.length_toList]
    rw [Nat.min_eq_left hnsz,<- hlen]
    exact b1
theorem prim_sound0 (hc : cOp0 P c o = some io) (hi : iop lo io e H = some (v,H1)) (s : Sim lo base m H w.heap) (u : OkU m e a o.op.operands) : OpDoes P o a w lo base m H v H1 := by
 cases ho : o.op with
 | move x =>
   simp only [cOp0,ho,Option.map_eq_some_iff] at hc
   obtain ⟨x',hx,rfl⟩ := hc
   simp only [iop,Option.some.injEq,Prod.mk.injEq] at hi
   obtain ⟨rfl,rfl⟩ := hi
   exact does_mov (.inl ho) hx s u
 | assign x =>
   simp only [cOp0,ho,Option.map_eq_some_iff] at hc
   obtain ⟨x',hx,rfl⟩ := hc
   simp only [iop,Option.some.injEq,Prod.mk.injEq] at hi
   obtain ⟨rfl,rfl⟩ := hi
   exact does_mov (.inr ho) hx s u
 | pick x y z =>
   simp only [cOp0,ho,Option.bind_eq_some_iff,Option.map_eq_some_iff] at hc
   obtain ⟨x',hx,y',hy,z',hz,rfl⟩ := hc
   simp only [iop] at hi
   split at hi
   case h_2 => cases hi
   case h_1 t ht =>
    simp only [Option.some.injEq,Prod.mk.injEq] at hi
    obtain ⟨rfl,rfl⟩ := hi
    exact does_pick ho hx hy hz ht s u
 | alloc t =>
   simp only [cOp0,ho,Option.bind_eq_some_iff] at hc
   obtain ⟨i,hi1,z,hz,hc⟩ := hc
   split at hc
   case isFalse => cases hc
   case isTrue hok =>
    cases hc
    simp only [iop,Option.some.injEq,Prod.mk.injEq] at hi
    obtain ⟨rfl,rfl⟩ := hi
    exact does_alloc ho hi1 hz hok s
 | box t x =>
   simp only [cOp0,ho,Option.map_eq_some_iff] at hc
   obtain ⟨x',hx,rfl⟩ := hc
   simp only [iop] at hi
   split at hi
   case isFalse => cases hi
   case isTrue hok =>
    simp only [Option.some.injEq,Prod.mk.injEq] at hi
    obtain ⟨rfl,rfl⟩ := hi
    exact does_box ho hx hok s u
 | build t ps =>
   simp only [cOp0,ho,Option.bind_eq_some_iff] at hc
   obtain ⟨i,hi1,z,hz,hc⟩ := hc
   split at hc
   case h_2 => cases hc
   case h_1 fs hu =>
    split at hc
    case isFalse => cases hc
    case isTrue hok =>
     simp only [Option.bind_eq_some_iff,Option.map_eq_some_iff] at hc
     obtain ⟨pl,hpl,ps',hps,rfl⟩ := hc
     simp only [iop,Option.map_eq_some_iff,Prod.mk.injEq] at hi
     obtain ⟨out,hf,rfl,rfl⟩ := hi
     exact does_build ho hi1 hz hu hok hpl hps hf s u
 | buildSlice t len ps =>
   simp only [cOp0,ho] at hc
   split at hc
   case h_2 => cases hc
   case h_1 el hu =>
    simp only [Option.bind_eq_some_iff] at hc
    obtain ⟨i,hi1,z,hz,hc⟩ := hc
    split at hc
    case isFalse => cases hc
    case isTrue hok =>
     simp only [Option.map_eq_some_iff] at hc
     obtain ⟨ps',hps,rfl⟩ := hc
     simp only [iop,Option.map_eq_some_iff,Prod.mk.injEq] at hi
     obtain ⟨out,hf,rfl,rfl⟩ := hi
     exact does_lit ho hu hi1 hz hok.1 hok.2.1 hok.2.2.1 hok.2.2.2 hps hf s u
 | load t x =>
   simp only [cOp0,ho] at hc
   split at hc
   case h_2 => cases hc
   case h_1 d hu =>
    simp only [Option.bind_eq_some_iff] at hc
    obtain ⟨i,hi1,hc⟩ := hc
    split at hc
    case isFalse => cases hc
    case isTrue hok =>
     simp only [Option.map_eq_some_iff] at hc
     obtain ⟨x',hx,rfl⟩ := hc
     simp only [iop] at hi
     split at hi
     case h_2 => cases hi
     case h_1 ad hp =>
      simp only [Option.bind_eq_some_iff,Option.map_eq_some_iff,Prod.mk.injEq] at hi
      obtain ⟨cs,hg,v',hv,rfl,rfl⟩ := hi
      exact does_load ho hu hi1 hok hx hp hg hv s u
 | store t x y =>
   simp only [cOp0,ho,Option.bind_eq_some_iff] at hc
   obtain ⟨i,hi1,hc⟩ := hc
   split at hc
   case isFalse => cases hc
   case isTrue hok =>
    simp only [Option.bind_eq_some_iff,Option.map_eq_some_iff] at hc
    obtain ⟨x',hx,y',hy,rfl⟩ := hc
    simp only [iop] at hi
    split at hi
    case h_2 => cases hi
    case h_1 ad hp =>
     split at hi
     case h_2 => cases hi
     case h_1 k hk =>
      split at hi
      case isFalse => cases hi
      case isTrue hq =>
       simp only [Option.some.injEq,Prod.mk.injEq] at hi
       obtain ⟨rfl,rfl⟩ := hi
       exact does_store ho hi1 hok hx hy hp hk hq.1 hq.2.1 hq.2.2.1 hq.2.2.2.1 hq.2.2.2.2 s u
 | nilCheck x =>
   simp only [cOp0,ho,Option.map_eq_some_iff] at hc
   obtain ⟨x',hx,rfl⟩ := hc
   simp only [iop] at hi
   split at hi
   case h_1 ad hp =>
    simp only [Option.some.injEq,Prod.mk.injEq] at hi
    obtain ⟨rfl,rfl⟩ := hi
    rw [<- hp]
    exact does_nilck ho hx (.inl ⟨_,hp⟩) s u
   case h_2 g f c hp =>
    simp only [Option.some.injEq,Prod.mk.injEq] at hi
    obtain ⟨rfl,rfl⟩ := hi
    rw [<- hp]
    exact does_nilck ho hx (.inr ⟨_,_,_,hp⟩) s u
   case h_3 => cases hi
 | binOp op t x y ty =>
   simp only [cOp0,ho,Option.bind_eq_some_iff] at hc
   obtain ⟨x',hx,y',hy,hc⟩ := hc
   split at hc
   case h_1 k hu =>
    cases hc
    simp only [iop,Option.map_eq_some_iff,Prod.mk.injEq] at hi
    obtain ⟨v',hv,rfl,rfl⟩ := hi
    exact does_bin ho hx hy hv s u
   case h_2 hu =>
    split at hc
    case isFalse => cases hc
    case isTrue hok =>
    have hop : op = .eql \/ op = .neq := by cases op <;> simp [isEqN] at hok <;> simp
    cases hc
    simp only [iop] at hi
    split at hi
    case h_2 => cases hi
    case h_1 p q hp hq =>
     simp only [Option.some.injEq,Prod.mk.injEq] at hi
     obtain ⟨rfl,rfl⟩ := hi
     exact does_beq ho hu hop hx hy hp hq s u
   case h_3 fs hu =>
    split at hc
    case isFalse => cases hc
    case isTrue hok =>
     have hop : op = .eql \/ op = .neq := by have := hok.1; cases op <;> simp [isEqN] at this <;> simp
     cases hc
     simp only [iop] at hi
     split at hi
     case h_2 => cases hi
     case h_1 p q hp hq =>
      split at hi
      case isFalse => cases hi
      case isTrue hl =>
       simp only [Option.map_eq_some_iff,Prod.mk.injEq] at hi
       obtain ⟨r,hr,rfl,rfl⟩ := hi
       exact does_eqs ho hu hop hok.2.1 hok.2.2.1 hok.2.2.2 hx hy hp hq hl.1 hl.2 hr s u
   case h_4 => cases hc
 | unOp op t x =>
   simp only [cOp0,ho] at hc
   have hc' : ∃ x',cOpd x = some x' /\ io = .un op x' := by
    cases op <;> simp at hc <;> (obtain ⟨x',hx,rfl⟩ := hc; exact ⟨x',hx,rfl⟩)
   obtain ⟨x',hx,rfl⟩ := hc'
   simp only [iop,Option.map_eq_some_iff,Prod.mk.injEq] at hi
   obtain ⟨v',hv,rfl,rfl⟩ := hi
   exact does_un ho hx hv s u
 | convert sT dT x =>
   simp only [cOp0,ho] at hc
   split at hc
   case h_2 => cases hc
   case h_1 d k hs hd =>
    simp only [Option.map_eq_some_iff] at hc
    obtain ⟨x',hx,rfl⟩ := hc
    simp only [iop] at hi
    split at hi
    case h_2 => cases hi
    case h_1 k0 n he =>
     simp only [Option.some.injEq,Prod.mk.injEq] at hi
     obtain ⟨rfl,rfl⟩ := hi
     exact does_conv ho hs hd hx he s u
 | makeSlice t l n =>
   simp only [cOp0,ho] at hc
   split at hc
   case h_2 => cases hc
   case h_1 el hu =>
    simp only [Option.bind_eq_some_iff] at hc
    obtain ⟨i,hi1,z,hz,hc⟩ := hc
    split at hc
    case isFalse => cases hc
    case isTrue hok =>
     simp only [Option.bind_eq_some_iff,Option.map_eq_some_iff] at hc
     obtain ⟨x',hx,y',hy,rfl⟩ := hc
     simp only [iop] at hi
     split at hi
     case h_2 => cases hi
     case h_1 k n k' n' hp hq =>
      split at hi
      case isFalse => cases hi
      case isTrue hl =>
       simp only [Option.some.injEq,Prod.mk.injEq] at hi
       obtain ⟨rfl,rfl⟩ := hi
       obtain ⟨h0,rfl,hb,h63⟩ := hl
       exact does_mks ho hu hi1 hz hok.1 hok.2.1 hok.2.2 hx hy hp hq h0 hb h63 s u
 | slice t x l h mx =>
   cases mx with
   | some mx => simp only [cOp0,ho] at hc; cases hc
   | none =>
     simp only [cOp0,ho] at hc
     split at hc
     case h_2 => cases hc
     case h_1 el hu =>
      simp only [Option.bind_eq_some_iff] at hc
      obtain ⟨i,hi1,hc⟩ := hc
      split at hc
      case isFalse => cases hc
      case isTrue hok =>
       simp only [Option.bind_eq_some_iff,Option.map_eq_some_iff] at hc
       obtain ⟨x',hx,l',hl,h',hh,rfl⟩ := hc
       simp only [iop] at hi
       split at hi
       case h_2 => cases hi
       case h_1 ad n c' he =>
        split at hi
        case h_2 => cases hi
        case h_1 q1 hq1 =>
         split at hi
         case h_2 => cases hi
         case h_1 q2 hq2 =>
          simp only [Option.some.injEq,Prod.mk.injEq] at hi
          obtain ⟨rfl,rfl⟩ := hi
          exact does_sub ho hu hi1 hok hx hl hh he hq1 hq2 s u
 | fieldAddr sT x f =>
   simp only [cOp0,ho] at hc
   split at hc
   case h_2 => cases hc
   case h_1 fs hu =>
    simp only [Option.bind_eq_some_iff] at hc
    obtain ⟨fd,hf,i,hi1,hc⟩ := hc
    split at hc
    case isTrue => cases hc
    case isFalse hok =>
     simp only [Option.map_eq_some_iff] at hc
     obtain ⟨x',hx,rfl⟩ := hc
     simp only [iop] at hi
     split at hi
     case h_2 => cases hi
     case h_1 ad he =>
      simp only [Option.some.injEq,Prod.mk.injEq] at hi
      obtain ⟨rfl,rfl⟩ := hi
      exact does_fad ho hu hf hi1 hok hx he s u
 | field sT x f =>
   simp only [cOp0,ho] at hc
   split at hc
   case h_2 => cases hc
   case h_1 fs hu =>
    simp only [Option.bind_eq_some_iff] at hc
    obtain ⟨fd,hf,i,hi1,d,hd,hc⟩ := hc
    split at hc
    case isFalse => cases hc
    case isTrue hok =>
     simp only [Option.map_eq_some_iff] at hc
     obtain ⟨x',hx,rfl⟩ := hc
     simp only [iop] at hi
     split at hi
     case h_2 => cases hi
     case h_1 cs he =>
      split at hi
      case isFalse => cases hi
      case isTrue hle =>
       simp only [Option.map_eq_some_iff,Prod.mk.injEq] at hi
       obtain ⟨v',hv,rfl,rfl⟩ := hi
       exact does_fld ho hu hf hi1 hd hok hx he hle hv s u
 | indexAddr t x y =>
   simp only [cOp0,ho] at hc
   split at hc
   case h_2 => cases hc
   case h_1 el hu =>
    simp only [Option.bind_eq_some_iff,Option.map_eq_some_iff] at hc
    obtain ⟨i,hi1,x',hx,y',hy,rfl⟩ := hc
    simp only [iop] at hi
    split at hi
    case h_2 => cases hi
    case h_1 ad n c' k j he hj =>
     split at hi
     case isFalse => cases hi
     case isTrue hb =>
      simp only [Option.some.injEq,Prod.mk.injEq] at hi
      obtain ⟨rfl,rfl⟩ := hi
      exact does_iad ho hu hi1 hx hy he hj hb.1 hb.2 s u
 | extract x i =>
   simp only [cOp0,ho,Option.map_eq_some_iff] at hc
   obtain ⟨x',hx,rfl⟩ := hc
   simp only [iop] at hi
   split at hi
   case h_2 => cases hi
   case h_1 vs he =>
    simp only [Option.map_eq_some_iff,Prod.mk.injEq] at hi
    obtain ⟨v',hv,rfl,rfl⟩ := hi
    exact does_ext ho hx he hv s u
 | makeFunc fn xs ys =>
   cases fn with
   | func f =>
     simp only [cOp0,ho,Option.bind_eq_some_iff,Option.map_eq_some_iff] at hc
     obtain ⟨xs',hx,ys',hy,rfl⟩ := hc
     simp only [iop] at hi
     split at hi
     case isFalse => cases hi
     case isTrue hok =>
      simp only [Option.some.injEq,Prod.mk.injEq] at hi
      obtain ⟨rfl,rfl⟩ := hi
      exact does_mkf ho hx hy hok.1 hok.2 s u
   | _ => simp only [cOp0,ho] at hc; cases hc
 | call cl =>
   obtain ⟨callee,⟨args⟩,⟨ts⟩⟩ := cl
   cases callee with
   | value f => simp only [cOp0,ho] at hc; cases hc
   | invoke r n => simp only [cOp0,ho] at hc; cases hc
   | builtin b =>
     cases b with
     | len =>
       simp only [cOp0,ho] at hc
       split at hc
       case h_2 => cases hc
       case h_1 _ _ x t ts' =>
        split at hc
        case h_2 => cases hc
        case h_1 el hu =>
         simp only [Option.map_eq_some_iff] at hc
         obtain ⟨x',hx,rfl⟩ := hc
         simp only [iop] at hi
         split at hi
         case h_2 => cases hi
         case h_1 ad n c' he =>
          simp only [Option.some.injEq,Prod.mk.injEq] at hi
          obtain ⟨rfl,rfl⟩ := hi
          exact does_len ho (by simp) hu hx he s u
     | max =>
       simp only [cOp0,ho] at hc
       split at hc
       case h_2 => cases hc
       case h_1 _ x y =>
        simp only [Option.bind_eq_some_iff,Option.map_eq_some_iff] at hc
        obtain ⟨x',hx,y',hy,rfl⟩ := hc
        simp only [iop] at hi
        split at hi
        case h_2 => cases hi
        case h_1 k p k' q he hf =>
         simp only [Option.some.injEq,Prod.mk.injEq] at hi
         obtain ⟨rfl,rfl⟩ := hi
         exact does_max ho hx hy he hf s u
     | append =>
       simp only [cOp0,ho] at hc
       split at hc
       case h_2 => cases hc
       case h_1 _ _ x y t t' =>
        split at hc
        case h_2 => cases hc
        case h_1 el hu =>
         simp only [Option.bind_eq_some_iff] at hc
         obtain ⟨i,hi1,z,hz,hc⟩ := hc
         split at hc
         case isFalse => cases hc
         case isTrue hok =>
          obtain ⟨rfl,hpos,hsz⟩ := hok
          simp only [Option.bind_eq_some_iff,Option.map_eq_some_iff] at hc
          obtain ⟨x',hx,y',hy,rfl⟩ := hc
          simp only [iop] at hi
          split at hi
          case h_2 => cases hi
          case h_1 b n cc ad m' c' hxs he =>
           split at hi
           case isTrue h0 =>
            simp only [Option.some.injEq,Prod.mk.injEq] at hi
            obtain ⟨rfl,rfl⟩ := hi
            subst h0
            rw [<- hxs]
            exact does_app_none ho hu hi1 hx hy he ⟨_,_,_,hxs⟩ s u
           case isFalse h0 =>
            cases ad with
            | none => cases hi
            | some ad =>
              simp only at hi
              split at hi
              case h_1 => cases hi
              case h_2 ys hg =>
               cases b with
               | none =>
                 simp only at hi
                 split at hi
                 case isFalse => cases hi
                 case isTrue hb =>
                  simp only [Option.some.injEq,Prod.mk.injEq] at hi
                  obtain ⟨rfl,rfl⟩ := hi
                  exact does_app_nil ho hu hi1 hz hpos hsz hx hy h0 he hxs hg hb.1 hb.2 s u
               | some b =>
                 simp only at hi
                 split at hi
                 case h_1 => cases hi
                 case h_2 k hk =>
                  split at hi
                  case isFalse =>
                   split at hi
                   case isFalse => cases hi
                   case isTrue hb =>
                    simp only [Option.some.injEq,Prod.mk.injEq] at hi
                    obtain ⟨rfl,rfl⟩ := hi
                    obtain ⟨b1,b2,b3,b4,b5,rfl,b7,b8⟩ := hb
                    exact does_app_lit ho hu hi1 hz hpos hsz hx hy h0 he hxs hg hk b1 b2 b3 b5 b7 b8 s u
                  case isTrue hb =>
                   simp only [Option.some.injEq,Prod.mk.injEq] at hi
                   obtain ⟨rfl,rfl⟩ := hi
                   obtain ⟨b1,b2,b3,b4,b5,b6,b7,b8⟩ := hb
                   exact does_app ho hu hi1 hz hpos hsz hx hy h0 he hxs hg hk b1 b2 b3 b4 b5 b6 b7 b8 _ s u
     | _ => simp only [cOp0,ho] at hc; cases hc
 | _ => simp only [cOp0,ho] at hc; cases hc
theorem prim_sound (hc : cOp P c o = some io) (hi : iop lo io e H = some (v,H1)) (s : Sim lo base m H w.heap) (u : OkU m e a o.op.operands) : OpDoes P o a w lo base m H v H1 := by
 unfold cOp at hc
 split at hc
 ·simp only [Option.bind_eq_some_iff,Option.map_eq_some_iff] at hc
  obtain ⟨f',_,xs',_,rfl⟩ := hc
  simp [iop] at hi
 ·exact prim_sound0 (Option.filter_eq_some_iff.1 hc).1 hi s u
end
end Go.Proofs.YtbjeldblaclpnaaGreatI
end
section
set_option linter.unusedVariables false
set_option linter.unusedSimpArgs false
namespace Go.Proofs.YtbjeldblaclpnaaGreatI
open Go Go.RowKit
def dstOk (nt : Nat) : Option Nat -> Bool
 | some d => decide (d < nt)
 | none => true
def cOper (P : Program) (c : CM) (nt : Nat) (ops : Array Oper) (o : Oper) : Option IOper :=
 (cOp P c o).bind fun io =>
  if dstOk nt o.dst = true then
   match o.guard with
   | none => some ⟨o.dst,none,io⟩
   | some (j,w) => ((ops[j]?).bind (·.dst)).map fun g => ⟨o.dst,some (g,w),io⟩
  else none
def cOps (P : Program) (c : CM) (nt : Nat) (ops : Array Oper) : List Oper -> Option (List IOper)
 | [] => some []
 | o :: r => (cOper P c nt ops o).bind fun o' => (cOps P c nt ops r).map (o' :: ·)
def befs (ops : Array Oper) : Nat -> List Nat
 | 0 => []
 | k + 1 => befs ops k ++ [(ops.getD k default).after.toList.foldl (fun s e => if Region.binds .any e then s ||| 2 ^ e.on ||| (befs ops k).getD e.on 0 else s) 0]
def okD (ops : Array Oper) (p : Nat) : Bool :=
 let b := befs ops ops.size
 (List.range ops.size).all fun j => (ops.getD j default).after.toList.all (fun e => !Region.binds .any e || decide (e.on < j)) && (List.range j).all fun i =>
  (b.getD j 0).testBit i || (decide (j < p) && (ops.getD i default).apart ops (ops.getD j default))
def prefixLen (ops : Array Oper) : Nat :=
 ((List.range (ops.size + 1)).find? fun k => okD ops k).getD 0
def okN (ops : Array Oper) (l : List IOper) (p : Nat) : Bool :=
 let b := befs ops ops.size
 (List.range p).all fun j => (List.range j).all fun i => !((match l[i]? with | some o => isB o.op | none => false) && (match l[j]? with | some o => isB o.op | none => false)) || (b.getD j 0).testBit i
def okW (ops : Array Oper) (l : List IOper) (q : Nat) : Bool :=
 appO l[q]? && (List.range q).all (fun i => ((befs ops ops.size).getD q 0).testBit i || (match l[i]? with | some o => movO o | none => false)) && (l.take q).all (fun o => !isN o.op)
def regK (ops : Array Oper) (l : List IOper) (p : Nat) : ICode := if decide (1 <= p) && okW ops l (p - 1) then .regW (p - 1) l else .reg (some p) l
theorem regK_cases {ops : Array Oper} {l : List IOper} {p : Nat} {ic : ICode} (h : regK ops l p = ic) : ic = .reg (some p) l \/ ∃ q,p = q + 1 /\ okW ops l q = true /\ ic = .regW q l := by
 unfold regK at h
 split at h
 ·rename_i hh
  simp only [Bool.and_eq_true,decide_eq_true_eq] at hh
  exact .inr ⟨p - 1,by omega,hh.2,h.symm⟩
 ·exact .inl h.symm
@[simp] theorem regK_skip {ops : Array Oper} {l : List IOper} {p : Nat} : regK ops l p ≠ .skip := fun h => by rcases regK_cases h with h | ⟨_,_,_,h⟩ <;> cases h
@[simp] theorem regK_reg0 {ops : Array Oper} {l l' : List IOper} {p : Nat} : regK ops l p ≠ .reg none l' := fun h => by rcases regK_cases h with h | ⟨_,_,_,h⟩ <;> cases h
@[simp] theorem regK_seq {ops : Array Oper} {l : List IOper} {p : Nat} {a b : ICode} : regK ops l p ≠ .seq a b := fun h => by rcases regK_cases h with h | ⟨_,_,_,h⟩ <;> cases h
@[simp] theorem regK_cond {ops : Array Oper} {l : List IOper} {p : Nat} {c : Opd} {a b : ICode} : regK ops l p ≠ .cond c a b := fun h => by rcases regK_cases h with h | ⟨_,_,_,h⟩ <;> cases h
@[simp] theorem regK_block {ops : Array Oper} {l : List IOper} {p : Nat} {i : Nat} {b : ICode} : regK ops l p ≠ .block i b := fun h => by rcases regK_cases h with h | ⟨_,_,_,h⟩ <;> cases h
@[simp] theorem regK_loop {ops : Array Oper} {l : List IOper} {p : Nat} {b : ICode} : regK ops l p ≠ .loop b := fun h => by rcases regK_cases h with h | ⟨_,_,_,h⟩ <;> cases h
@[simp] theorem regK_exit {ops : Array Oper} {l : List IOper} {p : Nat} {i : Nat} : regK ops l p ≠ .exit i := fun h => by rcases regK_cases h with h | ⟨_,_,_,h⟩ <;> cases h
@[simp] theorem regK_ret {ops : Array Oper} {l : List IOper} {p : Nat} : regK ops l p ≠ .ret := fun h => by rcases regK_cases h with h | ⟨_,_,_,h⟩ <;> cases h
def cCode (P : Program) (c : CM) (nt : Nat) : Code -> Option ICode
 | .skip => some .skip
 | .region _ ops d => if d then (if okD ops (prefixLen ops) then (cOps P c nt ops ops.toList).bind (fun l => if okN ops l (prefixLen ops) then some (regK ops l (prefixLen ops)) else none) else none) else (cOps P c nt ops ops.toList).map (.reg none ·)
 | .seq x y => (cCode P c nt x).bind fun x' => (cCode P c nt y).map (.seq x' ·)
 | .cond q x y => (cOpd q).bind fun q' => (cCode P c nt x).bind fun x' => (cCode P c nt y).map (.cond q' x' ·)
 | .block id x => (cCode P c nt x).map (.block id ·)
 | .loop x => (cCode P c nt x).map .loop
 | .exit id => some (.exit id)
 | .ret => some .ret
 | _ => none
def cRes (P : Program) : ResultVar -> Option IRes
 | .tmp t => some (.t t)
 | .cell a t => (P.underlying t).bind fun d => (P.info? t).bind fun i => if isAggD d = true \/ i.size = 1 then some (.cell (isAggD d) i.size a) else none
def cResL (P : Program) : List ResultVar -> Option (List IRes)
 | [] => some []
 | r :: rs => (cRes P r).bind fun r' => (cResL P rs).map (r' :: ·)
def cFn (P : Program) (cm : Nat -> CM) (f : Nat) : Option IFn :=
 (P.funcs[f]?).bind fun fn => fn.body.bind fun c =>
  if fn.name ≠ "runtime.NumGoroutine" ∧ fn.params.size + fn.nfree ≤ fn.ntmps then
   (cCode P (cm f) fn.ntmps c).bind fun ic => (cResL P fn.results.toList).map fun rs => ⟨fn.params.size + fn.nfree,fn.ntmps,rs,ic⟩
  else none
theorem getElem?_append_lt {H : Heap} {k : Blk} {b : Nat} (h : b < H.length) : (H ++ [k])[b]? = H[b]? := List.getElem?_append_left h
def Ext (lo : Nat) (H H1 : Heap) : Prop := H.length <= H1.length /\ ∀ b,b < lo -> b < H.length -> H1[b]? = H[b]?
theorem Ext.refl (lo : Nat) (H : Heap) : Ext lo H H := ⟨Nat.le_refl _,fun _ _ _ => rfl⟩
theorem Ext.trans {lo : Nat} {H H1 H2 : Heap} (h : Ext lo H H1) (h' : Ext lo H1 H2) : Ext lo H H2 :=
 ⟨Nat.le_trans h.1 h'.1,fun b h1 h2 => (h'.2 b h1 (Nat.lt_of_lt_of_le h2 h.1)).trans (h.2 b h1 h2)⟩
theorem Ext.snoc (lo : Nat) (H : Heap) (k : Blk) : Ext lo H (H ++ [k]) := ⟨by simp,fun b _ h => getElem?_append_lt h⟩
theorem Ext.set {lo b : Nat} {H : Heap} (k : Blk) (h : lo <= b) : Ext lo H (H.set b k) := ⟨by simp,fun c h1 h2 => by rw [List.getElem?_set_ne (by omega)]⟩
theorem Ext.mono {lo lo' : Nat} {H H1 : Heap} (h : Ext lo' H H1) (hl : lo <= lo') : Ext lo H H1 := ⟨h.1,fun b h1 h2 => h.2 b (by omega) h2⟩
theorem iop_ext {lo : Nat} {o : IOp} {e : Env} {H H1 : Heap} {v : Value} (h : iop lo o e H = some (v,H1)) : Ext lo H H1 := by
 cases o <;> simp only [iop] at h
 case store n x y =>
  split at h
  case h_2 => cases h
  case h_1 =>
   split at h
   case h_2 => cases h
   case h_1 =>
    split at h
    case isFalse => cases h
    case isTrue hq =>
     simp only [Option.some.injEq,Prod.mk.injEq] at h
     obtain ⟨_,rfl⟩ := h
     exact Ext.set _ hq.1
 case app es et bytes kill x y =>
  split at h
  case h_2 => cases h
  case h_1 b n c ad m c' _ _ =>
   split at h
   case isTrue =>
    simp only [Option.some.injEq,Prod.mk.injEq] at h
    obtain ⟨_,rfl⟩ := h
    exact Ext.refl _ _
   case isFalse =>
    cases ad with
    | none => cases h
    | some ad =>
      simp only at h
      split at h
      case h_1 => cases h
      case h_2 =>
       cases b with
       | none =>
         simp only at h
         split at h
         case isFalse => cases h
         case isTrue =>
          simp only [Option.some.injEq,Prod.mk.injEq] at h
          obtain ⟨_,rfl⟩ := h
          exact Ext.snoc _ _ _
       | some b =>
         simp only at h
         split at h
         case h_1 => cases h
         case h_2 =>
          split at h
          case isFalse =>
           split at h
           case isFalse => cases h
           case isTrue hq =>
            simp only [Option.some.injEq,Prod.mk.injEq] at h
            obtain ⟨_,rfl⟩ := h
            exact Ext.snoc _ _ _
          case isTrue hq =>
           simp only [Option.some.injEq,Prod.mk.injEq] at h
           obtain ⟨_,rfl⟩ := h
           exact (Ext.set _ hq.1).trans (Ext.snoc _ _ _)
 case new => simp only [Option.some.injEq,Prod.mk.injEq] at h; obtain ⟨_,rfl⟩ := h; exact Ext.snoc _ _ _
 case box =>
  split at h
  case isFalse => cases h
  case isTrue => simp only [Option.some.injEq,Prod.mk.injEq] at h; obtain ⟨_,rfl⟩ := h; exact Ext.snoc _ _ _
 case lit =>
  simp only [Option.map_eq_some_iff,Prod.mk.injEq] at h
  obtain ⟨_,_,_,rfl⟩ := h
  exact Ext.snoc _ _ _
 case mks =>
  split at h
  case h_2 => cases h
  case h_1 =>
   split at h
   case isFalse => cases h
   case isTrue => simp only [Option.some.injEq,Prod.mk.injEq] at h; obtain ⟨_,rfl⟩ := h; exact Ext.snoc _ _ _
 all_goals
  have hH : H1 = H := by
   revert h
   repeat' split
   all_goals first
    | (intro h; cases h; done)
    | (intro h; simp only [Option.some.injEq,Prod.mk.injEq] at h; exact h.2.symm)
    | (intro h; simp only [Option.map_eq_some_iff,Prod.mk.injEq] at h; obtain ⟨_,_,_,h⟩ := h; exact h.symm)
    | (intro h; simp only [Option.bind_eq_some_iff,Option.map_eq_some_iff,Prod.mk.injEq] at h; obtain ⟨_,_,_,_,_,h⟩ := h; exact h.symm)
  subst hH
  exact Ext.refl _ _
theorem BS.ext {F : Nat -> Option IFn} {lo : Nat} {t : Task} {e : Env} {H : Heap} {x : X} {e1 : Env} {H1 : Heap} (h : BS F lo t e H x e1 H1) : Ext lo H H1 := by
 induction h with
 | skip => exact Ext.refl _ _
 | reg _ ih => exact ih
 | regD _ ih => exact ih
 | seqN _ _ ih1 ih2 => exact ih1.trans ih2
 | seqX _ _ ih => exact ih
 | cond _ _ ih => exact ih
 | block _ ih => exact ih
 | loop _ ih => exact ih
 | lpN _ _ ih1 ih2 => exact ih1.trans ih2
 | lpX _ _ ih => exact ih
 | exit => exact Ext.refl _ _
 | ret => exact Ext.refl _ _
 | nil => exact Ext.refl _ _
 | skp _ _ ih => exact ih
 | cons _ _ _ ih1 ih2 => exact ih1.trans ih2
 | px0 _ ih => exact ih
 | pxSkp _ _ ih => exact ih
 | @pxA lo X p o r e H e1 L e2 H2 _ _ _ _ ih1 ih2 => exact Ext.trans ⟨by rw [List.length_append]; omega,fun b _ h2 => List.getElem?_append_left h2⟩ ih2
 | pxN _ _ _ _ _ ih1 ih2 => exact ih1.trans ih2
 | @pxB lo X p o r e H d v H1 e2 H2 G _ _ _ _ hl _ _ _ _ ih1 ih2 =>
   refine Ext.trans ⟨by omega,fun b h1 h2 => ?_⟩ ih2
   have h3 := (ih1 []).2 b h1 (by simpa using h2)
   simp only [List.append_nil,List.nil_append] at h3
   rwa [List.getElem?_append_left (by omega)] at h3
 | regX _ _ ih => exact ih
 | pw0 _ _ _ ih1 ih2 => exact ih1.trans ih2
 | pwSkp _ _ ih => exact ih
 | @pwCons lo p o r e H e1 H1 e2 H2 _ _ _ ih1 ih2 =>
   exact Ext.trans ⟨ih1.1,fun b _ h2 => ih1.2 b h2 h2⟩ ih2
 | regW _ ih => exact ih
 | pre0 _ ih => exact ih
 | preSkp _ _ ih => exact ih
 | @preCons lo p o r e H e1 H1 e2 H2 _ _ _ ih1 ih2 =>
   exact Ext.trans ⟨ih1.1,fun b _ h2 => ih1.2 b h2 h2⟩ ih2
 | regV _ _ _ _ _ _ ih1 ih2 => exact ih1.trans ih2
 | prim h => exact iop_ext h
 | callN _ _ _ _ _ _ ih => exact ih
 | callK _ _ _ _ _ _ ih => exact ⟨ih.1,fun b _ h2 => ih.2 b h2 h2⟩
 | callQ _ _ _ _ _ _ _ _ => exact Ext.refl _ _
section
variable {lo : Nat} {base : Nat -> Prop} {m : MM} {H H1 : Heap} {h h' : Array Obj}
theorem Sim.shut (s : Sim lo base m H h) : Sim H.length (ltN h.size) m H h := by
 refine ⟨s.dom,s.cell,?_,?_,?_,fun _ hk => hk,Nat.le_refl _,s.zc⟩
 ·intro b x k hl hm; exact absurd (s.dom b x hm) (by omega)
 ·intro b b' x x' k k' _ hl _ hm; exact absurd (s.dom b x hm) (by omega)
 ·intro b x hl hm
  obtain ⟨k,hk⟩ : ∃ k,H[b]? = some k := ⟨H[b],List.getElem?_eq_getElem hl⟩
  exact s.lt hm hk
theorem Sim.later (s : Sim lo base m H h) (hs : h.size <= h'.size) (hb : ∀ c,c < h.size -> h'[c]? = h[c]?) : Sim lo base m H h' := by
 have old : ∀ c o,h[c]? = some o -> h'[c]? = some o := fun c o hc => by rw [hb c (Array.getElem?_eq_some_iff.1 hc).1]; exact hc
 refine ⟨s.dom,?_,?_,s.sep,s.old,fun k hk => Nat.lt_of_lt_of_le (s.bnd k hk) hs,s.low,s.zc⟩
 ·intro b x k hm hk
  obtain ⟨cs,t,fr,h1,h2⟩ := s.cell b x k hm hk
  exact ⟨cs,t,fr,old _ _ h1,h2⟩
 ·intro b x k hl hm hk
  obtain ⟨p1,p2,p3,cs,p4,p5⟩ := s.own b x k hl hm hk
  exact ⟨p1,p2,p3,cs,old _ _ p4,p5⟩
theorem Sim.back (s : Sim lo base m H h) {m' : MM} (s' : Sim H.length (ltN h.size) m' H1 h') (hag : MM.agree H.length m m') (hE : Ext H.length H H1)
  (hb : ∀ c,c < h.size -> h'[c]? = h[c]?) : Sim lo base m' H1 h' := by
 have old : ∀ c o,h[c]? = some o -> h'[c]? = some o := fun c o hc => by rw [hb c (Array.getElem?_eq_some_iff.1 hc).1]; exact hc
 have hlt : ∀ b x,b < H.length -> m' b = some x -> m b = some x /\ x.blk < h.size := fun b x hl hm => ⟨(hag b hl) ▸ hm,s'.old b x hl hm⟩
 refine ⟨s'.dom,s'.cell,?_,?_,?_,fun k hk => s'.bnd k (s.bnd k hk),Nat.le_trans s.low hE.1,s'.zc⟩
 ·intro b x k hl hm hk
  rcases Nat.lt_or_ge b H.length with hb' | hb'
  ·rw [hE.2 b hb' hb'] at hk
   obtain ⟨p1,p2,p3,cs,p4,p5⟩ := s.own b x k hl (hlt b x hb' hm).1 hk
   exact ⟨p1,p2,p3,cs,old _ _ p4,p5⟩
  ·obtain ⟨p1,p2⟩ := s'.own b x k hb' hm hk
   exact ⟨fun hbx => p1 (s.bnd _ hbx),p2⟩
 ·intro b b' x x' k k' hne hl hl' hm hm' hk hk' he
  rcases Nat.lt_or_ge b H.length with hb1 | hb1
  ·rcases Nat.lt_or_ge b' H.length with hb2 | hb2
   ·rw [hE.2 b hb1 hb1] at hk
    rw [hE.2 b' hb2 hb2] at hk'
    exact s.sep b b' x x' k k' hne hl hl' (hlt b x hb1 hm).1 (hlt b' x' hb2 hm').1 hk hk' he
   ·have := (hlt b x hb1 hm).2
    have := Nat.le_of_not_lt (s'.own b' x' k' hb2 hm' hk').1
    omega
  ·rcases Nat.lt_or_ge b' H.length with hb2 | hb2
   ·have := (hlt b' x' hb2 hm').2
    have := Nat.le_of_not_lt (s'.own b x k hb1 hm hk).1
    omega
   ·exact s'.sep b b' x x' k k' hne hb1 hb2 hm hm' hk hk' he
 ·intro b x hl hm
  have hb1 : b < H.length := Nat.lt_of_lt_of_le hl s.low
  exact s.old b x hl (hlt b x hb1 hm).1
end
theorem scal1_VR {m m' : MM} {v v' : Value} (h : scal1 v = true) (r : VR1 m v v') : VR1 m' v v' := by
 rcases r with r | ⟨g,f,c,f',c',rfl,_⟩
 ·cases v <;> simp [scal1] at h <;> exact .inl r
 ·simp [scal1] at h
theorem scalA_VR {m m' : MM} {v v' : Value} (h : scalA v = true) (r : VA m v v') : VA m' v v' := by
 rcases r with r | ⟨cs,cs',rfl,rfl,r⟩
 ·refine .inl (scal1_VR ?_ r)
  cases v <;> first | exact h | (have := r.one_left; simp [one] at this)
 ·exact .inr ⟨cs,cs',rfl,rfl,r.mono fun x y hx r => scal1_VR (List.all_eq_true.1 h x hx) r⟩
theorem scal_VR {m m' : MM} {v v' : Value} (h : scal v = true) (r : VR m v v') : VR m' v v' := by
 rcases r with r | ⟨cs,cs',rfl,rfl,r⟩
 ·refine .inl ?_
  rcases r with r | ⟨cs,cs',rfl,rfl,r⟩
  ·refine .inl (scal1_VR ?_ r)
   have := r.one_left
   cases v <;> first | exact h | simp [one] at this
  ·exact .inr ⟨cs,cs',rfl,rfl,r.mono fun x y hx r => scal1_VR (List.all_eq_true.1 h x hx) r⟩
 ·exact .inr ⟨cs,cs',rfl,rfl,r.mono fun x y hx r => scalA_VR (List.all_eq_true.1 h x hx) r⟩
end Go.Proofs.YtbjeldblaclpnaaGreatI
end
section
set_option linter.unusedVariables false
set_option linter.unusedSimpArgs false
namespace Go.Proofs.YtbjeldblaclpnaaGreatI
open Go Go.RowKit
def X.toExit : X -> Exit
 | .n => .normal
 | .e id => .exit id
 | .r => .ret
structure EnvR (m : MM) (e : Env) (a : Act) (nt : Nat) : Prop where
 defers : a.defers = []
 size : a.tmps.size = nt
 val : ∀ i,VR m (e i) (a.tmps.getD i undef)
theorem VR.undef {m : MM} : VR m undef undef := .inr ⟨#[],#[],rfl,rfl,All2.nil⟩
theorem EnvR.mono {m m' : MM} {e : Env} {a : Act} {nt : Nat} (h : EnvR m e a nt) (hs : m.sub m') : EnvR m' e a nt := ⟨h.defers,h.size,fun i => (h.val i).mono hs⟩
theorem put_tmps (a : Act) (d : Option Tmp) (v : Value) (t : Nat) (hd : dstOk a.tmps.size d = true) :
  (a.put d v).tmps.getD t undef = if d = some t then v else a.tmps.getD t undef := by
 cases d with
 | none => simp [Act.put]
 | some d =>
   simp only [dstOk,decide_eq_true_eq] at hd
   simp only [Act.put,Option.some.injEq]
   rw [Array.getD_eq_getD_getElem?,Array.getElem?_setIfInBounds]
   split
   ·rename_i h; subst h; simp [hd]
   ·rename_i h; rw [Array.getD_eq_getD_getElem?]
theorem EnvR.put {m m' : MM} {e : Env} {a : Act} {nt : Nat} (h : EnvR m e a nt) (hs : m.sub m') (d : Option Nat) {v v' : Value} (r : VR m' v v') (hd : dstOk nt d = true) :
  EnvR m' (putE e d v) (a.put d v') nt := by
 refine ⟨?_,?_,fun i => ?_⟩
 ·cases d <;> exact h.defers
 ·cases d <;> simp [Act.put,h.size]
 ·rw [put_tmps a d v' i (by rw [h.size]; exact hd)]
  cases d with
  | none => simpa [putE] using (h.val i).mono hs
  | some d =>
    simp only [putE,Option.some.injEq]
    by_cases hi : i = d
    ·subst hi; simpa using r
    ·rw [if_neg hi,if_neg (fun h => hi h.symm)]; exact (h.val i).mono hs
theorem EnvR.okU {m : MM} {e : Env} {a : Act} {nt : Nat} (h : EnvR m e a nt) (xs : Array Operand) : OkU m e a xs := fun t _ => by
 simpa [Act.eval] using h.val t
theorem iop_pure {lo : Nat} {o : IOp} {e : Env} {H H1 : Heap} {v : Value} (hp : pureI o = true) (h : iop lo o e H = some (v,H1)) : ∀ (lo : Nat) (H : Heap),iop lo o e H = some (v,H) := by
 intro lo' H'
 have key : iop lo' o e H' = (iop lo o e H).map fun p => (p.1,H') := by
  cases o <;> first | (cases hp; done) | skip
  all_goals simp only [iop,Option.map_map]
  all_goals try rfl
  all_goals (repeat' split)
  all_goals first
   | rfl
   | (simp only [Option.map_map]; rfl)
 rw [key,h]
 rfl
section
variable (P : Program) (F : Nat -> Option IFn)
def OpS (lo : Nat) (d : Option Nat) (io : IOp) (e : Env) (H : Heap) (e1 : Env) (H1 : Heap) : Prop :=
 ∃ v,e1 = putE e d v /\ ∀ (c : CM) (o : Oper),cOp P c o = some io -> o.dst = d -> ∀ (a : Act) (w : World) (m : MM) (base : Nat -> Prop),Sim lo base m H w.heap -> OkU m e a o.op.operands ->
  ∀ (next : Act -> World -> Prop) (Q : Exit -> Act -> World -> Prop),
   (∀ v' w' m',MM.agree H.length m m' -> Sim lo base m' H1 w'.heap -> VR m' v v' -> Kept base w w' -> next (a.put d v') w') -> o.wp P a w next Q
def OpsS (lo : Nat) (l : List IOper) (e : Env) (H : Heap) (e1 : Env) (H1 : Heap) : Prop :=
 ∀ (c : CM) (nt : Nat) (ops : Array Oper) (os : List Oper),cOps P c nt ops os = some l -> ∀ (Q : Exit -> Act -> World -> Prop) (a : Act) (w : World) (m : MM) (base : Nat -> Prop),Sim lo base m H w.heap -> EnvR m e a nt ->
  (∀ a' w' m',MM.agree H.length m m' -> Sim lo base m' H1 w'.heap -> EnvR m' e1 a' nt -> Kept base w w' -> Q .normal a' w') -> wpList P ops Q os a w
def PreS (lo : Nat) : Nat -> List IOper -> Env -> Heap -> Env -> Heap -> Prop
 | 0,l,e,H,e1,H1 => OpsS P lo l e H e1 H1
 | p + 1,o :: r,e,H,e1,H1 => ∃ em Hm,((o.runs e = false /\ em = putE e o.dst undef /\ Hm = H) \/ (o.runs e = true /\ OpS P H.length o.dst o.op e H em Hm)) /\ Ext H.length H Hm /\ PreS lo p r em Hm e1 H1
 | _ + 1,[],_,_,_,_ => False
def PrwS (lo : Nat) : Nat -> List IOper -> Env -> Heap -> Env -> Heap -> Prop
 | 0,o :: r,e,H,e1,H1 => ∃ em Hm,o.runs e = true /\ H.length <= Hm.length /\ OpS P lo o.dst o.op e H em Hm /\ OpsS P lo r em Hm e1 H1
 | p + 1,o :: r,e,H,e1,H1 => ∃ em Hm,((o.runs e = false /\ em = putE e o.dst undef /\ Hm = H) \/ (o.runs e = true /\ OpS P H.length o.dst o.op e H em Hm)) /\ (o.guard = none -> pureI o.op = true -> ∃ v,em = putE e o.dst v /\ ∀ (lo : Nat) (H : Heap),iop lo o.op e H = some (v,H)) /\ Ext H.length H Hm /\ PrwS lo p r em Hm e1 H1
 | _,[],_,_,_,_ => False
def PrxS (lo : Nat) (X : List Nat) : Nat -> List IOper -> Env -> Heap -> Env -> Heap -> Prop
 | 0,l,e,H,e1,H1 => OpsS P lo l e H e1 H1
 | p + 1,o :: r,e,H,e1,H1 => ∃ em Hm,((o.runs e = false /\ em = putE e o.dst undef /\ Hm = H) \/ (o.runs e = true /\ isB o.op = false /\ ∃ L,Hm = H ++ L /\ OpS P H.length o.dst o.op e (hide X H) em (hide X H ++ L)) \/
   (o.runs e = true /\ isN o.op = true /\ ∃ d v,o.dst = some d /\ em = putE e o.dst v /\ scal v = true /\ Hm.length = H.length /\ (∀ b,b ∉ X -> Hm[b]? = H[b]?) /\
    (∀ (b : Nat) (k k' : Blk),H[b]? = some k -> Hm[b]? = some k' -> ∀ (j : Nat) (v : Value),k'.cells[j]? = some v -> k.cells[j]? = some v \/ scal1 v = true) /\ ∀ E,∃ G,OpS P lo o.dst o.op e (H ++ E) em (Hm ++ (E ++ G))) \/
   (o.runs e = true /\ isB o.op = true /\ H.length <= Hm.length /\ (∀ b,b ∉ X -> b < H.length -> Hm[b]? = H[b]?) /\ OpS P lo o.dst o.op e H em Hm)) /\ PrxS lo X p r em Hm e1 H1
 | _ + 1,[],_,_,_,_ => False
def CodeS (lo : Nat) (ic : ICode) (e : Env) (H : Heap) (x : X) (e1 : Env) (H1 : Heap) : Prop :=
 ∀ (c : CM) (nt : Nat) (co : Code),cCode P c nt co = some ic -> ∀ (Q : Exit -> Act -> World -> Prop) (a : Act) (w : World) (m : MM) (base : Nat -> Prop),Sim lo base m H w.heap -> EnvR m e a nt ->
  (∀ a' w' m',MM.agree H.length m m' -> Sim lo base m' H1 w'.heap -> EnvR m' e1 a' nt -> Kept base w w' -> Q x.toExit a' w') -> co.wp P Q a w
def LoopS (lo : Nat) (ic : ICode) (e : Env) (H : Heap) (x : X) (e1 : Env) (H1 : Heap) : Prop :=
 ∀ (c : CM) (nt : Nat) (co : Code),cCode P c nt co = some ic -> ∀ (Q : Exit -> Act -> World -> Prop) (a : Act) (w : World) (m : MM) (base : Nat -> Prop),Sim lo base m H w.heap -> EnvR m e a nt ->
  (∀ a' w' m',MM.agree H.length m m' -> Sim lo base m' H1 w'.heap -> EnvR m' e1 a' nt -> Kept base w w' -> Q x.toExit a' w') ->
  ∀ (b : Frame) (k : List Item) (cs : List Frame),∃ ex a' w',Q ex a' w' /\ Arrives P (lone (b.at a (.code co :: .inLoop co :: k)) cs w) b k cs ex a' w'
def TaskS (lo : Nat) (t : Task) (e : Env) (H : Heap) (x : X) (e1 : Env) (H1 : Heap) : Prop :=
 match t with
 | .code ic => CodeS P lo ic e H x e1 H1
 | .lp ic => LoopS P lo ic e H x e1 H1
 | .ops l => OpsS P lo l e H e1 H1
 | .pre p l => PreS P lo p l e H e1 H1
 | .prw q l => PrwS P lo q l e H e1 H1
 | .prx X p l => PrxS P lo X p l e H e1 H1
 | .op d io => OpS P lo d io e H e1 H1
end
theorem X.toExit_ne {x : X} (h : x ≠ .n) (Q Q' : Exit -> Act -> World -> Prop) (K : Act -> World -> Prop) (a : Act) (w : World) (hq : Q x.toExit a w) : Exit.then K Q x.toExit a w := by
 cases x with
 | n => exact absurd rfl h
 | e => exact hq
 | r => exact hq
theorem op_of_does {P : Program} {o : Oper} {a : Act} {w : World} {lo : Nat} {base : Nat -> Prop} {m : MM} {H : Heap} {v : Value} {H1 : Heap} {d : Option Nat} (hd : o.dst = d) (h : OpDoes P o a w lo base m H v H1) (next : Act -> World -> Prop) (Q : Exit -> Act -> World -> Prop)
  (hn : ∀ v' w' m',MM.agree H.length m m' -> Sim lo base m' H1 w'.heap -> VR m' v v' -> Kept base w w' -> next (a.put d v') w') : o.wp P a w next Q := by
 obtain ⟨v',w',m',hr,h1,h2,h3,h4,_⟩ := h
 unfold Oper.wp
 rcases hr with hr | ⟨hr,rfl⟩
 ·rw [hr]; subst hd; exact hn v' w' m' h1 h2 h3 h4
 ·rw [hr]; subst hd; exact hn _ w' m' h1 h2 h3 h4
theorem ini_env {m : MM} {xs ys : List Value} (h : All2 (VR m) xs ys) (nt : Nat) (hn : xs.length <= nt) :
  EnvR m (ini xs) { tmps := ys.toArray ++ Array.replicate (nt - ys.toArray.size) undef,defers := [] } nt := by
 have hl := h.1
 refine ⟨rfl,by simp; omega,fun i => ?_⟩
 unfold ini
 rw [Array.getD_eq_getD_getElem?,Array.getElem?_append]
 simp only [List.size_toArray,List.getElem?_toArray]
 rw [List.getD_eq_getElem?_getD]
 by_cases hi : i < ys.length
 ·rw [if_pos hi]
  obtain ⟨y,hy,r⟩ := h.2 i xs[i] (List.getElem?_eq_getElem (by omega))
  rw [hy,List.getElem?_eq_getElem (by omega)]
  exact r
 ·rw [if_neg hi,List.getElem?_eq_none (by omega)]
  rw [Array.getElem?_replicate]
  split <;> exact VR.undef
section
variable {P : Program} {lo : Nat} {base : Nat -> Prop} {m : MM} {H : Heap} {w : World} {e : Env} {a : Act} {nt : Nat}
def rd1 (tmps : Array Value) : ResultVar -> Sem Value
 | .tmp t => pure (tmps.getD t undef)
 | .cell ad t => do loadVar t (<- asAddr (tmps.getD ad undef))
theorem res1_does {r : ResultVar} {ir : IRes} (hc : cRes P r = some ir) {v : Value} (hv : res1 e H ir = some v) (s : Sim lo base m H w.heap) (he : EnvR m e a nt) :
  ∃ v',(rd1 a.tmps r).run P w = .ok v' w /\ VR m v v' := by
 cases r with
 | tmp t =>
   cases hc
   simp only [res1,Option.some.injEq] at hv
   subst hv
   exact ⟨_,rfl,he.val t⟩
 | cell ad t =>
   simp only [cRes,Option.bind_eq_some_iff] at hc
   obtain ⟨d,hu,i,hi,hc⟩ := hc
   split at hc
   case isFalse => cases hc
   case isTrue hd =>
    cases hc
    simp only [res1] at hv
    split at hv
    case h_2 => cases hv
    case h_1 p hp =>
     simp only [Option.bind_eq_some_iff] at hv
     obtain ⟨cs,hg,hv⟩ := hv
     have h1 := he.val ad
     rw [hp] at h1
     obtain ⟨mb,hm,_,hax⟩ := h1.ptr
     obtain ⟨cs',h2,h3,h4⟩ := s.read hg hm
     obtain ⟨v',h5,h6⟩ := valOf_does h2 hv
     refine ⟨v',?_,h5⟩
     have hl : cs'.length = i.size := by rw [<- h2.1,h4]
     have hread : ∀ j v,cs'[j]? = some v -> w.cell? ((⟨mb.blk,mb.off + p.off,none⟩ : Addr).add j) = some v := fun j v hj => by
      rw [Addr.add_lit]; exact h3 j v hj
     cases hagg : isAggD d with
     | true =>
       rw [hagg] at h6
       simp only [if_true] at h6
       subst h6
       have hlc := run_loadCells_list (P := P) w _ cs' hread
       rw [hl] at hlc
       have hia : (isAgg t).run P w = .ok true w := by
        simp only [isAgg,Sem.run_bind,run_underlying hu,Result.andThen_ok]
        cases d <;> simp [isAggD] at hagg <;> rfl
       show (asAddr (a.tmps.getD ad undef) >>= fun x => loadVar t x).run P w = _
       rw [hax]
       simp [asAddr,loadVar,hia,sizeOf,typeInfo,hi,hlc]
     | false =>
       rw [hagg] at h6
       simp only [Bool.false_eq_true,if_false] at h6
       subst h6
       have hcl := hread 0 v' rfl
       rw [Addr.add_zero'] at hcl
       have hia : (isAgg t).run P w = .ok false w := by
        simp only [isAgg,Sem.run_bind,run_underlying hu,Result.andThen_ok]
        cases d <;> simp [isAggD] at hagg <;> rfl
       show (asAddr (a.tmps.getD ad undef) >>= fun x => loadVar t x).run P w = _
       rw [hax]
       simp [asAddr,loadVar,hia,hcl]
theorem resL_does : ∀ (rs : List ResultVar) (irs : List IRes) (vs : List Value),cResL P rs = some irs -> resL e H irs = some vs -> Sim lo base m H w.heap -> EnvR m e a nt ->
  ∃ vs',(rs.mapM (rd1 a.tmps)).run P w = .ok vs' w /\ All2 (VR m) vs vs'
 | [],irs,vs,hc,hv,s,he => by
   simp only [cResL,Option.some.injEq] at hc
   subst hc
   simp only [resL,Option.some.injEq] at hv
   subst hv
   exact ⟨[],by simp,All2.nil⟩
 | r :: rs,irs,vs,hc,hv,s,he => by
   simp only [cResL,Option.bind_eq_some_iff,Option.map_eq_some_iff] at hc
   obtain ⟨ir,h1,irs',h2,rfl⟩ := hc
   simp only [resL,Option.bind_eq_some_iff,Option.map_eq_some_iff] at hv
   obtain ⟨v,h3,vs1,h4,rfl⟩ := hv
   obtain ⟨v',h5,h6⟩ := res1_does h1 h3 s he
   obtain ⟨vs',h7,h8⟩ := resL_does rs irs' vs1 h2 h4 s he
   refine ⟨v' :: vs',?_,All2.cons h6 h8⟩
   simp only [List.mapM_cons,Sem.run_bind,h5,h7,Result.andThen_ok,Sem.run_pure]
theorem resV_does {fn : Func} {irs : List IRes} (hc : cResL P fn.results.toList = some irs) {v : Value} (hv : resV irs e H = some v)
  (s : Sim lo base m H w.heap) (he : EnvR m e a nt) : ∃ v',(results fn a.tmps).run P w = .ok v' w /\ VR m v v' := by
 have hlen : ∀ (rs : List ResultVar) (irs : List IRes),cResL P rs = some irs -> rs.length = irs.length := by
  intro rs
  induction rs with
  | nil => intro irs h; simp only [cResL,Option.some.injEq] at h; subst h; rfl
  | cons r rs ih =>
    intro irs h
    simp only [cResL,Option.bind_eq_some_iff,Option.map_eq_some_iff] at h
    obtain ⟨ir,_,irs',h2,rfl⟩ := h
    simp [ih _ h2]
 have hl := hlen _ _ hc
 have hLres : ∃ vs,resL e H irs = some vs /\ ((irs.length = 1 /\ vs = [v]) \/ (irs.length ≠ 1 /\ v = .tuple vs.toArray /\ vs.all notT = true)) := by
  unfold resV at hv
  split at hv
  ·rename_i r
   exact ⟨[v],by simp [resL,hv],.inl ⟨rfl,rfl⟩⟩
  ·rename_i hne
   simp only [Option.bind_eq_some_iff] at hv
   obtain ⟨vs,h1,hv⟩ := hv
   split at hv
   case isFalse => cases hv
   case isTrue hnt =>
   cases hv
   refine ⟨vs,h1,.inr ⟨?_,rfl,hnt⟩⟩
   intro h
   match irs,h with
   | [r],_ => exact hne r rfl
 obtain ⟨vs,h1,h2⟩ := hLres
 obtain ⟨vs',h3,h4⟩ := resL_does _ _ _ hc h1 s he
 have hrun : (results fn a.tmps).run P w = .ok (if h : vs'.toArray.size = 1 then vs'.toArray[0] else .tuple vs'.toArray) w := by
  unfold results
  rw [Array.mapM_eq_mapM_toList]
  have hcongr : ∀ f : ResultVar -> Sem Value,(∀ r,f r = rd1 a.tmps r) -> (List.mapM f fn.results.toList).run P w = .ok vs' w := fun f hf => by rw [funext hf]; exact h3
  simp only [Sem.run_bind,Sem.run_map]
  rw [hcongr _ (fun r => by cases r <;> rfl)]
  simp only [Result.andThen_ok,Sem.run_pure]
 refine ⟨_,hrun,?_⟩
 have hl2 := h4.1
 rcases h2 with ⟨hlen1,rfl⟩ | ⟨hlen1,rfl,hnt⟩
 ·obtain ⟨v',rfl⟩ : ∃ v',vs' = [v'] := by
   cases vs' with
   | nil => simp at hl2
   | cons v' t => cases t with
     | nil => exact ⟨v',rfl⟩
     | cons => simp at hl2
  obtain ⟨y,hy,r⟩ := h4.2 0 v rfl
  simp only [List.getElem?_cons_zero,Option.some.injEq] at hy
  subst hy
  simpa using r
 ·have hvl : vs.length = irs.length := by
   have : ∀ (irs : List IRes) (vs : List Value),resL e H irs = some vs -> vs.length = irs.length := by
    intro irs
    induction irs with
    | nil => intro vs h; simp only [resL,Option.some.injEq] at h; subst h; rfl
    | cons r irs ih =>
      intro vs h
      simp only [resL,Option.bind_eq_some_iff,Option.map_eq_some_iff] at h
      obtain ⟨_,_,vs1,h4,rfl⟩ := h
      simp [ih _ h4]
   exact this _ _ h1
  rw [dif_neg (by simp; omega)]
  refine .inr ⟨_,_,rfl,rfl,?_⟩
  refine All2.mono (R := VR m) (by simpa using h4) fun x y hx r => ?_
  rcases r with r | ⟨cs,cs',rfl,_⟩
  ·exact r
  ·have := List.all_eq_true.1 hnt _ (by simpa using hx)
   simp [notT] at this
end
end Go.Proofs.YtbjeldblaclpnaaGreatI
end
end
