/- Texts of this proof, merged: M2. -/
import Derived.Test.YtiekbdijpfnagaaPx1
section
/- Texts of this proof, merged: I4, I5. -/
section
/- What the ideal machine does the given code does: calls, code, loops, regions. -/
set_option linter.unusedVariables false
set_option linter.unusedSimpArgs false
namespace Go.Proofs.YtiekbdijpfnagaaI
open Go Go.RowKit

/-! ### The code laid over -/
def dstOk (nt : Nat) : Option Nat → Bool
  | some d => decide (d < nt)
  | none => true

def cOper (P : Program) (c : CM) (nt : Nat) (ops : Array Oper) (o : Oper) : Option IOper :=
  (cOp P c o).bind fun io =>
    if dstOk nt o.dst = true then
      match o.guard with
      | none => some ⟨o.dst, none, io⟩
      | some (j, w) => ((ops[j]?).bind (·.dst)).map fun g => ⟨o.dst, some (g, w), io⟩
    else none

def cOps (P : Program) (c : CM) (nt : Nat) (ops : Array Oper) : List Oper → Option (List IOper)
  | [] => some []
  | o :: r => (cOper P c nt ops o).bind fun o' => (cOps P c nt ops r).map (o' :: ·)

/-- Of each operation those that it waits for, as bits. -/
def befs (ops : Array Oper) : Nat → List Nat
  | 0 => []
  | k + 1 => befs ops k ++ [(ops.getD k default).after.toList.foldl (fun s e => if Region.binds .any e then s ||| 2 ^ e.on ||| (befs ops k).getD e.on 0 else s) 0]

/-- From place p on each operation waits for all ahead of it; of those ahead two that touch the same temporary are ordered. -/
def okD (ops : Array Oper) (p : Nat) : Bool :=
  let b := befs ops ops.size
  (List.range ops.size).all fun j => (ops.getD j default).after.toList.all (fun e => !Region.binds .any e || decide (e.on < j)) && (List.range j).all fun i =>
    (b.getD j 0).testBit i || (decide (j < p) && (ops.getD i default).apart ops (ops.getD j default))

def prefixLen (ops : Array Oper) : Nat :=
  ((List.range (ops.size + 1)).find? fun k => okD ops k).getD 0

/-- Of those ahead of place p two that may write are ordered. -/
def okN (ops : Array Oper) (l : List IOper) (p : Nat) : Bool :=
  let b := befs ops ops.size
  (List.range p).all fun j => (List.range j).all fun i => !((match l[i]? with | some o => isN o.op | none => false) && (match l[j]? with | some o => isN o.op | none => false)) || (b.getD j 0).testBit i

/-- The operation at place q appends, and waits for all ahead of it but moves; no call ahead of it writes. -/
def okW (ops : Array Oper) (l : List IOper) (q : Nat) : Bool :=
  appO l[q]? && (List.range q).all (fun i => ((befs ops ops.size).getD q 0).testBit i || (match l[i]? with | some o => movO o | none => false)) && (l.take q).all (fun o => !isN o.op)
def regK (ops : Array Oper) (l : List IOper) (p : Nat) : ICode := if decide (1 ≤ p) && okW ops l (p - 1) then .regW (p - 1) l else .reg (some p) l
theorem regK_cases {ops : Array Oper} {l : List IOper} {p : Nat} {ic : ICode} (h : regK ops l p = ic) : ic = .reg (some p) l ∨ ∃ q, p = q + 1 ∧ okW ops l q = true ∧ ic = .regW q l := by
  unfold regK at h
  split at h
  · rename_i hh
    simp only [Bool.and_eq_true, decide_eq_true_eq] at hh
    exact .inr ⟨p - 1, by omega, hh.2, h.symm⟩
  · exact .inl h.symm
@[simp] theorem regK_skip {ops : Array Oper} {l : List IOper} {p : Nat} : regK ops l p ≠ .skip := fun h => by rcases regK_cases h with h | ⟨_, _, _, h⟩ <;> cases h
@[simp] theorem regK_reg0 {ops : Array Oper} {l l' : List IOper} {p : Nat} : regK ops l p ≠ .reg none l' := fun h => by rcases regK_cases h with h | ⟨_, _, _, h⟩ <;> cases h
@[simp] theorem regK_seq {ops : Array Oper} {l : List IOper} {p : Nat} {a b : ICode} : regK ops l p ≠ .seq a b := fun h => by rcases regK_cases h with h | ⟨_, _, _, h⟩ <;> cases h
@[simp] theorem regK_cond {ops : Array Oper} {l : List IOper} {p : Nat} {c : Opd} {a b : ICode} : regK ops l p ≠ .cond c a b := fun h => by rcases regK_cases h with h | ⟨_, _, _, h⟩ <;> cases h
@[simp] theorem regK_block {ops : Array Oper} {l : List IOper} {p : Nat} {i : Nat} {b : ICode} : regK ops l p ≠ .block i b := fun h => by rcases regK_cases h with h | ⟨_, _, _, h⟩ <;> cases h
@[simp] theorem regK_loop {ops : Array Oper} {l : List IOper} {p : Nat} {b : ICode} : regK ops l p ≠ .loop b := fun h => by rcases regK_cases h with h | ⟨_, _, _, h⟩ <;> cases h
@[simp] theorem regK_exit {ops : Array Oper} {l : List IOper} {p : Nat} {i : Nat} : regK ops l p ≠ .exit i := fun h => by rcases regK_cases h with h | ⟨_, _, _, h⟩ <;> cases h
@[simp] theorem regK_ret {ops : Array Oper} {l : List IOper} {p : Nat} : regK ops l p ≠ .ret := fun h => by rcases regK_cases h with h | ⟨_, _, _, h⟩ <;> cases h

def cCode (P : Program) (c : CM) (nt : Nat) : Code → Option ICode
  | .skip => some .skip
  | .region _ ops d => if d then (if okD ops (prefixLen ops) then (cOps P c nt ops ops.toList).bind (fun l => if okN ops l (prefixLen ops) then some (regK ops l (prefixLen ops)) else none) else none) else (cOps P c nt ops ops.toList).map (.reg none ·)
  | .seq x y => (cCode P c nt x).bind fun x' => (cCode P c nt y).map (.seq x' ·)
  | .cond q x y => (cOpd q).bind fun q' => (cCode P c nt x).bind fun x' => (cCode P c nt y).map (.cond q' x' ·)
  | .block id x => (cCode P c nt x).map (.block id ·)
  | .loop x => (cCode P c nt x).map .loop
  | .exit id => some (.exit id)
  | .ret => some .ret
  | _ => none

def cRes (P : Program) : ResultVar → Option IRes
  | .tmp t => some (.t t)
  | .cell a t => (P.underlying t).bind fun d => (P.info? t).bind fun i => if isAggD d = true ∨ i.size = 1 then some (.cell (isAggD d) i.size a) else none

def cResL (P : Program) : List ResultVar → Option (List IRes)
  | [] => some []
  | r :: rs => (cRes P r).bind fun r' => (cResL P rs).map (r' :: ·)

def cFn (P : Program) (cm : Nat → CM) (f : Nat) : Option IFn :=
  (P.funcs[f]?).bind fun fn => fn.body.bind fun c =>
    if fn.name ≠ "runtime.NumGoroutine" ∧ fn.params.size + fn.nfree ≤ fn.ntmps then
      (cCode P (cm f) fn.ntmps c).bind fun ic => (cResL P fn.results.toList).map fun rs => ⟨fn.params.size + fn.nfree, fn.ntmps, rs, ic⟩
    else none

/-! ### What is not written stays -/
theorem getElem?_append_lt {H : Heap} {k : Blk} {b : Nat} (h : b < H.length) : (H ++ [k])[b]? = H[b]? := List.getElem?_append_left h

def Ext (lo : Nat) (H H1 : Heap) : Prop := H.length ≤ H1.length ∧ ∀ b, b < lo → b < H.length → H1[b]? = H[b]?
theorem Ext.refl (lo : Nat) (H : Heap) : Ext lo H H := ⟨Nat.le_refl _, fun _ _ _ => rfl⟩
theorem Ext.trans {lo : Nat} {H H1 H2 : Heap} (h : Ext lo H H1) (h' : Ext lo H1 H2) : Ext lo H H2 :=
  ⟨Nat.le_trans h.1 h'.1, fun b h1 h2 => (h'.2 b h1 (Nat.lt_of_lt_of_le h2 h.1)).trans (h.2 b h1 h2)⟩
theorem Ext.snoc (lo : Nat) (H : Heap) (k : Blk) : Ext lo H (H ++ [k]) := ⟨by simp, fun b _ h => getElem?_append_lt h⟩
theorem Ext.set {lo b : Nat} {H : Heap} (k : Blk) (h : lo ≤ b) : Ext lo H (H.set b k) := ⟨by simp, fun c h1 h2 => by rw [List.getElem?_set_ne (by omega)]⟩
theorem Ext.mono {lo lo' : Nat} {H H1 : Heap} (h : Ext lo' H H1) (hl : lo ≤ lo') : Ext lo H H1 := ⟨h.1, fun b h1 h2 => h.2 b (by omega) h2⟩

theorem iop_ext {lo : Nat} {o : IOp} {e : Env} {H H1 : Heap} {v : Value} (h : iop lo o e H = some (v, H1)) : Ext lo H H1 := by
  cases o <;> simp only [iop] at h
  case store n x y =>
    split at h
    case h_2 => cases h
    case h_1 =>
      split at h
      case h_2 => cases h
      case h_1 =>
        split at h
        case isFalse => cases h
        case isTrue hq =>
          simp only [Option.some.injEq, Prod.mk.injEq] at h
          obtain ⟨_, rfl⟩ := h
          exact Ext.set _ hq.1
  case app es et bytes kill x y =>
    split at h
    case h_2 => cases h
    case h_1 b n c ad m c' _ _ =>
      split at h
      case isTrue =>
        simp only [Option.some.injEq, Prod.mk.injEq] at h
        obtain ⟨_, rfl⟩ := h
        exact Ext.refl _ _
      case isFalse =>
        cases ad with
        | none => cases h
        | some ad =>
          simp only at h
          split at h
          case h_1 => cases h
          case h_2 =>
            cases b with
            | none =>
              simp only at h
              split at h
              case isFalse => cases h
              case isTrue =>
                simp only [Option.some.injEq, Prod.mk.injEq] at h
                obtain ⟨_, rfl⟩ := h
                exact Ext.snoc _ _ _
            | some b =>
              simp only at h
              split at h
              case h_1 => cases h
              case h_2 =>
                split at h
                case isFalse =>
                  split at h
                  case isFalse => cases h
                  case isTrue hq =>
                    simp only [Option.some.injEq, Prod.mk.injEq] at h
                    obtain ⟨_, rfl⟩ := h
                    exact Ext.snoc _ _ _
                case isTrue hq =>
                  simp only [Option.some.injEq, Prod.mk.injEq] at h
                  obtain ⟨_, rfl⟩ := h
                  exact (Ext.set _ hq.1).trans (Ext.snoc _ _ _)
  case new => simp only [Option.some.injEq, Prod.mk.injEq] at h; obtain ⟨_, rfl⟩ := h; exact Ext.snoc _ _ _
  case box =>
    split at h
    case isFalse => cases h
    case isTrue => simp only [Option.some.injEq, Prod.mk.injEq] at h; obtain ⟨_, rfl⟩ := h; exact Ext.snoc _ _ _
  case lit =>
    simp only [Option.map_eq_some_iff, Prod.mk.injEq] at h
    obtain ⟨_, _, _, rfl⟩ := h
    exact Ext.snoc _ _ _
  case mks =>
    split at h
    case h_2 => cases h
    case h_1 =>
      split at h
      case isFalse => cases h
      case isTrue => simp only [Option.some.injEq, Prod.mk.injEq] at h; obtain ⟨_, rfl⟩ := h; exact Ext.snoc _ _ _
  all_goals
    have hH : H1 = H := by
      revert h
      repeat' split
      all_goals first
        | (intro h; cases h; done)
        | (intro h; simp only [Option.some.injEq, Prod.mk.injEq] at h; exact h.2.symm)
        | (intro h; simp only [Option.map_eq_some_iff, Prod.mk.injEq] at h; obtain ⟨_, _, _, h⟩ := h; exact h.symm)
        | (intro h; simp only [Option.bind_eq_some_iff, Option.map_eq_some_iff, Prod.mk.injEq] at h; obtain ⟨_, _, _, _, _, h⟩ := h; exact h.symm)
    subst hH
    exact Ext.refl _ _

theorem BS.ext {F : Nat → Option IFn} {lo : Nat} {t : Task} {e : Env} {H : Heap} {x : X} {e1 : Env} {H1 : Heap} (h : BS F lo t e H x e1 H1) : Ext lo H H1 := by
  induction h with
  | skip => exact Ext.refl _ _
  | reg _ ih => exact ih
  | regD _ ih => exact ih
  | seqN _ _ ih1 ih2 => exact ih1.trans ih2
  | seqX _ _ ih => exact ih
  | cond _ _ ih => exact ih
  | block _ ih => exact ih
  | loop _ ih => exact ih
  | lpN _ _ ih1 ih2 => exact ih1.trans ih2
  | lpX _ _ ih => exact ih
  | exit => exact Ext.refl _ _
  | ret => exact Ext.refl _ _
  | nil => exact Ext.refl _ _
  | skp _ _ ih => exact ih
  | cons _ _ _ ih1 ih2 => exact ih1.trans ih2
  | px0 _ ih => exact ih
  | pxSkp _ _ ih => exact ih
  | @pxA lo X p o r e H e1 L e2 H2 _ _ _ _ ih1 ih2 => exact Ext.trans ⟨by rw [List.length_append]; omega, fun b _ h2 => List.getElem?_append_left h2⟩ ih2
  | @pxB lo X p o r e H d v H1 e2 H2 G _ _ _ _ hl _ _ _ _ ih1 ih2 =>
    refine Ext.trans ⟨by omega, fun b h1 h2 => ?_⟩ ih2
    have h3 := (ih1 []).2 b h1 (by simpa using h2)
    simp only [List.append_nil, List.nil_append] at h3
    rwa [List.getElem?_append_left (by omega)] at h3
  | regX _ _ ih => exact ih
  | pw0 _ _ _ ih1 ih2 => exact ih1.trans ih2
  | pwSkp _ _ ih => exact ih
  | @pwCons lo p o r e H e1 H1 e2 H2 _ _ _ ih1 ih2 =>
    exact Ext.trans ⟨ih1.1, fun b _ h2 => ih1.2 b h2 h2⟩ ih2
  | regW _ ih => exact ih
  | pre0 _ ih => exact ih
  | preSkp _ _ ih => exact ih
  | @preCons lo p o r e H e1 H1 e2 H2 _ _ _ ih1 ih2 => 
    exact Ext.trans ⟨ih1.1, fun b _ h2 => ih1.2 b h2 h2⟩ ih2
  | regV _ _ _ _ _ _ ih1 ih2 => exact ih1.trans ih2
  | prim h => exact iop_ext h
  | callN _ _ _ _ _ _ ih => exact ih
  | callK _ _ _ _ _ _ ih => exact ⟨ih.1, fun b _ h2 => ih.2 b h2 h2⟩
  | callQ _ _ _ _ _ _ _ _ => exact Ext.refl _ _

/-! ### Worlds -/
section
variable {lo base : Nat} {m : MM} {H H1 : Heap} {h h' : Array Obj}

/-- All there is is closed to writing. -/
theorem Sim.shut (s : Sim lo base m H h) : Sim H.length h.size m H h := by
  refine ⟨s.dom, s.cell, ?_, ?_, ?_, Nat.le_refl _, Nat.le_refl _, s.zc⟩
  · intro b x k hl hm; exact absurd (s.dom b x hm) (by omega)
  · intro b b' x x' k k' _ hl _ hm; exact absurd (s.dom b x hm) (by omega)
  · intro b x hl hm
    obtain ⟨k, hk⟩ : ∃ k, H[b]? = some k := ⟨H[b], List.getElem?_eq_getElem hl⟩
    exact s.lt hm hk

/-- Nothing that was there has turned. -/
theorem Sim.later (s : Sim lo base m H h) (hs : h.size ≤ h'.size) (hb : ∀ c, c < h.size → h'[c]? = h[c]?) : Sim lo base m H h' := by
  have old : ∀ c o, h[c]? = some o → h'[c]? = some o := fun c o hc => by rw [hb c (Array.getElem?_eq_some_iff.1 hc).1]; exact hc
  refine ⟨s.dom, ?_, ?_, s.sep, s.old, Nat.le_trans s.bnd hs, s.low, s.zc⟩
  · intro b x k hm hk
    obtain ⟨cs, t, fr, h1, h2⟩ := s.cell b x k hm hk
    exact ⟨cs, t, fr, old _ _ h1, h2⟩
  · intro b x k hl hm hk
    obtain ⟨p1, p2, p3, cs, p4, p5⟩ := s.own b x k hl hm hk
    exact ⟨p1, p2, p3, cs, old _ _ p4, p5⟩

/-- Behind a call that wrote nothing that was there. -/
theorem Sim.back (s : Sim lo base m H h) {m' : MM} (s' : Sim H.length h.size m' H1 h') (hag : MM.agree H.length m m') (hE : Ext H.length H H1)
    (hb : ∀ c, c < h.size → h'[c]? = h[c]?) : Sim lo base m' H1 h' := by
  have old : ∀ c o, h[c]? = some o → h'[c]? = some o := fun c o hc => by rw [hb c (Array.getElem?_eq_some_iff.1 hc).1]; exact hc
  have hlt : ∀ b x, b < H.length → m' b = some x → m b = some x ∧ x.blk < h.size := fun b x hl hm => ⟨(hag b hl) ▸ hm, s'.old b x hl hm⟩
  refine ⟨s'.dom, s'.cell, ?_, ?_, ?_, Nat.le_trans s.bnd s'.bnd, Nat.le_trans s.low hE.1, s'.zc⟩
  · intro b x k hl hm hk
    rcases Nat.lt_or_ge b H.length with hb' | hb'
    · rw [hE.2 b hb' hb'] at hk
      obtain ⟨p1, p2, p3, cs, p4, p5⟩ := s.own b x k hl (hlt b x hb' hm).1 hk
      exact ⟨p1, p2, p3, cs, old _ _ p4, p5⟩
    · obtain ⟨p1, p2⟩ := s'.own b x k hb' hm hk
      exact ⟨Nat.le_trans s.bnd p1, p2⟩
  · intro b b' x x' k k' hne hl hl' hm hm' hk hk' he
    rcases Nat.lt_or_ge b H.length with hb1 | hb1
    · rcases Nat.lt_or_ge b' H.length with hb2 | hb2
      · rw [hE.2 b hb1 hb1] at hk
        rw [hE.2 b' hb2 hb2] at hk'
        exact s.sep b b' x x' k k' hne hl hl' (hlt b x hb1 hm).1 (hlt b' x' hb2 hm').1 hk hk' he
      · have := (hlt b x hb1 hm).2
        have := (s'.own b' x' k' hb2 hm' hk').1
        omega
    · rcases Nat.lt_or_ge b' H.length with hb2 | hb2
      · have := (hlt b' x' hb2 hm').2
        have := (s'.own b x k hb1 hm hk).1
        omega
      · exact s'.sep b b' x x' k k' hne hb1 hb2 hm hm' hk hk' he
  · intro b x hl hm
    have hb1 : b < H.length := Nat.lt_of_lt_of_le hl s.low
    exact s.old b x hl (hlt b x hb1 hm).1
end

theorem scal1_VR {m m' : MM} {v v' : Value} (h : scal1 v = true) (r : VR1 m v v') : VR1 m' v v' := by
  rcases r with r | ⟨g, f, c, f', c', rfl, _⟩
  · cases v <;> simp [scal1] at h <;> exact .inl r
  · simp [scal1] at h
theorem scalA_VR {m m' : MM} {v v' : Value} (h : scalA v = true) (r : VA m v v') : VA m' v v' := by
  rcases r with r | ⟨cs, cs', rfl, rfl, r⟩
  · refine .inl (scal1_VR ?_ r)
    cases v <;> first | exact h | (have := r.one_left; simp [one] at this)
  · exact .inr ⟨cs, cs', rfl, rfl, r.mono fun x y hx r => scal1_VR (List.all_eq_true.1 h x hx) r⟩
theorem scal_VR {m m' : MM} {v v' : Value} (h : scal v = true) (r : VR m v v') : VR m' v v' := by
  rcases r with r | ⟨cs, cs', rfl, rfl, r⟩
  · refine .inl ?_
    rcases r with r | ⟨cs, cs', rfl, rfl, r⟩
    · refine .inl (scal1_VR ?_ r)
      have := r.one_left
      cases v <;> first | exact h | simp [one] at this
    · exact .inr ⟨cs, cs', rfl, rfl, r.mono fun x y hx r => scal1_VR (List.all_eq_true.1 h x hx) r⟩
  · exact .inr ⟨cs, cs', rfl, rfl, r.mono fun x y hx r => scalA_VR (List.all_eq_true.1 h x hx) r⟩

end Go.Proofs.YtiekbdijpfnagaaI
end
section
/- What the ideal machine does the given code does. -/
set_option linter.unusedVariables false
set_option linter.unusedSimpArgs false
namespace Go.Proofs.YtiekbdijpfnagaaI
open Go Go.RowKit

def X.toExit : X → Exit
  | .n => .normal
  | .e id => .exit id
  | .r => .ret

structure EnvR (m : MM) (e : Env) (a : Act) (nt : Nat) : Prop where
  defers : a.defers = []
  size : a.tmps.size = nt
  val : ∀ i, VR m (e i) (a.tmps.getD i undef)

theorem VR.undef {m : MM} : VR m undef undef := .inr ⟨#[], #[], rfl, rfl, All2.nil⟩

theorem EnvR.mono {m m' : MM} {e : Env} {a : Act} {nt : Nat} (h : EnvR m e a nt) (hs : m.sub m') : EnvR m' e a nt := ⟨h.defers, h.size, fun i => (h.val i).mono hs⟩

theorem put_tmps (a : Act) (d : Option Tmp) (v : Value) (t : Nat) (hd : dstOk a.tmps.size d = true) :
    (a.put d v).tmps.getD t undef = if d = some t then v else a.tmps.getD t undef := by
  cases d with
  | none => simp [Act.put]
  | some d =>
    simp only [dstOk, decide_eq_true_eq] at hd
    simp only [Act.put, Option.some.injEq]
    rw [Array.getD_eq_getD_getElem?, Array.getElem?_setIfInBounds]
    split
    · rename_i h; subst h; simp [hd]
    · rename_i h; rw [Array.getD_eq_getD_getElem?]

theorem EnvR.put {m m' : MM} {e : Env} {a : Act} {nt : Nat} (h : EnvR m e a nt) (hs : m.sub m') (d : Option Nat) {v v' : Value} (r : VR m' v v') (hd : dstOk nt d = true) :
    EnvR m' (putE e d v) (a.put d v') nt := by
  refine ⟨?_, ?_, fun i => ?_⟩
  · cases d <;> exact h.defers
  · cases d <;> simp [Act.put, h.size]
  · rw [put_tmps a d v' i (by rw [h.size]; exact hd)]
    cases d with
    | none => simpa [putE] using (h.val i).mono hs
    | some d =>
      simp only [putE, Option.some.injEq]
      by_cases hi : i = d
      · subst hi; simpa using r
      · rw [if_neg hi, if_neg (fun h => hi h.symm)]; exact (h.val i).mono hs

theorem EnvR.okU {m : MM} {e : Env} {a : Act} {nt : Nat} (h : EnvR m e a nt) (xs : Array Operand) : OkU m e a xs := fun t _ => by
  simpa [Act.eval] using h.val t

theorem iop_pure {lo : Nat} {o : IOp} {e : Env} {H H1 : Heap} {v : Value} (hp : pureI o = true) (h : iop lo o e H = some (v, H1)) : ∀ (lo : Nat) (H : Heap), iop lo o e H = some (v, H) := by
  intro lo' H'
  have key : iop lo' o e H' = (iop lo o e H).map fun p => (p.1, H') := by
    cases o <;> first | (cases hp; done) | skip
    all_goals simp only [iop, Option.map_map]
    all_goals try rfl
    all_goals (repeat' split)
    all_goals first
      | rfl
      | (simp only [Option.map_map]; rfl)
  rw [key, h]
  rfl

section
variable (P : Program) (F : Nat → Option IFn)

/-- What one operation of the given code must do. -/
def OpS (lo : Nat) (d : Option Nat) (io : IOp) (e : Env) (H : Heap) (e1 : Env) (H1 : Heap) : Prop :=
  ∃ v, e1 = putE e d v ∧ ∀ (c : CM) (o : Oper), cOp P c o = some io → o.dst = d → ∀ (a : Act) (w : World) (m : MM) (base : Nat), Sim lo base m H w.heap → OkU m e a o.op.operands →
    ∀ (next : Act → World → Prop) (Q : Exit → Act → World → Prop),
      (∀ v' w' m', MM.agree H.length m m' → Sim lo base m' H1 w'.heap → VR m' v v' → Below base w w' → next (a.put d v') w') → o.wp P a w next Q

def OpsS (lo : Nat) (l : List IOper) (e : Env) (H : Heap) (e1 : Env) (H1 : Heap) : Prop :=
  ∀ (c : CM) (nt : Nat) (ops : Array Oper) (os : List Oper), cOps P c nt ops os = some l → ∀ (Q : Exit → Act → World → Prop) (a : Act) (w : World) (m : MM) (base : Nat), Sim lo base m H w.heap → EnvR m e a nt →
    (∀ a' w' m', MM.agree H.length m m' → Sim lo base m' H1 w'.heap → EnvR m' e1 a' nt → Below base w w' → Q .normal a' w') → wpList P ops Q os a w

def PreS (lo : Nat) : Nat → List IOper → Env → Heap → Env → Heap → Prop
  | 0, l, e, H, e1, H1 => OpsS P lo l e H e1 H1
  | p + 1, o :: r, e, H, e1, H1 => ∃ em Hm, ((o.runs e = false ∧ em = putE e o.dst undef ∧ Hm = H) ∨ (o.runs e = true ∧ OpS P H.length o.dst o.op e H em Hm)) ∧ Ext H.length H Hm ∧ PreS lo p r em Hm e1 H1
  | _ + 1, [], _, _, _, _ => False

def PrwS (lo : Nat) : Nat → List IOper → Env → Heap → Env → Heap → Prop
  | 0, o :: r, e, H, e1, H1 => ∃ em Hm, o.runs e = true ∧ H.length ≤ Hm.length ∧ OpS P lo o.dst o.op e H em Hm ∧ OpsS P lo r em Hm e1 H1
  | p + 1, o :: r, e, H, e1, H1 => ∃ em Hm, ((o.runs e = false ∧ em = putE e o.dst undef ∧ Hm = H) ∨ (o.runs e = true ∧ OpS P H.length o.dst o.op e H em Hm)) ∧ (o.guard = none → pureI o.op = true → ∃ v, em = putE e o.dst v ∧ ∀ (lo : Nat) (H : Heap), iop lo o.op e H = some (v, H)) ∧ Ext H.length H Hm ∧ PrwS lo p r em Hm e1 H1
  | _, [], _, _, _, _ => False

def PrxS (lo : Nat) (X : List Nat) : Nat → List IOper → Env → Heap → Env → Heap → Prop
  | 0, l, e, H, e1, H1 => OpsS P lo l e H e1 H1
  | p + 1, o :: r, e, H, e1, H1 => ∃ em Hm, ((o.runs e = false ∧ em = putE e o.dst undef ∧ Hm = H) ∨ (o.runs e = true ∧ isN o.op = false ∧ ∃ L, Hm = H ++ L ∧ OpS P H.length o.dst o.op e (hide X H) em (hide X H ++ L)) ∨
      (o.runs e = true ∧ isN o.op = true ∧ ∃ d v, o.dst = some d ∧ em = putE e o.dst v ∧ scal v = true ∧ Hm.length = H.length ∧ (∀ b, b ∉ X → Hm[b]? = H[b]?) ∧
        (∀ (b : Nat) (k k' : Blk), H[b]? = some k → Hm[b]? = some k' → ∀ (j : Nat) (v : Value), k'.cells[j]? = some v → k.cells[j]? = some v ∨ scal1 v = true) ∧ ∀ E, ∃ G, OpS P lo o.dst o.op e (H ++ E) em (Hm ++ (E ++ G)))) ∧ PrxS lo X p r em Hm e1 H1
  | _ + 1, [], _, _, _, _ => False

def CodeS (lo : Nat) (ic : ICode) (e : Env) (H : Heap) (x : X) (e1 : Env) (H1 : Heap) : Prop :=
  ∀ (c : CM) (nt : Nat) (co : Code), cCode P c nt co = some ic → ∀ (Q : Exit → Act → World → Prop) (a : Act) (w : World) (m : MM) (base : Nat), Sim lo base m H w.heap → EnvR m e a nt →
    (∀ a' w' m', MM.agree H.length m m' → Sim lo base m' H1 w'.heap → EnvR m' e1 a' nt → Below base w w' → Q x.toExit a' w') → co.wp P Q a w

def LoopS (lo : Nat) (ic : ICode) (e : Env) (H : Heap) (x : X) (e1 : Env) (H1 : Heap) : Prop :=
  ∀ (c : CM) (nt : Nat) (co : Code), cCode P c nt co = some ic → ∀ (Q : Exit → Act → World → Prop) (a : Act) (w : World) (m : MM) (base : Nat), Sim lo base m H w.heap → EnvR m e a nt →
    (∀ a' w' m', MM.agree H.length m m' → Sim lo base m' H1 w'.heap → EnvR m' e1 a' nt → Below base w w' → Q x.toExit a' w') →
    ∀ (b : Frame) (k : List Item) (cs : List Frame), ∃ ex a' w', Q ex a' w' ∧ Arrives P (lone (b.at a (.code co :: .inLoop co :: k)) cs w) b k cs ex a' w'

def TaskS (lo : Nat) (t : Task) (e : Env) (H : Heap) (x : X) (e1 : Env) (H1 : Heap) : Prop :=
  match t with
  | .code ic => CodeS P lo ic e H x e1 H1
  | .lp ic => LoopS P lo ic e H x e1 H1
  | .ops l => OpsS P lo l e H e1 H1
  | .pre p l => PreS P lo p l e H e1 H1
  | .prw q l => PrwS P lo q l e H e1 H1
  | .prx X p l => PrxS P lo X p l e H e1 H1
  | .op d io => OpS P lo d io e H e1 H1

end

theorem X.toExit_ne {x : X} (h : x ≠ .n) (Q Q' : Exit → Act → World → Prop) (K : Act → World → Prop) (a : Act) (w : World) (hq : Q x.toExit a w) : Exit.then K Q x.toExit a w := by
  cases x with
  | n => exact absurd rfl h
  | e => exact hq
  | r => exact hq

theorem op_of_does {P : Program} {o : Oper} {a : Act} {w : World} {lo base : Nat} {m : MM} {H : Heap} {v : Value} {H1 : Heap} {d : Option Nat} (hd : o.dst = d) (h : OpDoes P o a w lo base m H v H1) (next : Act → World → Prop) (Q : Exit → Act → World → Prop)
    (hn : ∀ v' w' m', MM.agree H.length m m' → Sim lo base m' H1 w'.heap → VR m' v v' → Below base w w' → next (a.put d v') w') : o.wp P a w next Q := by
  obtain ⟨v', w', m', hr, h1, h2, h3, h4, _⟩ := h
  unfold Oper.wp
  rcases hr with hr | ⟨hr, rfl⟩
  · rw [hr]; subst hd; exact hn v' w' m' h1 h2 h3 h4
  · rw [hr]; subst hd; exact hn _ w' m' h1 h2 h3 h4

theorem ini_env {m : MM} {xs ys : List Value} (h : All2 (VR m) xs ys) (nt : Nat) (hn : xs.length ≤ nt) :
    EnvR m (ini xs) { tmps := ys.toArray ++ Array.replicate (nt - ys.toArray.size) undef, defers := [] } nt := by
  have hl := h.1
  refine ⟨rfl, by simp; omega, fun i => ?_⟩
  unfold ini
  rw [Array.getD_eq_getD_getElem?, Array.getElem?_append]
  simp only [List.size_toArray, List.getElem?_toArray]
  rw [List.getD_eq_getElem?_getD]
  by_cases hi : i < ys.length
  · rw [if_pos hi]
    obtain ⟨y, hy, r⟩ := h.2 i xs[i] (List.getElem?_eq_getElem (by omega))
    rw [hy, List.getElem?_eq_getElem (by omega)]
    exact r
  · rw [if_neg hi, List.getElem?_eq_none (by omega)]
    rw [Array.getElem?_replicate]
    split <;> exact VR.undef

section
variable {P : Program} {lo base : Nat} {m : MM} {H : Heap} {w : World} {e : Env} {a : Act} {nt : Nat}

def rd1 (tmps : Array Value) : ResultVar → Sem Value
  | .tmp t => pure (tmps.getD t undef)
  | .cell ad t => do loadVar t (← asAddr (tmps.getD ad undef))

theorem res1_does {r : ResultVar} {ir : IRes} (hc : cRes P r = some ir) {v : Value} (hv : res1 e H ir = some v) (s : Sim lo base m H w.heap) (he : EnvR m e a nt) :
    ∃ v', (rd1 a.tmps r).run P w = .ok v' w ∧ VR m v v' := by
  cases r with
  | tmp t =>
    cases hc
    simp only [res1, Option.some.injEq] at hv
    subst hv
    exact ⟨_, rfl, he.val t⟩
  | cell ad t =>
    simp only [cRes, Option.bind_eq_some_iff] at hc
    obtain ⟨d, hu, i, hi, hc⟩ := hc
    split at hc
    case isFalse => cases hc
    case isTrue hd =>
      cases hc
      simp only [res1] at hv
      split at hv
      case h_2 => cases hv
      case h_1 p hp =>
        simp only [Option.bind_eq_some_iff] at hv
        obtain ⟨cs, hg, hv⟩ := hv
        have h1 := he.val ad
        rw [hp] at h1
        obtain ⟨mb, hm, _, hax⟩ := h1.ptr
        obtain ⟨cs', h2, h3, h4⟩ := s.read hg hm
        obtain ⟨v', h5, h6⟩ := valOf_does h2 hv
        refine ⟨v', ?_, h5⟩
        have hl : cs'.length = i.size := by rw [← h2.1, h4]
        have hread : ∀ j v, cs'[j]? = some v → w.cell? ((⟨mb.blk, mb.off + p.off, none⟩ : Addr).add j) = some v := fun j v hj => by
          rw [Addr.add_lit]; exact h3 j v hj
        cases hagg : isAggD d with
        | true =>
          rw [hagg] at h6
          simp only [if_true] at h6
          subst h6
          have hlc := run_loadCells_list (P := P) w _ cs' hread
          rw [hl] at hlc
          have hia : (isAgg t).run P w = .ok true w := by
            simp only [isAgg, Sem.run_bind, run_underlying hu, Result.andThen_ok]
            cases d <;> simp [isAggD] at hagg <;> rfl
          show (asAddr (a.tmps.getD ad undef) >>= fun x => loadVar t x).run P w = _
          rw [hax]
          simp [asAddr, loadVar, hia, sizeOf, typeInfo, hi, hlc]
        | false =>
          rw [hagg] at h6
          simp only [Bool.false_eq_true, if_false] at h6
          subst h6
          have hcl := hread 0 v' rfl
          rw [Addr.add_zero'] at hcl
          have hia : (isAgg t).run P w = .ok false w := by
            simp only [isAgg, Sem.run_bind, run_underlying hu, Result.andThen_ok]
            cases d <;> simp [isAggD] at hagg <;> rfl
          show (asAddr (a.tmps.getD ad undef) >>= fun x => loadVar t x).run P w = _
          rw [hax]
          simp [asAddr, loadVar, hia, hcl]

theorem resL_does : ∀ (rs : List ResultVar) (irs : List IRes) (vs : List Value), cResL P rs = some irs → resL e H irs = some vs → Sim lo base m H w.heap → EnvR m e a nt →
    ∃ vs', (rs.mapM (rd1 a.tmps)).run P w = .ok vs' w ∧ All2 (VR m) vs vs'
  | [], irs, vs, hc, hv, s, he => by
    simp only [cResL, Option.some.injEq] at hc
    subst hc
    simp only [resL, Option.some.injEq] at hv
    subst hv
    exact ⟨[], by simp, All2.nil⟩
  | r :: rs, irs, vs, hc, hv, s, he => by
    simp only [cResL, Option.bind_eq_some_iff, Option.map_eq_some_iff] at hc
    obtain ⟨ir, h1, irs', h2, rfl⟩ := hc
    simp only [resL, Option.bind_eq_some_iff, Option.map_eq_some_iff] at hv
    obtain ⟨v, h3, vs1, h4, rfl⟩ := hv
    obtain ⟨v', h5, h6⟩ := res1_does h1 h3 s he
    obtain ⟨vs', h7, h8⟩ := resL_does rs irs' vs1 h2 h4 s he
    refine ⟨v' :: vs', ?_, All2.cons h6 h8⟩
    simp only [List.mapM_cons, Sem.run_bind, h5, h7, Result.andThen_ok, Sem.run_pure]

theorem resV_does {fn : Func} {irs : List IRes} (hc : cResL P fn.results.toList = some irs) {v : Value} (hv : resV irs e H = some v)
    (s : Sim lo base m H w.heap) (he : EnvR m e a nt) : ∃ v', (results fn a.tmps).run P w = .ok v' w ∧ VR m v v' := by
  have hlen : ∀ (rs : List ResultVar) (irs : List IRes), cResL P rs = some irs → rs.length = irs.length := by
    intro rs
    induction rs with
    | nil => intro irs h; simp only [cResL, Option.some.injEq] at h; subst h; rfl
    | cons r rs ih =>
      intro irs h
      simp only [cResL, Option.bind_eq_some_iff, Option.map_eq_some_iff] at h
      obtain ⟨ir, _, irs', h2, rfl⟩ := h
      simp [ih _ h2]
  have hl := hlen _ _ hc
  have hLres : ∃ vs, resL e H irs = some vs ∧ ((irs.length = 1 ∧ vs = [v]) ∨ (irs.length ≠ 1 ∧ v = .tuple vs.toArray ∧ vs.all notT = true)) := by
    unfold resV at hv
    split at hv
    · rename_i r
      exact ⟨[v], by simp [resL, hv], .inl ⟨rfl, rfl⟩⟩
    · rename_i hne
      simp only [Option.bind_eq_some_iff] at hv
      obtain ⟨vs, h1, hv⟩ := hv
      split at hv
      case isFalse => cases hv
      case isTrue hnt =>
      cases hv
      refine ⟨vs, h1, .inr ⟨?_, rfl, hnt⟩⟩
      intro h
      match irs, h with
      | [r], _ => exact hne r rfl
  obtain ⟨vs, h1, h2⟩ := hLres
  obtain ⟨vs', h3, h4⟩ := resL_does _ _ _ hc h1 s he
  have hrun : (results fn a.tmps).run P w = .ok (if h : vs'.toArray.size = 1 then vs'.toArray[0] else .tuple vs'.toArray) w := by
    unfold results
    rw [Array.mapM_eq_mapM_toList]
    have hcongr : ∀ f : ResultVar → Sem Value, (∀ r, f r = rd1 a.tmps r) → (List.mapM f fn.results.toList).run P w = .ok vs' w := fun f hf => by rw [funext hf]; exact h3
    simp only [Sem.run_bind, Sem.run_map]
    rw [hcongr _ (fun r => by cases r <;> rfl)]
    simp only [Result.andThen_ok, Sem.run_pure]
  refine ⟨_, hrun, ?_⟩
  have hl2 := h4.1
  rcases h2 with ⟨hlen1, rfl⟩ | ⟨hlen1, rfl, hnt⟩
  · obtain ⟨v', rfl⟩ : ∃ v', vs' = [v'] := by
      cases vs' with
      | nil => simp at hl2
      | cons v' t => cases t with
        | nil => exact ⟨v', rfl⟩
        | cons => simp at hl2
    obtain ⟨y, hy, r⟩ := h4.2 0 v rfl
    simp only [List.getElem?_cons_zero, Option.some.injEq] at hy
    subst hy
    simpa using r
  · have hvl : vs.length = irs.length := by
      have : ∀ (irs : List IRes) (vs : List Value), resL e H irs = some vs → vs.length = irs.length := by
        intro irs
        induction irs with
        | nil => intro vs h; simp only [resL, Option.some.injEq] at h; subst h; rfl
        | cons r irs ih =>
          intro vs h
          simp only [resL, Option.bind_eq_some_iff, Option.map_eq_some_iff] at h
          obtain ⟨_, _, vs1, h4, rfl⟩ := h
          simp [ih _ h4]
      exact this _ _ h1
    rw [dif_neg (by simp; omega)]
    refine .inr ⟨_, _, rfl, rfl, ?_⟩
    refine All2.mono (R := VR m) (by simpa using h4) fun x y hx r => ?_
    rcases r with r | ⟨cs, cs', rfl, _⟩
    · exact r
    · have := List.all_eq_true.1 hnt _ (by simpa using hx)
      simp [notT] at this
end

end Go.Proofs.YtiekbdijpfnagaaI
end
end
