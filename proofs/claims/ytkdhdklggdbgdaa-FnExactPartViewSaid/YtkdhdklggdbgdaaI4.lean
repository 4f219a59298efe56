/- What the ideal machine does the given code does: calls, code, loops, regions. -/
import Derived.Test.YtkdhdklggdbgdaaI3
set_option linter.unusedVariables false
set_option linter.unusedSimpArgs false
namespace Go.Proofs.YtkdhdklggdbgdaaI
open Go Go.RowKit

/-! ### The code laid over -/
def dstOk (nt : Nat) : Option Nat → Bool
  | some d => decide (d < nt)
  | none => true

def cOper (P : Program) (c : CM) (nt : Nat) (ops : Array Oper) (o : Oper) : Option IOper :=
  (cOp P c o).bind fun io =>
    if dstOk nt o.dst = true then
      match o.guard with
      | none => some ⟨o.dst, none, io⟩
      | some (j, w) => ((ops[j]?).bind (·.dst)).map fun g => ⟨o.dst, some (g, w), io⟩
    else none

def cOps (P : Program) (c : CM) (nt : Nat) (ops : Array Oper) : List Oper → Option (List IOper)
  | [] => some []
  | o :: r => (cOper P c nt ops o).bind fun o' => (cOps P c nt ops r).map (o' :: ·)

/-- Of each operation those that it waits for, as bits. -/
def befs (ops : Array Oper) : Nat → List Nat
  | 0 => []
  | k + 1 => befs ops k ++ [(ops.getD k default).after.toList.foldl (fun s e => if Region.binds .any e then s ||| 2 ^ e.on ||| (befs ops k).getD e.on 0 else s) 0]

/-- From place p on each operation waits for all ahead of it; of those ahead two that touch the same temporary are ordered. -/
def okD (ops : Array Oper) (p : Nat) : Bool :=
  let b := befs ops ops.size
  (List.range ops.size).all fun j => (ops.getD j default).after.toList.all (fun e => !Region.binds .any e || decide (e.on < j)) && (List.range j).all fun i =>
    (b.getD j 0).testBit i || (decide (j < p) && (ops.getD i default).apart ops (ops.getD j default))

def prefixLen (ops : Array Oper) : Nat :=
  ((List.range (ops.size + 1)).find? fun k => okD ops k).getD 0

def cCode (P : Program) (c : CM) (nt : Nat) : Code → Option ICode
  | .skip => some .skip
  | .region _ ops d => if d then (if okD ops (prefixLen ops) then (cOps P c nt ops ops.toList).map (.reg (some (prefixLen ops)) ·) else none) else (cOps P c nt ops ops.toList).map (.reg none ·)
  | .seq x y => (cCode P c nt x).bind fun x' => (cCode P c nt y).map (.seq x' ·)
  | .cond q x y => (cOpd q).bind fun q' => (cCode P c nt x).bind fun x' => (cCode P c nt y).map (.cond q' x' ·)
  | .block id x => (cCode P c nt x).map (.block id ·)
  | .loop x => (cCode P c nt x).map .loop
  | .exit id => some (.exit id)
  | .ret => some .ret
  | _ => none

def cRes (P : Program) : ResultVar → Option IRes
  | .tmp t => some (.t t)
  | .cell a t => (P.underlying t).bind fun d => (P.info? t).bind fun i => if isAggD d = true ∨ i.size = 1 then some (.cell (isAggD d) i.size a) else none

def cResL (P : Program) : List ResultVar → Option (List IRes)
  | [] => some []
  | r :: rs => (cRes P r).bind fun r' => (cResL P rs).map (r' :: ·)

def cFn (P : Program) (cm : Nat → CM) (f : Nat) : Option IFn :=
  (P.funcs[f]?).bind fun fn => fn.body.bind fun c =>
    if fn.name ≠ "runtime.NumGoroutine" ∧ fn.params.size + fn.nfree ≤ fn.ntmps then
      (cCode P (cm f) fn.ntmps c).bind fun ic => (cResL P fn.results.toList).map fun rs => ⟨fn.params.size + fn.nfree, fn.ntmps, rs, ic⟩
    else none

/-! ### What is not written stays -/
theorem getElem?_append_lt {H : Heap} {k : Blk} {b : Nat} (h : b < H.length) : (H ++ [k])[b]? = H[b]? := List.getElem?_append_left h

def Ext (lo : Nat) (H H1 : Heap) : Prop := H.length ≤ H1.length ∧ ∀ b, b < lo → b < H.length → H1[b]? = H[b]?
theorem Ext.refl (lo : Nat) (H : Heap) : Ext lo H H := ⟨Nat.le_refl _, fun _ _ _ => rfl⟩
theorem Ext.trans {lo : Nat} {H H1 H2 : Heap} (h : Ext lo H H1) (h' : Ext lo H1 H2) : Ext lo H H2 :=
  ⟨Nat.le_trans h.1 h'.1, fun b h1 h2 => (h'.2 b h1 (Nat.lt_of_lt_of_le h2 h.1)).trans (h.2 b h1 h2)⟩
theorem Ext.snoc (lo : Nat) (H : Heap) (k : Blk) : Ext lo H (H ++ [k]) := ⟨by simp, fun b _ h => getElem?_append_lt h⟩
theorem Ext.set {lo b : Nat} {H : Heap} (k : Blk) (h : lo ≤ b) : Ext lo H (H.set b k) := ⟨by simp, fun c h1 h2 => by rw [List.getElem?_set_ne (by omega)]⟩
theorem Ext.mono {lo lo' : Nat} {H H1 : Heap} (h : Ext lo' H H1) (hl : lo ≤ lo') : Ext lo H H1 := ⟨h.1, fun b h1 h2 => h.2 b (by omega) h2⟩

theorem iop_ext {lo : Nat} {o : IOp} {e : Env} {H H1 : Heap} {v : Value} (h : iop lo o e H = some (v, H1)) : Ext lo H H1 := by
  cases o <;> simp only [iop] at h
  case store n x y =>
    split at h
    case h_2 => cases h
    case h_1 =>
      split at h
      case h_2 => cases h
      case h_1 =>
        split at h
        case isFalse => cases h
        case isTrue hq =>
          simp only [Option.some.injEq, Prod.mk.injEq] at h
          obtain ⟨_, rfl⟩ := h
          exact Ext.set _ hq.1
  case app es et bytes kill x y =>
    split at h
    case h_2 => cases h
    case h_1 b n c ad m c' _ _ =>
      split at h
      case isTrue =>
        simp only [Option.some.injEq, Prod.mk.injEq] at h
        obtain ⟨_, rfl⟩ := h
        exact Ext.refl _ _
      case isFalse =>
        cases ad with
        | none => cases h
        | some ad =>
          simp only at h
          split at h
          case h_1 => cases h
          case h_2 =>
            cases b with
            | none =>
              simp only at h
              split at h
              case isFalse => cases h
              case isTrue =>
                simp only [Option.some.injEq, Prod.mk.injEq] at h
                obtain ⟨_, rfl⟩ := h
                exact Ext.snoc _ _ _
            | some b =>
              simp only at h
              split at h
              case h_1 => cases h
              case h_2 =>
                split at h
                case isFalse => cases h
                case isTrue hq =>
                  simp only [Option.some.injEq, Prod.mk.injEq] at h
                  obtain ⟨_, rfl⟩ := h
                  exact (Ext.set _ hq.1).trans (Ext.snoc _ _ _)
  case new => simp only [Option.some.injEq, Prod.mk.injEq] at h; obtain ⟨_, rfl⟩ := h; exact Ext.snoc _ _ _
  case box =>
    split at h
    case isFalse => cases h
    case isTrue => simp only [Option.some.injEq, Prod.mk.injEq] at h; obtain ⟨_, rfl⟩ := h; exact Ext.snoc _ _ _
  case lit =>
    simp only [Option.map_eq_some_iff, Prod.mk.injEq] at h
    obtain ⟨_, _, _, rfl⟩ := h
    exact Ext.snoc _ _ _
  case mks =>
    split at h
    case h_2 => cases h
    case h_1 =>
      split at h
      case isFalse => cases h
      case isTrue => simp only [Option.some.injEq, Prod.mk.injEq] at h; obtain ⟨_, rfl⟩ := h; exact Ext.snoc _ _ _
  all_goals
    have hH : H1 = H := by
      revert h
      repeat' split
      all_goals first
        | (intro h; cases h; done)
        | (intro h; simp only [Option.some.injEq, Prod.mk.injEq] at h; exact h.2.symm)
        | (intro h; simp only [Option.map_eq_some_iff, Prod.mk.injEq] at h; obtain ⟨_, _, _, h⟩ := h; exact h.symm)
        | (intro h; simp only [Option.bind_eq_some_iff, Option.map_eq_some_iff, Prod.mk.injEq] at h; obtain ⟨_, _, _, _, _, h⟩ := h; exact h.symm)
    subst hH
    exact Ext.refl _ _

theorem BS.ext {F : Nat → Option IFn} {lo : Nat} {t : Task} {e : Env} {H : Heap} {x : X} {e1 : Env} {H1 : Heap} (h : BS F lo t e H x e1 H1) : Ext lo H H1 := by
  induction h with
  | skip => exact Ext.refl _ _
  | reg _ ih => exact ih
  | regD _ ih => exact ih
  | seqN _ _ ih1 ih2 => exact ih1.trans ih2
  | seqX _ _ ih => exact ih
  | cond _ _ ih => exact ih
  | block _ ih => exact ih
  | loop _ ih => exact ih
  | lpN _ _ ih1 ih2 => exact ih1.trans ih2
  | lpX _ _ ih => exact ih
  | exit => exact Ext.refl _ _
  | ret => exact Ext.refl _ _
  | nil => exact Ext.refl _ _
  | skp _ _ ih => exact ih
  | cons _ _ _ ih1 ih2 => exact ih1.trans ih2
  | pre0 _ ih => exact ih
  | preSkp _ _ ih => exact ih
  | @preCons lo p o r e H e1 H1 e2 H2 _ _ _ ih1 ih2 => 
    exact Ext.trans ⟨ih1.1, fun b _ h2 => ih1.2 b h2 h2⟩ ih2
  | prim h => exact iop_ext h
  | callN _ _ _ _ _ _ ih => exact ih
  | callK _ _ _ _ _ _ ih => exact ⟨ih.1, fun b _ h2 => ih.2 b h2 h2⟩
  | callQ _ _ _ _ _ _ _ _ => exact Ext.refl _ _

/-! ### Worlds -/
section
variable {lo base : Nat} {m : MM} {H H1 : Heap} {h h' : Array Obj}

/-- All there is is closed to writing. -/
theorem Sim.shut (s : Sim lo base m H h) : Sim H.length h.size m H h := by
  refine ⟨s.dom, s.cell, ?_, ?_, ?_, Nat.le_refl _, Nat.le_refl _⟩
  · intro b x k hl hm; exact absurd (s.dom b x hm) (by omega)
  · intro b b' x x' k k' _ hl _ hm; exact absurd (s.dom b x hm) (by omega)
  · intro b x hl hm
    obtain ⟨k, hk⟩ : ∃ k, H[b]? = some k := ⟨H[b], List.getElem?_eq_getElem hl⟩
    exact s.lt hm hk

/-- Nothing that was there has turned. -/
theorem Sim.later (s : Sim lo base m H h) (hs : h.size ≤ h'.size) (hb : ∀ c, c < h.size → h'[c]? = h[c]?) : Sim lo base m H h' := by
  have old : ∀ c o, h[c]? = some o → h'[c]? = some o := fun c o hc => by rw [hb c (Array.getElem?_eq_some_iff.1 hc).1]; exact hc
  refine ⟨s.dom, ?_, ?_, s.sep, s.old, Nat.le_trans s.bnd hs, s.low⟩
  · intro b x k hm hk
    obtain ⟨cs, t, fr, h1, h2⟩ := s.cell b x k hm hk
    exact ⟨cs, t, fr, old _ _ h1, h2⟩
  · intro b x k hl hm hk
    obtain ⟨p1, p2, p3, cs, p4, p5⟩ := s.own b x k hl hm hk
    exact ⟨p1, p2, p3, cs, old _ _ p4, p5⟩

/-- Behind a call that wrote nothing that was there. -/
theorem Sim.back (s : Sim lo base m H h) {m' : MM} (s' : Sim H.length h.size m' H1 h') (hag : MM.agree H.length m m') (hE : Ext H.length H H1)
    (hb : ∀ c, c < h.size → h'[c]? = h[c]?) : Sim lo base m' H1 h' := by
  have old : ∀ c o, h[c]? = some o → h'[c]? = some o := fun c o hc => by rw [hb c (Array.getElem?_eq_some_iff.1 hc).1]; exact hc
  have hlt : ∀ b x, b < H.length → m' b = some x → m b = some x ∧ x.blk < h.size := fun b x hl hm => ⟨(hag b hl) ▸ hm, s'.old b x hl hm⟩
  refine ⟨s'.dom, s'.cell, ?_, ?_, ?_, Nat.le_trans s.bnd s'.bnd, Nat.le_trans s.low hE.1⟩
  · intro b x k hl hm hk
    rcases Nat.lt_or_ge b H.length with hb' | hb'
    · rw [hE.2 b hb' hb'] at hk
      obtain ⟨p1, p2, p3, cs, p4, p5⟩ := s.own b x k hl (hlt b x hb' hm).1 hk
      exact ⟨p1, p2, p3, cs, old _ _ p4, p5⟩
    · obtain ⟨p1, p2⟩ := s'.own b x k hb' hm hk
      exact ⟨Nat.le_trans s.bnd p1, p2⟩
  · intro b b' x x' k k' hne hl hl' hm hm' hk hk' he
    rcases Nat.lt_or_ge b H.length with hb1 | hb1
    · rcases Nat.lt_or_ge b' H.length with hb2 | hb2
      · rw [hE.2 b hb1 hb1] at hk
        rw [hE.2 b' hb2 hb2] at hk'
        exact s.sep b b' x x' k k' hne hl hl' (hlt b x hb1 hm).1 (hlt b' x' hb2 hm').1 hk hk' he
      · have := (hlt b x hb1 hm).2
        have := (s'.own b' x' k' hb2 hm' hk').1
        omega
    · rcases Nat.lt_or_ge b' H.length with hb2 | hb2
      · have := (hlt b' x' hb2 hm').2
        have := (s'.own b x k hb1 hm hk).1
        omega
      · exact s'.sep b b' x x' k k' hne hb1 hb2 hm hm' hk hk' he
  · intro b x hl hm
    have hb1 : b < H.length := Nat.lt_of_lt_of_le hl s.low
    exact s.old b x hl (hlt b x hb1 hm).1
end

theorem scal1_VR {m m' : MM} {v v' : Value} (h : scal1 v = true) (r : VR1 m v v') : VR1 m' v v' := by
  rcases r with r | ⟨g, f, c, f', c', rfl, _⟩
  · cases v <;> simp [scal1] at h <;> exact .inl r
  · simp [scal1] at h
theorem scalA_VR {m m' : MM} {v v' : Value} (h : scalA v = true) (r : VA m v v') : VA m' v v' := by
  rcases r with r | ⟨cs, cs', rfl, rfl, r⟩
  · refine .inl (scal1_VR ?_ r)
    cases v <;> first | exact h | (have := r.one_left; simp [one] at this)
  · exact .inr ⟨cs, cs', rfl, rfl, r.mono fun x y hx r => scal1_VR (List.all_eq_true.1 h x hx) r⟩
theorem scal_VR {m m' : MM} {v v' : Value} (h : scal v = true) (r : VR m v v') : VR m' v v' := by
  rcases r with r | ⟨cs, cs', rfl, rfl, r⟩
  · refine .inl ?_
    rcases r with r | ⟨cs, cs', rfl, rfl, r⟩
    · refine .inl (scal1_VR ?_ r)
      have := r.one_left
      cases v <;> first | exact h | simp [one] at this
    · exact .inr ⟨cs, cs', rfl, rfl, r.mono fun x y hx r => scal1_VR (List.all_eq_true.1 h x hx) r⟩
  · exact .inr ⟨cs, cs', rfl, rfl, r.mono fun x y hx r => scalA_VR (List.all_eq_true.1 h x hx) r⟩

end Go.Proofs.YtkdhdklggdbgdaaI
