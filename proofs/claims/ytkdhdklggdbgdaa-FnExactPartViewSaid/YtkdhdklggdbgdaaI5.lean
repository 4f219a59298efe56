/- What the ideal machine does the given code does. -/
import Derived.Test.YtkdhdklggdbgdaaI4
set_option linter.unusedVariables false
set_option linter.unusedSimpArgs false
namespace Go.Proofs.YtkdhdklggdbgdaaI
open Go Go.RowKit

def X.toExit : X → Exit
  | .n => .normal
  | .e id => .exit id
  | .r => .ret

structure EnvR (m : MM) (e : Env) (a : Act) (nt : Nat) : Prop where
  defers : a.defers = []
  size : a.tmps.size = nt
  val : ∀ i, VR m (e i) (a.tmps.getD i undef)

theorem VR.undef {m : MM} : VR m undef undef := .inr ⟨#[], #[], rfl, rfl, All2.nil⟩

theorem EnvR.mono {m m' : MM} {e : Env} {a : Act} {nt : Nat} (h : EnvR m e a nt) (hs : m.sub m') : EnvR m' e a nt := ⟨h.defers, h.size, fun i => (h.val i).mono hs⟩

theorem put_tmps (a : Act) (d : Option Tmp) (v : Value) (t : Nat) (hd : dstOk a.tmps.size d = true) :
    (a.put d v).tmps.getD t undef = if d = some t then v else a.tmps.getD t undef := by
  cases d with
  | none => simp [Act.put]
  | some d =>
    simp only [dstOk, decide_eq_true_eq] at hd
    simp only [Act.put, Option.some.injEq]
    rw [Array.getD_eq_getD_getElem?, Array.getElem?_setIfInBounds]
    split
    · rename_i h; subst h; simp [hd]
    · rename_i h; rw [Array.getD_eq_getD_getElem?]

theorem EnvR.put {m m' : MM} {e : Env} {a : Act} {nt : Nat} (h : EnvR m e a nt) (hs : m.sub m') (d : Option Nat) {v v' : Value} (r : VR m' v v') (hd : dstOk nt d = true) :
    EnvR m' (putE e d v) (a.put d v') nt := by
  refine ⟨?_, ?_, fun i => ?_⟩
  · cases d <;> exact h.defers
  · cases d <;> simp [Act.put, h.size]
  · rw [put_tmps a d v' i (by rw [h.size]; exact hd)]
    cases d with
    | none => simpa [putE] using (h.val i).mono hs
    | some d =>
      simp only [putE, Option.some.injEq]
      by_cases hi : i = d
      · subst hi; simpa using r
      · rw [if_neg hi, if_neg (fun h => hi h.symm)]; exact (h.val i).mono hs

theorem EnvR.okU {m : MM} {e : Env} {a : Act} {nt : Nat} (h : EnvR m e a nt) (xs : Array Operand) : OkU m e a xs := fun t _ => by
  simpa [Act.eval] using h.val t

section
variable (P : Program) (F : Nat → Option IFn)

/-- What one operation of the given code must do. -/
def OpS (lo : Nat) (d : Option Nat) (io : IOp) (e : Env) (H : Heap) (e1 : Env) (H1 : Heap) : Prop :=
  ∃ v, e1 = putE e d v ∧ ∀ (c : CM) (o : Oper), cOp P c o = some io → o.dst = d → ∀ (a : Act) (w : World) (m : MM) (base : Nat), Sim lo base m H w.heap → OkU m e a o.op.operands →
    ∀ (next : Act → World → Prop) (Q : Exit → Act → World → Prop),
      (∀ v' w' m', MM.agree H.length m m' → Sim lo base m' H1 w'.heap → VR m' v v' → Below base w w' → next (a.put d v') w') → o.wp P a w next Q

def OpsS (lo : Nat) (l : List IOper) (e : Env) (H : Heap) (e1 : Env) (H1 : Heap) : Prop :=
  ∀ (c : CM) (nt : Nat) (ops : Array Oper) (os : List Oper), cOps P c nt ops os = some l → ∀ (Q : Exit → Act → World → Prop) (a : Act) (w : World) (m : MM) (base : Nat), Sim lo base m H w.heap → EnvR m e a nt →
    (∀ a' w' m', MM.agree H.length m m' → Sim lo base m' H1 w'.heap → EnvR m' e1 a' nt → Below base w w' → Q .normal a' w') → wpList P ops Q os a w

def PreS (lo : Nat) : Nat → List IOper → Env → Heap → Env → Heap → Prop
  | 0, l, e, H, e1, H1 => OpsS P lo l e H e1 H1
  | p + 1, o :: r, e, H, e1, H1 => ∃ em Hm, ((o.runs e = false ∧ em = putE e o.dst undef ∧ Hm = H) ∨ (o.runs e = true ∧ OpS P H.length o.dst o.op e H em Hm)) ∧ Ext H.length H Hm ∧ PreS lo p r em Hm e1 H1
  | _ + 1, [], _, _, _, _ => False

def CodeS (lo : Nat) (ic : ICode) (e : Env) (H : Heap) (x : X) (e1 : Env) (H1 : Heap) : Prop :=
  ∀ (c : CM) (nt : Nat) (co : Code), cCode P c nt co = some ic → ∀ (Q : Exit → Act → World → Prop) (a : Act) (w : World) (m : MM) (base : Nat), Sim lo base m H w.heap → EnvR m e a nt →
    (∀ a' w' m', MM.agree H.length m m' → Sim lo base m' H1 w'.heap → EnvR m' e1 a' nt → Below base w w' → Q x.toExit a' w') → co.wp P Q a w

def LoopS (lo : Nat) (ic : ICode) (e : Env) (H : Heap) (x : X) (e1 : Env) (H1 : Heap) : Prop :=
  ∀ (c : CM) (nt : Nat) (co : Code), cCode P c nt co = some ic → ∀ (Q : Exit → Act → World → Prop) (a : Act) (w : World) (m : MM) (base : Nat), Sim lo base m H w.heap → EnvR m e a nt →
    (∀ a' w' m', MM.agree H.length m m' → Sim lo base m' H1 w'.heap → EnvR m' e1 a' nt → Below base w w' → Q x.toExit a' w') →
    ∀ (b : Frame) (k : List Item) (cs : List Frame), ∃ ex a' w', Q ex a' w' ∧ Arrives P (lone (b.at a (.code co :: .inLoop co :: k)) cs w) b k cs ex a' w'

def TaskS (lo : Nat) (t : Task) (e : Env) (H : Heap) (x : X) (e1 : Env) (H1 : Heap) : Prop :=
  match t with
  | .code ic => CodeS P lo ic e H x e1 H1
  | .lp ic => LoopS P lo ic e H x e1 H1
  | .ops l => OpsS P lo l e H e1 H1
  | .pre p l => PreS P lo p l e H e1 H1
  | .op d io => OpS P lo d io e H e1 H1

end

theorem X.toExit_ne {x : X} (h : x ≠ .n) (Q Q' : Exit → Act → World → Prop) (K : Act → World → Prop) (a : Act) (w : World) (hq : Q x.toExit a w) : Exit.then K Q x.toExit a w := by
  cases x with
  | n => exact absurd rfl h
  | e => exact hq
  | r => exact hq

theorem op_of_does {P : Program} {o : Oper} {a : Act} {w : World} {lo base : Nat} {m : MM} {H : Heap} {v : Value} {H1 : Heap} {d : Option Nat} (hd : o.dst = d) (h : OpDoes P o a w lo base m H v H1) (next : Act → World → Prop) (Q : Exit → Act → World → Prop)
    (hn : ∀ v' w' m', MM.agree H.length m m' → Sim lo base m' H1 w'.heap → VR m' v v' → Below base w w' → next (a.put d v') w') : o.wp P a w next Q := by
  obtain ⟨v', w', m', hr, h1, h2, h3, h4, _⟩ := h
  unfold Oper.wp
  rcases hr with hr | ⟨hr, rfl⟩
  · rw [hr]; subst hd; exact hn v' w' m' h1 h2 h3 h4
  · rw [hr]; subst hd; exact hn _ w' m' h1 h2 h3 h4

theorem ini_env {m : MM} {xs ys : List Value} (h : All2 (VR m) xs ys) (nt : Nat) (hn : xs.length ≤ nt) :
    EnvR m (ini xs) { tmps := ys.toArray ++ Array.replicate (nt - ys.toArray.size) undef, defers := [] } nt := by
  have hl := h.1
  refine ⟨rfl, by simp; omega, fun i => ?_⟩
  unfold ini
  rw [Array.getD_eq_getD_getElem?, Array.getElem?_append]
  simp only [List.size_toArray, List.getElem?_toArray]
  rw [List.getD_eq_getElem?_getD]
  by_cases hi : i < ys.length
  · rw [if_pos hi]
    obtain ⟨y, hy, r⟩ := h.2 i xs[i] (List.getElem?_eq_getElem (by omega))
    rw [hy, List.getElem?_eq_getElem (by omega)]
    exact r
  · rw [if_neg hi, List.getElem?_eq_none (by omega)]
    rw [Array.getElem?_replicate]
    split <;> exact VR.undef

section
variable {P : Program} {lo base : Nat} {m : MM} {H : Heap} {w : World} {e : Env} {a : Act} {nt : Nat}

def rd1 (tmps : Array Value) : ResultVar → Sem Value
  | .tmp t => pure (tmps.getD t undef)
  | .cell ad t => do loadVar t (← asAddr (tmps.getD ad undef))

theorem res1_does {r : ResultVar} {ir : IRes} (hc : cRes P r = some ir) {v : Value} (hv : res1 e H ir = some v) (s : Sim lo base m H w.heap) (he : EnvR m e a nt) :
    ∃ v', (rd1 a.tmps r).run P w = .ok v' w ∧ VR m v v' := by
  cases r with
  | tmp t =>
    cases hc
    simp only [res1, Option.some.injEq] at hv
    subst hv
    exact ⟨_, rfl, he.val t⟩
  | cell ad t =>
    simp only [cRes, Option.bind_eq_some_iff] at hc
    obtain ⟨d, hu, i, hi, hc⟩ := hc
    split at hc
    case isFalse => cases hc
    case isTrue hd =>
      cases hc
      simp only [res1] at hv
      split at hv
      case h_2 => cases hv
      case h_1 p hp =>
        simp only [Option.bind_eq_some_iff] at hv
        obtain ⟨cs, hg, hv⟩ := hv
        have h1 := he.val ad
        rw [hp] at h1
        obtain ⟨mb, hm, _, hax⟩ := h1.ptr
        obtain ⟨cs', h2, h3, h4⟩ := s.read hg hm
        obtain ⟨v', h5, h6⟩ := valOf_does h2 hv
        refine ⟨v', ?_, h5⟩
        have hl : cs'.length = i.size := by rw [← h2.1, h4]
        have hread : ∀ j v, cs'[j]? = some v → w.cell? ((⟨mb.blk, mb.off + p.off, none⟩ : Addr).add j) = some v := fun j v hj => by
          rw [Addr.add_lit]; exact h3 j v hj
        cases hagg : isAggD d with
        | true =>
          rw [hagg] at h6
          simp only [if_true] at h6
          subst h6
          have hlc := run_loadCells_list (P := P) w _ cs' hread
          rw [hl] at hlc
          have hia : (isAgg t).run P w = .ok true w := by
            simp only [isAgg, Sem.run_bind, run_underlying hu, Result.andThen_ok]
            cases d <;> simp [isAggD] at hagg <;> rfl
          show (asAddr (a.tmps.getD ad undef) >>= fun x => loadVar t x).run P w = _
          rw [hax]
          simp [asAddr, loadVar, hia, sizeOf, typeInfo, hi, hlc]
        | false =>
          rw [hagg] at h6
          simp only [Bool.false_eq_true, if_false] at h6
          subst h6
          have hcl := hread 0 v' rfl
          rw [Addr.add_zero'] at hcl
          have hia : (isAgg t).run P w = .ok false w := by
            simp only [isAgg, Sem.run_bind, run_underlying hu, Result.andThen_ok]
            cases d <;> simp [isAggD] at hagg <;> rfl
          show (asAddr (a.tmps.getD ad undef) >>= fun x => loadVar t x).run P w = _
          rw [hax]
          simp [asAddr, loadVar, hia, hcl]

theorem resL_does : ∀ (rs : List ResultVar) (irs : List IRes) (vs : List Value), cResL P rs = some irs → resL e H irs = some vs → Sim lo base m H w.heap → EnvR m e a nt →
    ∃ vs', (rs.mapM (rd1 a.tmps)).run P w = .ok vs' w ∧ All2 (VR m) vs vs'
  | [], irs, vs, hc, hv, s, he => by
    simp only [cResL, Option.some.injEq] at hc
    subst hc
    simp only [resL, Option.some.injEq] at hv
    subst hv
    exact ⟨[], by simp, All2.nil⟩
  | r :: rs, irs, vs, hc, hv, s, he => by
    simp only [cResL, Option.bind_eq_some_iff, Option.map_eq_some_iff] at hc
    obtain ⟨ir, h1, irs', h2, rfl⟩ := hc
    simp only [resL, Option.bind_eq_some_iff, Option.map_eq_some_iff] at hv
    obtain ⟨v, h3, vs1, h4, rfl⟩ := hv
    obtain ⟨v', h5, h6⟩ := res1_does h1 h3 s he
    obtain ⟨vs', h7, h8⟩ := resL_does rs irs' vs1 h2 h4 s he
    refine ⟨v' :: vs', ?_, All2.cons h6 h8⟩
    simp only [List.mapM_cons, Sem.run_bind, h5, h7, Result.andThen_ok, Sem.run_pure]

theorem resV_does {fn : Func} {irs : List IRes} (hc : cResL P fn.results.toList = some irs) {v : Value} (hv : resV irs e H = some v)
    (s : Sim lo base m H w.heap) (he : EnvR m e a nt) : ∃ v', (results fn a.tmps).run P w = .ok v' w ∧ VR m v v' := by
  have hlen : ∀ (rs : List ResultVar) (irs : List IRes), cResL P rs = some irs → rs.length = irs.length := by
    intro rs
    induction rs with
    | nil => intro irs h; simp only [cResL, Option.some.injEq] at h; subst h; rfl
    | cons r rs ih =>
      intro irs h
      simp only [cResL, Option.bind_eq_some_iff, Option.map_eq_some_iff] at h
      obtain ⟨ir, _, irs', h2, rfl⟩ := h
      simp [ih _ h2]
  have hl := hlen _ _ hc
  have hLres : ∃ vs, resL e H irs = some vs ∧ ((irs.length = 1 ∧ vs = [v]) ∨ (irs.length ≠ 1 ∧ v = .tuple vs.toArray ∧ vs.all notT = true)) := by
    unfold resV at hv
    split at hv
    · rename_i r
      exact ⟨[v], by simp [resL, hv], .inl ⟨rfl, rfl⟩⟩
    · rename_i hne
      simp only [Option.bind_eq_some_iff] at hv
      obtain ⟨vs, h1, hv⟩ := hv
      split at hv
      case isFalse => cases hv
      case isTrue hnt =>
      cases hv
      refine ⟨vs, h1, .inr ⟨?_, rfl, hnt⟩⟩
      intro h
      match irs, h with
      | [r], _ => exact hne r rfl
  obtain ⟨vs, h1, h2⟩ := hLres
  obtain ⟨vs', h3, h4⟩ := resL_does _ _ _ hc h1 s he
  have hrun : (results fn a.tmps).run P w = .ok (if h : vs'.toArray.size = 1 then vs'.toArray[0] else .tuple vs'.toArray) w := by
    unfold results
    rw [Array.mapM_eq_mapM_toList]
    have hcongr : ∀ f : ResultVar → Sem Value, (∀ r, f r = rd1 a.tmps r) → (List.mapM f fn.results.toList).run P w = .ok vs' w := fun f hf => by rw [funext hf]; exact h3
    simp only [Sem.run_bind, Sem.run_map]
    rw [hcongr _ (fun r => by cases r <;> rfl)]
    simp only [Result.andThen_ok, Sem.run_pure]
  refine ⟨_, hrun, ?_⟩
  have hl2 := h4.1
  rcases h2 with ⟨hlen1, rfl⟩ | ⟨hlen1, rfl, hnt⟩
  · obtain ⟨v', rfl⟩ : ∃ v', vs' = [v'] := by
      cases vs' with
      | nil => simp at hl2
      | cons v' t => cases t with
        | nil => exact ⟨v', rfl⟩
        | cons => simp at hl2
    obtain ⟨y, hy, r⟩ := h4.2 0 v rfl
    simp only [List.getElem?_cons_zero, Option.some.injEq] at hy
    subst hy
    simpa using r
  · have hvl : vs.length = irs.length := by
      have : ∀ (irs : List IRes) (vs : List Value), resL e H irs = some vs → vs.length = irs.length := by
        intro irs
        induction irs with
        | nil => intro vs h; simp only [resL, Option.some.injEq] at h; subst h; rfl
        | cons r irs ih =>
          intro vs h
          simp only [resL, Option.bind_eq_some_iff, Option.map_eq_some_iff] at h
          obtain ⟨_, _, vs1, h4, rfl⟩ := h
          simp [ih _ h4]
      exact this _ _ h1
    rw [dif_neg (by simp; omega)]
    refine .inr ⟨_, _, rfl, rfl, ?_⟩
    refine All2.mono (R := VR m) (by simpa using h4) fun x y hx r => ?_
    rcases r with r | ⟨cs, cs', rfl, _⟩
    · exact r
    · have := List.all_eq_true.1 hnt _ (by simpa using hx)
      simp [notT] at this
end

end Go.Proofs.YtkdhdklggdbgdaaI
