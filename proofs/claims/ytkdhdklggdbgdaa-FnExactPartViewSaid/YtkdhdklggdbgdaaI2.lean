/- How an ideal heap stands to the machine's memory. -/
import Derived.Test.YtkdhdklggdbgdaaI1
import Derived.Laws.CopyRow
import Derived.Laws.Cells
import Derived.Laws.AppendOwn
set_option linter.unusedVariables false
namespace Go.Proofs.YtkdhdklggdbgdaaI
open Go Go.RowKit

def All2 {α β : Type} (R : α → β → Prop) (xs : List α) (ys : List β) : Prop :=
  xs.length = ys.length ∧ ∀ (i : Nat) (x : α), xs[i]? = some x → ∃ y, ys[i]? = some y ∧ R x y

section
variable {α β : Type} {R R' : α → β → Prop} {xs xs' : List α} {ys ys' : List β}
theorem All2.nil : All2 R [] [] := ⟨rfl, by simp⟩
theorem All2.mono (h : All2 R xs ys) (hr : ∀ x y, x ∈ xs → R x y → R' x y) : All2 R' xs ys :=
  ⟨h.1, fun i x hx => let ⟨y, hy, r⟩ := h.2 i x hx; ⟨y, hy, hr _ _ (List.mem_of_getElem? hx) r⟩⟩
theorem All2.cons {x : α} {y : β} (r : R x y) (h : All2 R xs ys) : All2 R (x :: xs) (y :: ys) := by
  refine ⟨by simp [h.1], fun i z hz => ?_⟩
  cases i with
  | zero => simp only [List.getElem?_cons_zero, Option.some.injEq] at hz; subst hz; exact ⟨y, rfl, r⟩
  | succ i => exact h.2 i z (by simpa using hz)
theorem All2.append (h : All2 R xs ys) (h' : All2 R xs' ys') : All2 R (xs ++ xs') (ys ++ ys') := by
  refine ⟨by simp [h.1, h'.1], fun i z hz => ?_⟩
  rw [List.getElem?_append] at hz ⊢
  rw [← h.1]
  split at hz
  · rename_i hl; rw [if_pos hl]; exact h.2 i z hz
  · rename_i hl; rw [if_neg hl]; exact h'.2 _ z hz
theorem All2.drop (h : All2 R xs ys) (n : Nat) : All2 R (xs.drop n) (ys.drop n) := by
  refine ⟨by simp [h.1], fun i z hz => ?_⟩
  rw [List.getElem?_drop] at hz ⊢
  exact h.2 _ z hz
theorem All2.take (h : All2 R xs ys) (n : Nat) : All2 R (xs.take n) (ys.take n) := by
  refine ⟨by simp [h.1], fun i z hz => ?_⟩
  rw [List.getElem?_take] at hz ⊢
  split at hz
  · rename_i hl; rw [if_pos hl]; exact h.2 _ z hz
  · cases hz
theorem All2.set (h : All2 R xs ys) (n : Nat) {x : α} {y : β} (r : R x y) : All2 R (xs.set n x) (ys.set n y) := by
  refine ⟨by simp [h.1], fun i z hz => ?_⟩
  rw [List.getElem?_set] at hz ⊢
  rw [← h.1]
  split at hz
  · rename_i hl
    rw [if_pos hl]
    split at hz
    · rename_i h2; rw [if_pos h2]; simp only [Option.some.injEq] at hz; subst hz; exact ⟨y, rfl, r⟩
    · cases hz
  · rename_i hl; rw [if_neg hl]; exact h.2 _ z hz
theorem All2.mem_right (h : All2 R xs ys) {y : β} (hy : y ∈ ys) : ∃ x ∈ xs, R x y := by
  obtain ⟨i, hi⟩ := List.mem_iff_getElem?.1 hy
  have hl : i < xs.length := by rw [h.1]; exact (List.getElem?_eq_some_iff.1 hi).1
  obtain ⟨y', hy', r⟩ := h.2 i xs[i] (List.getElem?_eq_getElem hl)
  rw [hi] at hy'
  cases hy'
  exact ⟨_, List.getElem_mem hl, r⟩
theorem All2.map {γ : Type} {f : γ → α} {g : γ → β} (l : List γ) (h : ∀ c ∈ l, R (f c) (g c)) : All2 R (l.map f) (l.map g) := by
  refine ⟨by simp, fun i z hz => ?_⟩
  rw [List.getElem?_map] at hz ⊢
  cases hc : l[i]? with
  | none => rw [hc] at hz; cases hz
  | some c => rw [hc] at hz; simp only [Option.map_some, Option.some.injEq] at hz; subst hz; exact ⟨_, rfl, h c (List.mem_of_getElem? hc)⟩
theorem All2.replicate (n : Nat) {x : α} {y : β} (r : R x y) : All2 R (List.replicate n x) (List.replicate n y) := by
  induction n with
  | zero => exact All2.nil
  | succ n ih => simp only [List.replicate_succ]; exact All2.cons r ih
end

structure MB where
  blk : Nat
  off : Nat
  es : Nat
  et : Nat
  cp : Nat

abbrev MM := Nat → Option MB

def VR0 (m : MM) : Value → Value → Prop
  | .bool b, v' => v' = .bool b
  | .int k n, v' => v' = .int k n
  | .string s, v' => v' = .string s
  | .nilFunc, v' => v' = .nilFunc
  | .pointer none, v' => v' = .pointer none
  | .pointer (some a), v' => ∃ x, m a.block = some x ∧ a.spot = none ∧ v' = .pointer (some ⟨x.blk, x.off + a.off, none⟩)
  | .slice none n _, v' => n = 0 ∧ v' = .slice none 0 0
  | .slice (some a) n _, v' => (∃ x, m a.block = some x ∧ a.spot = none ∧
      ∃ c', v' = .slice (some ⟨x.blk, x.off + a.off, none⟩) n c' ∧ n ≤ c' ∧ (a.off = 0 → c' * x.es ≤ x.cp)) ∨ (n = 0 ∧ 0 < a.off ∧ ∃ A c', v' = .slice A 0 c')
  | _, _ => False

def VR1 (m : MM) (v v' : Value) : Prop :=
  VR0 m v v' ∨ ∃ g f c f' c', v = .func (.func g) f c ∧ v' = .func (.func g) f' c' ∧ All2 (VR0 m) f.toList f'.toList ∧ All2 (VR0 m) c.toList c'.toList

def VA (m : MM) (v v' : Value) : Prop := VR1 m v v' ∨ ∃ cs cs', v = .agg cs ∧ v' = .agg cs' ∧ All2 (VR1 m) cs.toList cs'.toList

def VR (m : MM) (v v' : Value) : Prop := VA m v v' ∨ ∃ vs vs', v = .tuple vs ∧ v' = .tuple vs' ∧ All2 (VA m) vs.toList vs'.toList

def MM.sub (m m' : MM) : Prop := ∀ b x, m b = some x → m' b = some x

theorem VR0.mono {m m' : MM} (h : m.sub m') {v v' : Value} (r : VR0 m v v') : VR0 m' v v' := by
  cases v with
  | pointer a => cases a with
    | none => exact r
    | some a => obtain ⟨x, hx, r⟩ := r; exact ⟨x, h _ _ hx, r⟩
  | slice a n c => cases a with
    | none => exact r
    | some a =>
      rcases r with ⟨x, hx, r⟩ | r
      · exact .inl ⟨x, h _ _ hx, r⟩
      · exact .inr r
  | _ => exact r
theorem VR1.mono {m m' : MM} (h : m.sub m') {v v' : Value} (r : VR1 m v v') : VR1 m' v v' := by
  rcases r with r | ⟨g, f, c, f', c', rfl, rfl, r1, r2⟩
  · exact .inl (VR0.mono h r)
  · exact .inr ⟨g, f, c, f', c', rfl, rfl, r1.mono fun _ _ _ => VR0.mono h, r2.mono fun _ _ _ => VR0.mono h⟩
theorem VA.mono {m m' : MM} (h : m.sub m') {v v' : Value} (r : VA m v v') : VA m' v v' := by
  rcases r with r | ⟨cs, cs', rfl, rfl, r⟩
  · exact .inl (VR1.mono h r)
  · exact .inr ⟨cs, cs', rfl, rfl, r.mono fun _ _ _ => VR1.mono h⟩
theorem VR.mono {m m' : MM} (h : m.sub m') {v v' : Value} (r : VR m v v') : VR m' v v' := by
  rcases r with r | ⟨cs, cs', rfl, rfl, r⟩
  · exact .inl (VA.mono h r)
  · exact .inr ⟨cs, cs', rfl, rfl, r.mono fun _ _ _ => VA.mono h⟩
theorem VR.of1 {m : MM} {v v' : Value} (r : VR1 m v v') : VR m v v' := .inl (.inl r)
theorem VR.of0 {m : MM} {v v' : Value} (r : VR0 m v v') : VR m v v' := .inl (.inl (.inl r))

theorem VR0.one_right {m : MM} {v v' : Value} (r : VR0 m v v') : v'.oneCell' = true := by
  cases v with
  | pointer a => cases a with
    | none => cases r; rfl
    | some a => obtain ⟨x, hx, _, rfl⟩ := r; rfl
  | slice a n c => cases a with
    | none => obtain ⟨_, rfl⟩ := r; rfl
    | some a =>
      rcases r with ⟨x, hx, _, c', rfl, _⟩ | ⟨_, _, A, c', rfl⟩ <;> rfl
  | bool => cases r; rfl
  | int => cases r; rfl
  | string => cases r; rfl
  | nilFunc => cases r; rfl
  | _ => exact r.elim
theorem VR1.one_right {m : MM} {v v' : Value} (r : VR1 m v v') : v'.oneCell' = true := by
  rcases r with r | ⟨g, f, c, f', c', rfl, rfl, r1, r2⟩
  · exact VR0.one_right r
  · rfl
theorem VR1.one_left {m : MM} {v v' : Value} (r : VR1 m v v') : one v = true := by
  rcases r with r | ⟨g, f, c, f', c', rfl, rfl, r1, r2⟩
  · cases v <;> first | rfl | exact r.elim
  · rfl
theorem VA.to1 {m : MM} {v v' : Value} (r : VA m v v') (h : one v = true) : VR1 m v v' := by
  rcases r with r | ⟨cs, cs', rfl, rfl, r⟩
  · exact r
  · simp [one] at h
theorem VR.to1 {m : MM} {v v' : Value} (r : VR m v v') (h : one v = true) : VR1 m v v' := by
  rcases r with r | ⟨cs, cs', rfl, rfl, r⟩
  · exact VA.to1 r h
  · simp [one] at h

/-- The cells of related values are related. -/
theorem cells_one {v : Value} (h : one v = true) : v.cells = #[v] := by cases v <;> simp_all [one, Value.cells]
theorem cells_one' {v : Value} (h : v.oneCell' = true) : v.cells = #[v] := by cases v <;> simp_all [Value.oneCell', Value.cells]
theorem VA.cells {m : MM} {v v' : Value} (r : VA m v v') : All2 (VR1 m) v.cells.toList v'.cells.toList := by
  rcases r with r | ⟨cs, cs', rfl, rfl, r⟩
  · rw [cells_one (VR1.one_left r), cells_one' (VR1.one_right r)]
    exact All2.cons r All2.nil
  · exact r
theorem VR.cells {m : MM} {v v' : Value} (r : VR m v v') (h : v.cells.toList.all one = true) : All2 (VR1 m) v.cells.toList v'.cells.toList := by
  rcases r with r | ⟨cs, cs', rfl, rfl, r⟩
  · exact VA.cells r
  · simp [Value.cells, one] at h

/-- What a value of a known shape stands to. -/
theorem VR.int {m : MM} {k : IntKind} {n : Int} {v' : Value} (r : VR m (.int k n) v') : v' = .int k n := by
  rcases r.to1 rfl with r | ⟨g, f, c, f', c', e, _⟩
  · exact r
  · cases e
theorem VR.bool {m : MM} {n : Bool} {v' : Value} (r : VR m (.bool n) v') : v' = .bool n := by
  rcases r.to1 rfl with r | ⟨g, f, c, f', c', e, _⟩
  · exact r
  · cases e
theorem VR.ptr {m : MM} {a : Addr} {v' : Value} (r : VR m (.pointer (some a)) v') : ∃ x, m a.block = some x ∧ a.spot = none ∧ v' = .pointer (some ⟨x.blk, x.off + a.off, none⟩) := by
  rcases r.to1 rfl with r | ⟨g, f, c, f', c', e, _⟩
  · exact r
  · cases e
theorem VR.slN {m : MM} {n c : Nat} {v' : Value} (r : VR m (.slice none n c) v') : n = 0 ∧ v' = .slice none 0 0 := by
  rcases r.to1 rfl with r | ⟨g, f, c, f', c', e, _⟩
  · exact r
  · cases e
theorem VR.sl {m : MM} {a : Addr} {n c : Nat} {v' : Value} (r : VR m (.slice (some a) n c) v') : (∃ x, m a.block = some x ∧ a.spot = none ∧
      ∃ c', v' = .slice (some ⟨x.blk, x.off + a.off, none⟩) n c' ∧ n ≤ c' ∧ (a.off = 0 → c' * x.es ≤ x.cp)) ∨ (n = 0 ∧ 0 < a.off ∧ ∃ A c', v' = .slice A 0 c') := by
  rcases r.to1 rfl with r | ⟨g, f, c, f', c', e, _⟩
  · exact r
  · cases e
theorem VR.func {m : MM} {g : Nat} {f c : Array Value} {v' : Value} (r : VR m (.func (.func g) f c) v') : ∃ f' c', v' = .func (.func g) f' c' ∧ All2 (VR0 m) f.toList f'.toList ∧ All2 (VR0 m) c.toList c'.toList := by
  rcases r.to1 rfl with r | ⟨g, f, c, f', c', e, rfl, r1, r2⟩
  · exact r.elim
  · cases e; exact ⟨f', c', rfl, r1, r2⟩
theorem VR.agg {m : MM} {cs : Array Value} {v' : Value} (r : VR m (.agg cs) v') : ∃ cs', v' = .agg cs' ∧ All2 (VR1 m) cs.toList cs'.toList := by
  rcases r with (r | ⟨cs, cs', e, rfl, r⟩) | ⟨cs, cs', e, rfl, r⟩
  · have := r.one_left; simp [one] at this
  · cases e; exact ⟨_, rfl, r⟩
  · cases e
theorem VR.tup {m : MM} {cs : Array Value} {v' : Value} (r : VR m (.tuple cs) v') : ∃ cs', v' = .tuple cs' ∧ All2 (VA m) cs.toList cs'.toList := by
  rcases r with (r | ⟨cs, cs', e, rfl, r⟩) | ⟨cs, cs', e, rfl, r⟩
  · have := r.one_left; simp [one] at this
  · cases e
  · cases e; exact ⟨_, rfl, r⟩

structure Sim (lo base : Nat) (m : MM) (H : Heap) (h : Array Obj) : Prop where
  dom : ∀ b x, m b = some x → b < H.length
  cell : ∀ b x k, m b = some x → H[b]? = some k → ∃ cs t fr, h[x.blk]? = some (.cells cs t fr) ∧ ∀ (j : Nat) (v : Value), k.cells[j]? = some v → ∃ v', cs[x.off + j]? = some v' ∧ VR1 m v v'
  own : ∀ b x k, lo ≤ b → m b = some x → H[b]? = some k → base ≤ x.blk ∧ x.off = 0 ∧ (k.app = true → x.es = k.es ∧ x.et = k.et) ∧ ∃ cs, h[x.blk]? = some (.cells cs x.et (0, 0)) ∧ cs.size = x.cp
  sep : ∀ b b' x x' k k', b ≠ b' → lo ≤ b → lo ≤ b' → m b = some x → m b' = some x' → H[b]? = some k → H[b']? = some k' → x.blk = x'.blk →
    (k.cells = [] ∨ k'.cells = [] ∨ (k.solo = false ∧ k'.solo = false)) ∧ (k.app = true → k'.app = false ∧ k'.cells.length ≤ k.cells.length)
  old : ∀ b x, b < lo → m b = some x → x.blk < base
  bnd : base ≤ h.size
  low : lo ≤ H.length

/-- Agreement below a number of ideal blocks. -/
def MM.agree (n : Nat) (m m' : MM) : Prop := ∀ b, b < n → m' b = m b
theorem MM.agree.sub {n : Nat} {m m' : MM} (h : MM.agree n m m') (hd : ∀ b x, m b = some x → b < n) : m.sub m' := fun b x hx => (h b (hd b x hx)).trans hx
theorem MM.agree.refl (n : Nat) (m : MM) : MM.agree n m m := fun _ _ => rfl
theorem MM.agree.trans {n n' : Nat} {m m' m'' : MM} (h : MM.agree n m m') (h' : MM.agree n' m' m'') (hn : n ≤ n') : MM.agree n m m'' := fun b hb => (h' b (by omega)).trans (h b hb)

def MM.put (m : MM) (b : Nat) (x : MB) : MM := fun i => if i = b then some x else m i
theorem MM.put_agree (m : MM) (n : Nat) (x : MB) : MM.agree n m (m.put n x) := fun b hb => by simp [MM.put, Nat.ne_of_lt hb]
theorem MM.put_self (m : MM) (b : Nat) (x : MB) : (m.put b x) b = some x := by simp [MM.put]
theorem MM.put_eq {m : MM} {b i : Nat} {x y : MB} (h : (m.put b x) i = some y) : (i = b ∧ x = y) ∨ (i ≠ b ∧ m i = some y) := by
  unfold MM.put at h
  split at h
  · exact .inl ⟨‹_›, by simpa using h⟩
  · exact .inr ⟨‹_›, h⟩

theorem get_snoc {H : Heap} {k k' : Blk} {b : Nat} (h : (H ++ [k])[b]? = some k') : (b < H.length ∧ H[b]? = some k') ∨ (b = H.length ∧ k' = k) := by
  rw [List.getElem?_append] at h
  split at h
  · exact .inl ⟨‹_›, h⟩
  · rename_i hb
    rcases Nat.eq_or_lt_of_le (Nat.le_of_not_lt hb) with he | hl
    · subst he; simp only [Nat.sub_self, List.getElem?_cons_zero, Option.some.injEq] at h; exact .inr ⟨rfl, h.symm⟩
    · rw [List.getElem?_eq_none (by simp; omega)] at h; cases h

/-- A new block of the run's own. -/
theorem Sim.snoc {lo base : Nat} {m : MM} {H : Heap} {h : Array Obj} (s : Sim lo base m H h) (k : Blk) (cs : Array Value) (x : MB)
    (hx : x.blk = h.size) (ho : x.off = 0) (he : x.es = k.es) (ht : k.app = true → x.et = k.et) (hc : cs.size = x.cp)
    (hv : ∀ (j : Nat) (v : Value), k.cells[j]? = some v → ∃ v', cs[j]? = some v' ∧ VR1 m v v') :
    Sim lo base (m.put H.length x) (H ++ [k]) (h.push (.cells cs x.et (0, 0))) := by
  have hag := MM.put_agree m H.length x
  have hsub := hag.sub s.dom
  have hnew : (h.push (.cells cs x.et (0, 0)))[x.blk]? = some (.cells cs x.et (0, 0)) := by rw [hx]; simp
  have hold : ∀ c o, h[c]? = some o → (h.push (.cells cs x.et (0, 0)))[c]? = some o := fun c o hc => by
    have : c < h.size := (Array.getElem?_eq_some_iff.1 hc).1
    rw [Array.getElem?_push_lt this]; rw [Array.getElem?_eq_getElem this] at hc; exact hc
  have hlt : ∀ b y k, m b = some y → H[b]? = some k → y.blk < h.size := fun b y k hm hk => by
    obtain ⟨cs, t, fr, hcs, _⟩ := s.cell b y k hm hk
    exact (Array.getElem?_eq_some_iff.1 hcs).1
  refine ⟨?_, ?_, ?_, ?_, ?_, ?_, ?_⟩
  · intro b y hy
    rcases MM.put_eq hy with ⟨rfl, _⟩ | ⟨_, hy⟩
    · simp
    · have := s.dom b y hy; simp; omega
  · intro b y k' hy hk
    rcases MM.put_eq hy with ⟨rfl, rfl⟩ | ⟨hb, hy⟩
    · rcases get_snoc hk with ⟨hl, _⟩ | ⟨_, rfl⟩
      · omega
      · refine ⟨cs, _, _, hnew, fun j v hj => ?_⟩
        obtain ⟨v', hv', r⟩ := hv j v hj
        exact ⟨v', by rw [ho, Nat.zero_add]; exact hv', VR1.mono hsub r⟩
    · rcases get_snoc hk with ⟨hl, hk⟩ | ⟨rfl, _⟩
      · obtain ⟨cs', t, fr, hcs, r⟩ := s.cell b y k' hy hk
        exact ⟨cs', t, fr, hold _ _ hcs, fun j v hj => let ⟨v', h1, h2⟩ := r j v hj; ⟨v', h1, VR1.mono hsub h2⟩⟩
      · exact absurd rfl hb
  · intro b y k' hlo hy hk
    rcases MM.put_eq hy with ⟨rfl, rfl⟩ | ⟨hb, hy⟩
    · rcases get_snoc hk with ⟨hl, _⟩ | ⟨_, rfl⟩
      · omega
      · exact ⟨by rw [hx]; exact s.bnd, ho, fun ha => ⟨he, ht ha⟩, cs, hnew, hc⟩
    · rcases get_snoc hk with ⟨hl, hk⟩ | ⟨rfl, _⟩
      · obtain ⟨h1, h2, h3, cs', h4, h5⟩ := s.own b y k' hlo hy hk
        exact ⟨h1, h2, h3, cs', hold _ _ h4, h5⟩
      · exact absurd rfl hb
  · intro b b' y y' k1 k2 hne hlo hlo' hy hy' hk hk' he'
    rcases MM.put_eq hy with ⟨rfl, rfl⟩ | ⟨hb, hy⟩
    · rcases MM.put_eq hy' with ⟨rfl, _⟩ | ⟨hb', hy'⟩
      · exact absurd rfl hne
      · rcases get_snoc hk' with ⟨hl, hk'⟩ | ⟨rfl, _⟩
        · have := hlt b' y' k2 hy' hk'; omega
        · exact absurd rfl hb'
    · rcases MM.put_eq hy' with ⟨rfl, rfl⟩ | ⟨hb', hy'⟩
      · rcases get_snoc hk with ⟨hl, hk⟩ | ⟨rfl, _⟩
        · have := hlt b y k1 hy hk; omega
        · exact absurd rfl hb
      · rcases get_snoc hk with ⟨hl, hk⟩ | ⟨rfl, _⟩
        · rcases get_snoc hk' with ⟨hl', hk'⟩ | ⟨rfl, _⟩
          · exact s.sep b b' y y' k1 k2 hne hlo hlo' hy hy' hk hk' he'
          · exact absurd rfl hb'
        · exact absurd rfl hb
  · intro b y hlo hy
    rcases MM.put_eq hy with ⟨rfl, rfl⟩ | ⟨hb, hy⟩
    · have := s.low; omega
    · exact s.old b y hlo hy
  · simp; have := s.bnd; omega
  · have := s.low; simp; omega

theorem get_set {H : Heap} {k k' : Blk} {b i : Nat} (h : (H.set b k)[i]? = some k') : (i = b ∧ k' = k ∧ b < H.length) ∨ (i ≠ b ∧ H[i]? = some k') := by
  rw [List.getElem?_set] at h
  split at h
  · split at h
    · exact .inl ⟨by omega, by simpa using h.symm, by assumption⟩
    · cases h
  · exact .inr ⟨by omega, h⟩

theorem Sim.lt {lo base : Nat} {m : MM} {H : Heap} {h : Array Obj} (s : Sim lo base m H h) {b : Nat} {x : MB} {k : Blk} (hm : m b = some x) (hk : H[b]? = some k) : x.blk < h.size := by
  obtain ⟨cs, t, fr, hcs, _⟩ := s.cell b x k hm hk
  exact (Array.getElem?_eq_some_iff.1 hcs).1

/-- Cells of one of the run's own blocks are written. -/
theorem Sim.upd {lo base : Nat} {m : MM} {H : Heap} {h h' : Array Obj} (s : Sim lo base m H h) {b : Nat} {x : MB} {k : Blk} (hb : lo ≤ b) (hm : m b = some x) (hk : H[b]? = some k)
    (hs : k.solo = true) (hne : k.cells ≠ []) (kc : List Value) (hl : kc.length = k.cells.length) (cs' : Array Value) (hsz : h'.size = h.size)
    (h1 : h'[x.blk]? = some (.cells cs' x.et (0, 0))) (h2 : ∀ c, c ≠ x.blk → h'[c]? = h[c]?) (hcp : cs'.size = x.cp)
    (hv : ∀ (j : Nat) (v : Value), kc[j]? = some v → ∃ v', cs'[j]? = some v' ∧ VR1 m v v') : Sim lo base m (H.set b { k with cells := kc }) h' := by
  obtain ⟨o1, o2, o3, ocs, o4, o5⟩ := s.own b x k hb hm hk
  have hdisj : ∀ b' x' k', b' ≠ b → m b' = some x' → H[b']? = some k' → x'.blk = x.blk → lo ≤ b' ∧ k'.cells = [] := by
    intro b' x' k' hne' hm' hk' he
    rcases Nat.lt_or_ge b' lo with hl | hl
    · have := s.old b' x' hl hm'; omega
    · refine ⟨hl, ?_⟩
      rcases (s.sep b b' x x' k k' (Ne.symm hne') hb hl hm hm' hk hk' he.symm).1 with h | h | ⟨h, _⟩
      · exact absurd h hne
      · exact h
      · rw [hs] at h; cases h
  refine ⟨?_, ?_, ?_, ?_, ?_, ?_, ?_⟩
  · intro b' y hy; have := s.dom b' y hy; simpa using this
  · intro b' y k' hy hk'
    rcases get_set hk' with ⟨rfl, rfl, _⟩ | ⟨hb', hk'⟩
    · rw [hm] at hy; cases hy
      exact ⟨cs', _, _, h1, fun j v hj => let ⟨v', a, r⟩ := hv j v hj; ⟨v', by rw [o2, Nat.zero_add]; exact a, r⟩⟩
    · by_cases he : y.blk = x.blk
      · obtain ⟨_, hc⟩ := hdisj b' y k' hb' hy hk' he
        exact ⟨cs', _, _, by rw [he]; exact h1, fun j v hj => by rw [hc] at hj; simp at hj⟩
      · rw [h2 _ he]; exact s.cell b' y k' hy hk'
  · intro b' y k' hlo hy hk'
    rcases get_set hk' with ⟨rfl, rfl, _⟩ | ⟨hb', hk'⟩
    · rw [hm] at hy; cases hy
      exact ⟨o1, o2, o3, cs', h1, hcp⟩
    · obtain ⟨p1, p2, p3, pcs, p4, p5⟩ := s.own b' y k' hlo hy hk'
      by_cases he : y.blk = x.blk
      · rw [he] at p4
        rw [o4] at p4
        simp only [Option.some.injEq, Obj.cells.injEq] at p4
        obtain ⟨q1, q2, _⟩ := p4
        refine ⟨p1, p2, p3, cs', by rw [he, ← q2]; exact h1, ?_⟩
        rw [hcp, ← o5, q1, p5]
      · exact ⟨p1, p2, p3, pcs, by rw [h2 _ he]; exact p4, p5⟩
  · intro b1 b2 y1 y2 k1 k2 hn l1 l2 m1 m2 g1 g2 he
    rcases get_set g1 with ⟨rfl, rfl, _⟩ | ⟨n1, f1⟩
    · rcases get_set g2 with ⟨rfl, _⟩ | ⟨n2, f2⟩
      · exact absurd rfl hn
      · rw [hm] at m1; cases m1
        obtain ⟨_, hc⟩ := hdisj b2 y2 k2 n2 m2 f2 he.symm
        exact ⟨.inr (.inl hc), fun ha => ⟨((s.sep _ _ _ _ _ _ hn l1 l2 hm m2 hk f2 he).2 ha).1, by simp [hc]⟩⟩
    · rcases get_set g2 with ⟨rfl, rfl, _⟩ | ⟨n2, f2⟩
      · rw [hm] at m2; cases m2
        obtain ⟨_, hc⟩ := hdisj b1 y1 k1 n1 m1 f1 he
        refine ⟨.inl hc, fun ha => ?_⟩
        have := (s.sep _ _ _ _ _ _ hn l1 l2 m1 hm f1 hk he).2 ha
        rw [hc] at this
        exact absurd (List.eq_nil_of_length_eq_zero (by simpa using this.2)) hne
      · exact s.sep b1 b2 y1 y2 k1 k2 hn l1 l2 m1 m2 f1 f2 he
  · exact s.old
  · rw [hsz]; exact s.bnd
  · have := s.low; simpa using this

/-- A block gives up what it may. -/
theorem Sim.flag {lo base : Nat} {m : MM} {H : Heap} {h : Array Obj} (s : Sim lo base m H h) {b : Nat} {k : Blk} (hk : H[b]? = some k) (so : Bool) (hso : so = true → k.solo = true)
    (kc : List Value) (hkc : kc = k.cells ∨ kc = []) : Sim lo base m (H.set b { k with app := false, solo := so, cells := kc }) h := by
  refine ⟨?_, ?_, ?_, ?_, ?_, ?_, ?_⟩
  · intro b' y hy; have := s.dom b' y hy; simpa using this
  · intro b' y k' hy hk'
    rcases get_set hk' with ⟨rfl, rfl, _⟩ | ⟨hb', hk'⟩
    · obtain ⟨cs, t, fr, h1, h2⟩ := s.cell b' y k hy hk
      refine ⟨cs, t, fr, h1, fun j v hj => ?_⟩
      rcases hkc with rfl | rfl
      · exact h2 j v hj
      · simp at hj
    · exact s.cell b' y k' hy hk'
  · intro b' y k' hlo hy hk'
    rcases get_set hk' with ⟨rfl, rfl, _⟩ | ⟨hb', hk'⟩
    · obtain ⟨p1, p2, p3, p4⟩ := s.own b' y k hlo hy hk
      exact ⟨p1, p2, fun hc => by simp at hc, p4⟩
    · exact s.own b' y k' hlo hy hk'
  · intro b1 b2 y1 y2 k1 k2 hn l1 l2 m1 m2 g1 g2 he
    rcases get_set g1 with ⟨rfl, rfl, _⟩ | ⟨n1, f1⟩
    · rcases get_set g2 with ⟨rfl, _⟩ | ⟨n2, f2⟩
      · exact absurd rfl hn
      · obtain ⟨q, _⟩ := s.sep _ _ _ _ _ _ hn l1 l2 m1 m2 hk f2 he
        refine ⟨?_, fun hc => by simp at hc⟩
        rcases q with q | q | ⟨q1, q2⟩
        · left; rcases hkc with rfl | rfl
          · exact q
          · rfl
        · exact .inr (.inl q)
        · right; right
          refine ⟨?_, q2⟩
          show so = false
          cases so with
          | false => rfl
          | true => rw [hso rfl] at q1; cases q1
    · rcases get_set g2 with ⟨rfl, rfl, _⟩ | ⟨n2, f2⟩
      · obtain ⟨q, q'⟩ := s.sep _ _ _ _ _ _ hn l1 l2 m1 m2 f1 hk he
        refine ⟨?_, fun hc => ⟨rfl, ?_⟩⟩
        · rcases q with q | q | ⟨q1, q2⟩
          · exact .inl q
          · right; left; rcases hkc with rfl | rfl
            · exact q
            · rfl
          · right; right
            refine ⟨q1, ?_⟩
            show so = false
            cases so with
            | false => rfl
            | true => rw [hso rfl] at q2; cases q2
        · rcases hkc with rfl | rfl
          · exact (q' hc).2
          · simp
      · exact s.sep b1 b2 y1 y2 k1 k2 hn l1 l2 m1 m2 f1 f2 he
  · exact s.old
  · exact s.bnd
  · have := s.low; simpa using this

/-- A new block that lies where an old one did. -/
theorem Sim.place {lo base : Nat} {m : MM} {H : Heap} {h h' : Array Obj} (s : Sim lo base m H h) (x : MB) (nk : Blk) (cs cs' : Array Value) (L : Nat)
    (hb : base ≤ x.blk) (h0 : x.off = 0) (he : x.es = nk.es) (ht : x.et = nk.et) (hg : h[x.blk]? = some (.cells cs x.et (0, 0))) (hcs : cs.size = x.cp)
    (hsz : h'.size = h.size) (h1 : h'[x.blk]? = some (.cells cs' x.et (0, 0))) (h2 : ∀ c, c ≠ x.blk → h'[c]? = h[c]?) (hcp : cs'.size = x.cp)
    (hpre : ∀ j, j < L → cs'[j]? = cs[j]?) (hL : L ≤ nk.cells.length)
    (hv : ∀ (j : Nat) (v : Value), nk.cells[j]? = some v → ∃ v', cs'[j]? = some v' ∧ VR1 m v v')
    (hsh : ∀ b y k, lo ≤ b → m b = some y → H[b]? = some k → y.blk = x.blk → k.app = false ∧ k.cells.length ≤ L ∧ (k.cells = [] ∨ (k.solo = false ∧ nk.solo = false))) :
    Sim lo base (m.put H.length x) (H ++ [nk]) h' := by
  have hag := MM.put_agree m H.length x
  have hsub := hag.sub s.dom
  have holdne : ∀ b y, b < lo → m b = some y → y.blk ≠ x.blk := fun b y hl hm e => by have := s.old b y hl hm; omega
  refine ⟨?_, ?_, ?_, ?_, ?_, ?_, ?_⟩
  · intro b y hy
    rcases MM.put_eq hy with ⟨rfl, _⟩ | ⟨_, hy⟩
    · simp
    · have := s.dom b y hy; simp; omega
  · intro b y k' hy hk
    rcases MM.put_eq hy with ⟨rfl, rfl⟩ | ⟨hb', hy⟩
    · rcases get_snoc hk with ⟨hl, _⟩ | ⟨_, rfl⟩
      · omega
      · refine ⟨cs', _, _, h1, fun j v hj => ?_⟩
        obtain ⟨v', hv', r⟩ := hv j v hj
        exact ⟨v', by rw [h0, Nat.zero_add]; exact hv', VR1.mono hsub r⟩
    · rcases get_snoc hk with ⟨hl, hk⟩ | ⟨rfl, _⟩
      · obtain ⟨cs1, t, fr, hcs1, r⟩ := s.cell b y k' hy hk
        by_cases he1 : y.blk = x.blk
        · have hlo : lo ≤ b := by
            rcases Nat.lt_or_ge b lo with hh | hh
            · exact absurd he1 (holdne b y hh hy)
            · exact hh
          obtain ⟨_, q2, _⟩ := hsh b y k' hlo hy hk he1
          obtain ⟨_, p2, _⟩ := s.own b y k' hlo hy hk
          rw [he1, hg] at hcs1
          simp only [Option.some.injEq, Obj.cells.injEq] at hcs1
          obtain ⟨rfl, rfl, rfl⟩ := hcs1
          refine ⟨cs', _, _, by rw [he1]; exact h1, fun j v hj => ?_⟩
          obtain ⟨v', a1, a2⟩ := r j v hj
          have hjl : j < k'.cells.length := (List.getElem?_eq_some_iff.1 hj).1
          refine ⟨v', ?_, VR1.mono hsub a2⟩
          rw [p2, Nat.zero_add] at a1 ⊢
          rw [hpre j (by omega)]; exact a1
        · exact ⟨cs1, t, fr, by rw [h2 _ he1]; exact hcs1, fun j v hj => let ⟨v', a1, a2⟩ := r j v hj; ⟨v', a1, VR1.mono hsub a2⟩⟩
      · exact absurd rfl hb'
  · intro b y k' hlo hy hk
    rcases MM.put_eq hy with ⟨rfl, rfl⟩ | ⟨hb', hy⟩
    · rcases get_snoc hk with ⟨hl, _⟩ | ⟨_, rfl⟩
      · omega
      · exact ⟨hb, h0, fun _ => ⟨he, ht⟩, cs', h1, hcp⟩
    · rcases get_snoc hk with ⟨hl, hk⟩ | ⟨rfl, _⟩
      · obtain ⟨p1, p2, p3, pcs, p4, p5⟩ := s.own b y k' hlo hy hk
        by_cases he1 : y.blk = x.blk
        · rw [he1, hg] at p4
          simp only [Option.some.injEq, Obj.cells.injEq] at p4
          obtain ⟨q1, q2, _⟩ := p4
          exact ⟨p1, p2, p3, cs', by rw [he1, ← q2]; exact h1, by rw [hcp, ← hcs, q1, p5]⟩
        · exact ⟨p1, p2, p3, pcs, by rw [h2 _ he1]; exact p4, p5⟩
      · exact absurd rfl hb'
  · intro b b' y y' k1 k2 hne hlo hlo' hy hy' hk hk' he'
    rcases MM.put_eq hy with ⟨rfl, rfl⟩ | ⟨hb1, hy⟩
    · rcases MM.put_eq hy' with ⟨rfl, _⟩ | ⟨hb', hy'⟩
      · exact absurd rfl hne
      · rcases get_snoc hk' with ⟨hl, fk'⟩ | ⟨rfl, _⟩
        · rcases get_snoc hk with ⟨hl, _⟩ | ⟨_, rfl⟩
          · omega
          · obtain ⟨q1, q2, q3⟩ := hsh b' y' k2 hlo' hy' fk' he'.symm
            refine ⟨?_, fun _ => ⟨q1, by omega⟩⟩
            rcases q3 with q3 | ⟨q3, q4⟩
            · exact .inr (.inl q3)
            · exact .inr (.inr ⟨q4, q3⟩)
        · exact absurd rfl hb'
    · rcases MM.put_eq hy' with ⟨rfl, rfl⟩ | ⟨hb', hy'⟩
      · rcases get_snoc hk with ⟨hl, fk⟩ | ⟨rfl, _⟩
        · rcases get_snoc hk' with ⟨hl, _⟩ | ⟨_, rfl⟩
          · omega
          · obtain ⟨q1, q2, q3⟩ := hsh b y k1 hlo hy fk he'
            refine ⟨?_, fun hc => by rw [q1] at hc; cases hc⟩
            rcases q3 with q3 | ⟨q3, q4⟩
            · exact .inl q3
            · exact .inr (.inr ⟨q3, q4⟩)
        · exact absurd rfl hb1
      · rcases get_snoc hk with ⟨hl, fk⟩ | ⟨rfl, _⟩
        · rcases get_snoc hk' with ⟨hl', fk'⟩ | ⟨rfl, _⟩
          · exact s.sep b b' y y' k1 k2 hne hlo hlo' hy hy' fk fk' he'
          · exact absurd rfl hb'
        · exact absurd rfl hb1
  · intro b y hlo hy
    rcases MM.put_eq hy with ⟨rfl, rfl⟩ | ⟨hb', hy⟩
    · have := s.low; omega
    · exact s.old b y hlo hy
  · rw [hsz]; exact s.bnd
  · have := s.low; simp; omega

end Go.Proofs.YtkdhdklggdbgdaaI
