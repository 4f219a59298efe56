/- Marks of nested slices and structs: what they leave alone, and that the shape stays. -/
import Derived.Test.YtkdhdklggdbgdaaI22
set_option linter.unusedVariables false
set_option linter.unusedSimpArgs false
namespace Go.Proofs.YtkdhdklggdbgdaaI
open Go Go.RowKit

/-- A cell that is the same, or a number for a number. -/
def SimI (c c' : Value) : Prop := c' = c ∨ (∃ n, c = .int .i64 n) ∧ ∃ n', c' = .int .i64 n' ∧ -9223372036854775808 ≤ n' ∧ n' ≤ 9223372036854775807
theorem SimI.trans {a b c : Value} (h : SimI a b) (h' : SimI b c) : SimI a c := by
  rcases h' with rfl | ⟨⟨m, rfl⟩, h2⟩
  · exact h
  · rcases h with h | ⟨h1, _⟩
    · exact .inr ⟨⟨m, h.symm⟩, h2⟩
    · exact .inr ⟨h1, h2⟩
def CsSim (cs cs' : List Value) : Prop := cs'.length = cs.length ∧ ∀ (i : Nat) (c : Value), cs[i]? = some c → ∃ c' : Value, cs'[i]? = some c' ∧ SimI c c'
theorem CsSim.refl (cs : List Value) : CsSim cs cs := ⟨rfl, fun _ c h => ⟨c, h, .inl rfl⟩⟩
theorem CsSim.trans {a b c : List Value} (h : CsSim a b) (h' : CsSim b c) : CsSim a c := ⟨h'.1.trans h.1, fun i x hx => let ⟨y, hy, h1⟩ := h.2 i x hx; let ⟨z, hz, h2⟩ := h'.2 i y hy; ⟨z, hz, h1.trans h2⟩⟩
theorem CsSim.cut {a b : List Value} (h : CsSim a b) (o n : Nat) : CsSim ((a.drop o).take n) ((b.drop o).take n) := by
  refine ⟨by simp only [List.length_take, List.length_drop, h.1], fun i c hc => ?_⟩
  by_cases hi : i < n
  · rw [List.getElem?_take_of_lt hi, List.getElem?_drop] at hc ⊢
    exact h.2 _ _ hc
  · rw [List.getElem?_take_eq_none (by omega)] at hc; cases hc
theorem CsSim.split {x y cs : List Value} (h : CsSim (x ++ y) cs) : ∃ x' y', cs = x' ++ y' ∧ CsSim x x' ∧ CsSim y y' := by
  refine ⟨cs.take x.length, cs.drop x.length, (List.take_append_drop _ _).symm, ?_, ?_⟩
  · have := h.cut 0 x.length
    simpa using this
  · have := h.cut x.length y.length
    have e : (cs.drop x.length).take y.length = cs.drop x.length := List.take_of_length_le (by rw [List.length_drop, h.1, List.length_append]; omega)
    rw [e] at this
    simpa using this
/-- What is seen of an interval of blocks that may be written. -/
def vwb (lo hi : Nat) (H : Heap) : Vw := fun b => if lo ≤ b ∧ b < hi then (H[b]?).bind (fun k => if k.solo = true then some k.cells else none) else none
theorem vwb_some {lo hi : Nat} {H : Heap} {b : Nat} {cs : List Value} (h : vwb lo hi H b = some cs) : lo ≤ b ∧ b < hi ∧ ∃ es et ap, H[b]? = some ⟨cs, es, et, ap, true⟩ := by
  unfold vwb at h
  split at h
  · rename_i h1
    cases hk : H[b]? with
    | none => simp [hk] at h
    | some k =>
      simp only [hk, Option.bind_some] at h
      split at h
      · rename_i hs
        simp only [Option.some.injEq] at h
        subst h
        obtain ⟨cs, es, et, ap, so⟩ := k
        simp only at hs
        subst hs
        exact ⟨h1.1, h1.2, _, _, _, rfl⟩
      · cases h
  · cases h
theorem vwb_mk {lo hi : Nat} {H : Heap} {b : Nat} {cs : List Value} {es et : Nat} {ap : Bool} (h1 : lo ≤ b) (h2 : b < hi) (h : H[b]? = some ⟨cs, es, et, ap, true⟩) : vwb lo hi H b = some cs := by
  unfold vwb
  rw [if_pos ⟨h1, h2⟩, h]
  rfl
theorem vwb_vw {lo hi : Nat} {H H' : Heap} (h : ∀ b, lo ≤ b → b < hi → H'[b]? = H[b]?) : Sub (vwb lo hi H) (vw 0 H') := by
  intro b cs hb
  obtain ⟨h1, h2, es, et, ap, h3⟩ := vwb_some hb
  unfold vw
  rw [if_pos (Nat.zero_le _), h b h1 h2, h3]
  rfl
theorem vwb_same {lo hi : Nat} {H H' : Heap} (h : ∀ b, lo ≤ b → b < hi → H'[b]? = H[b]?) : Sub (vwb lo hi H) (vwb lo hi H') := by
  intro b cs hb
  obtain ⟨h1, h2, es, et, ap, h3⟩ := vwb_some hb
  exact vwb_mk h1 h2 ((h b h1 h2).trans h3)
theorem vws_vwb {lo : Nat} {H : Heap} {hi : Nat} (h : H.length ≤ hi) : Sub (vws lo H) (vwb lo hi H) := by
  intro b cs hb
  unfold vws at hb
  unfold vwb
  split at hb
  · rename_i h1
    have hb2 : b < hi := by
      cases hk : H[b]? with
      | none => simp [hk] at hb
      | some k => have := (List.getElem?_eq_some_iff.1 hk).1; omega
    rw [if_pos ⟨h1, hb2⟩]
    exact hb
  · cases hb

/-- Only numbers of an interval's blocks were changed. -/
def FrI (lo hi : Nat) (H H' : Heap) : Prop := H.length ≤ H'.length ∧ ∀ b, b < H.length → H'[b]? = H[b]? ∨ (lo ≤ b ∧ b < hi ∧ ∃ k k', H[b]? = some k ∧ H'[b]? = some k' ∧ k'.solo = k.solo ∧ CsSim k.cells k'.cells)
theorem FrI.refl (lo hi : Nat) (H : Heap) : FrI lo hi H H := ⟨Nat.le_refl _, fun _ _ => .inl rfl⟩
theorem FrI.grow {lo hi : Nat} (H L : Heap) : FrI lo hi H (H ++ L) := ⟨by rw [List.length_append]; omega, fun b hb => .inl (List.getElem?_append_left hb)⟩
theorem FrI.trans {lo hi : Nat} {H H1 H2 : Heap} (h : FrI lo hi H H1) (h' : FrI lo hi H1 H2) : FrI lo hi H H2 := by
  refine ⟨Nat.le_trans h.1 h'.1, fun b hb => ?_⟩
  have := h.1
  rcases h.2 b hb with e1 | ⟨l1, l2, k, k', e1, e2, e3, e4⟩
  · rcases h'.2 b (by omega) with f1 | ⟨l1, l2, k, k', f1, f2, f3, f4⟩
    · exact .inl (f1.trans e1)
    · exact .inr ⟨l1, l2, k, k', e1 ▸ f1, f2, f3, f4⟩
  · rcases h'.2 b (by omega) with f1 | ⟨_, _, q, q', f1, f2, f3, f4⟩
    · exact .inr ⟨l1, l2, k, k', e1, f1.trans e2, e3, e4⟩
    · rw [e2] at f1
      simp only [Option.some.injEq] at f1
      subst f1
      exact .inr ⟨l1, l2, k, q', e1, f2, f3.trans e3, e4.trans f4⟩
theorem FrI.out {lo hi : Nat} {H H' : Heap} (h : FrI lo hi H H') {b : Nat} (hb : b < H.length) (ho : b < lo ∨ hi ≤ b) : H'[b]? = H[b]? := by
  rcases h.2 b hb with h1 | ⟨h1, h2, _⟩
  · exact h1
  · omega
theorem FrI.gc {lo hi : Nat} {H H' : Heap} (h : FrI lo hi H H') {b : Nat} (hb : b < H.length) (ho : b < lo ∨ hi ≤ b) (o n : Nat) : getCells H' b o n = getCells H b o n := by
  unfold getCells
  rw [h.out hb ho]
def VSim (V V' : Vw) : Prop := ∀ b cs, V b = some cs → ∃ cs', V' b = some cs' ∧ CsSim cs cs'
theorem FrI.vsim {lo hi : Nat} {H H' : Heap} (h : FrI lo hi H H') : VSim (vwb lo hi H) (vwb lo hi H') := by
  intro b cs hb
  obtain ⟨h1, h2, es, et, ap, h3⟩ := vwb_some hb
  rcases h.2 b (List.getElem?_eq_some_iff.1 h3).1 with f1 | ⟨_, _, k, k', f1, f2, f3, f4⟩
  · exact ⟨cs, vwb_mk h1 h2 (f1.trans h3), CsSim.refl _⟩
  · rw [h3] at f1
    simp only [Option.some.injEq] at f1
    subst f1
    obtain ⟨cs', es', et', ap', so'⟩ := k'
    simp only at f3
    subst f3
    exact ⟨cs', vwb_mk h1 h2 f2, f4⟩
theorem VSim.rng {V V' : Vw} (h : VSim V V') {b o n : Nat} {cs : List Value} (k : rng V b o n = some cs) : ∃ cs', rng V' b o n = some cs' ∧ CsSim cs cs' := by
  unfold Go.Proofs.YtkdhdklggdbgdaaI.rng at k ⊢
  cases hv : V b with
  | none => simp [hv] at k
  | some c =>
    obtain ⟨c', hc, hs⟩ := h b c hv
    rw [hv] at k
    rw [hc]
    simp only at k ⊢
    split at k
    · rename_i hl
      simp only [Option.some.injEq] at k
      subst k
      rw [hs.1, if_pos hl]
      exact ⟨_, rfl, hs.cut _ _⟩
    · cases k

/-- Numbers may be changed: what stays is told by s. -/
def CoSim {α β : Type} (A : Co α) (s : α → β) : Prop := ∀ (V V' : Vw) (cs cs' : List Value) (a : α), VSim V V' → CsSim cs cs' → A.rd V cs a → ∃ a', A.rd V' cs' a' ∧ s a' = s a
theorem CoSim.comp {α β γ : Type} {A : Co α} {s : α → β} (h : CoSim A s) (g : β → γ) : CoSim A (fun a => g (s a)) := fun V V' cs cs' a h1 h2 h3 => let ⟨a', h4, h5⟩ := h V V' cs cs' a h1 h2 h3; ⟨a', h4, congrArg g h5⟩
theorem CoSim.int : CoSim Co.int (fun _ => ()) := by
  rintro V V' cs cs' a _ ⟨h1, h2⟩ ⟨rfl, h3⟩
  obtain ⟨c', h4, h5⟩ := h2 0 _ rfl
  obtain ⟨x, rfl⟩ : ∃ x, cs' = [x] := List.length_eq_one_iff.1 h1
  simp only [List.getElem?_cons_zero, Option.some.injEq] at h4
  subst h4
  rcases h5 with rfl | ⟨_, n', rfl, h6⟩
  · exact ⟨a, ⟨rfl, h3⟩, rfl⟩
  · exact ⟨n', ⟨rfl, h6⟩, rfl⟩
theorem CoSim.bool : CoSim Co.bool (fun _ => ()) := by
  rintro V V' cs cs' a _ ⟨h1, h2⟩ rfl
  obtain ⟨c', h4, h5⟩ := h2 0 _ rfl
  obtain ⟨x, rfl⟩ : ∃ x, cs' = [x] := List.length_eq_one_iff.1 h1
  simp only [List.getElem?_cons_zero, Option.some.injEq] at h4
  subst h4
  rcases h5 with rfl | ⟨⟨_, h⟩, _⟩
  · exact ⟨a, rfl, rfl⟩
  · cases h
theorem CoSim.pair {α β γ δ : Type} {A : Co α} {B : Co β} {s : α → γ} {t : β → δ} (hA : CoSim A s) (hB : CoSim B t) : CoSim (Co.pair A B) (fun p => (s p.1, t p.2)) := by
  rintro V V' cs cs' p hV hc ⟨x, y, rfl, h1, h2⟩
  obtain ⟨x', y', rfl, hx, hy⟩ := hc.split
  obtain ⟨a', h3, h4⟩ := hA V V' x x' p.1 hV hx h1
  obtain ⟨b', h5, h6⟩ := hB V V' y y' p.2 hV hy h2
  exact ⟨(a', b'), ⟨x', y', rfl, h3, h5⟩, by simp only [h4, h6]⟩
theorem mk_list {α : Type} (P : Nat → α → Prop) : ∀ (n : Nat), (∀ i, i < n → ∃ a, P i a) → ∃ l : List α, l.length = n ∧ ∀ i (h : i < l.length), P i l[i]
  | 0, _ => ⟨[], rfl, fun i h => by simp at h⟩
  | n + 1, h => by
    obtain ⟨l, h1, h2⟩ := mk_list P n fun i hi => h i (by omega)
    obtain ⟨a, ha⟩ := h n (by omega)
    refine ⟨l ++ [a], by simp [h1], fun i hi => ?_⟩
    by_cases hin : i < l.length
    · rw [List.getElem_append_left hin]; exact h2 i hin
    · simp only [List.length_append, List.length_cons, List.length_nil] at hi
      obtain rfl : i = l.length := by omega
      simpa [h1] using ha
theorem CoSim.sl {α β : Type} {A : Co α} {s : α → β} (hA : CoSim A s) : CoSim (Co.sl A) (fun l => l.map s) := by
  rintro V V' cs cs' l hV ⟨hc1, hc2⟩ ⟨v, rfl, h0, a, rfl, h1⟩
  obtain ⟨c', h4, h5⟩ := hc2 0 _ rfl
  obtain ⟨x, rfl⟩ : ∃ x, cs' = [x] := List.length_eq_one_iff.1 hc1
  simp only [List.getElem?_cons_zero, Option.some.injEq] at h4
  subst h4
  rcases h5 with rfl | ⟨⟨_, h⟩, _⟩
  · rcases h1 with rfl | ⟨b, o, rfl, h1⟩
    · exact ⟨[], ⟨_, rfl, h0, a, rfl, .inl rfl⟩, rfl⟩
    · obtain ⟨l', hl, h2⟩ := mk_list (fun i a' => ∀ h : i < l.length, (∃ cs, rng V' b (o + i * A.w) A.w = some cs ∧ A.rd V' cs a') ∧ s a' = s l[i]) l.length fun i hi => by
        obtain ⟨cs, h3, h4⟩ := h1 i hi
        obtain ⟨cs', h5, h6⟩ := hV.rng h3
        obtain ⟨a', h7, h8⟩ := hA V V' cs cs' _ hV h6 h4
        exact ⟨a', fun _ => ⟨⟨cs', h5, h7⟩, h8⟩⟩
      refine ⟨l', ⟨_, rfl, by omega, some ⟨b, o, none⟩, by rw [hl], .inr ⟨b, o, rfl, fun i hi => (h2 i hi (by omega)).1⟩⟩, ?_⟩
      refine List.ext_getElem (by simp [hl]) fun i h3 h4 => ?_
      rw [List.length_map] at h3
      rw [List.getElem_map, List.getElem_map]
      exact (h2 i h3 (by omega)).2
  · cases h

/-- A mark: numbers are written, as many as c says. -/
def MkOk (F : Nat → Option IFn) {α : Type} (A : Co α) (agg : Bool) (f : Nat) (c : α → Nat) : Prop := ∀ (H : Heap) (v : Value) (a : α) (lo hi lo0 : Nat) (k : Int), Rd A agg (vwb lo hi H) v a → hi ≤ H.length → lo0 ≤ lo → 0 ≤ k → k + (c a : Nat) ≤ 9223372036854775807 →
  ∃ H', NC F lo0 f [v, .int .i64 k] H (.int .i64 (k + (c a : Nat))) H' ∧ FrI lo hi H H'
def AllI {α : Type} (A : Co α) : Prop := ∀ V cs a, A.rd V cs a → ∀ c, c ∈ cs → ∃ n, c = .int .i64 n
theorem AllI.int : AllI Co.int := fun V cs a h c hc => by rw [h.1] at hc; simp only [List.mem_singleton] at hc; exact ⟨_, hc⟩
theorem AllI.pair {α β : Type} {A : Co α} {B : Co β} (hA : AllI A) (hB : AllI B) : AllI (Co.pair A B) := fun V cs p ⟨x, y, h1, h2, h3⟩ c hc => by
  rw [h1, List.mem_append] at hc
  exact hc.elim (hA _ _ _ h2 c) (hB _ _ _ h3 c)
theorem flat_of {α : Type} {A : Co α} {w : Nat} (hw : A.w = w) {lo hi : Nat} {H : Heap} {v : Value} {l : List α} (h : SlR A (vwb lo hi H) v l) : ∃ b o, FlatB lo hi H w v l.length b o ∧ (l ≠ [] → ∃ a, v = .slice (some ⟨b, o, none⟩) a a ∧ ∀ i (h : i < l.length), ∃ cs, rng (vwb lo hi H) b (o + i * w) w = some cs ∧ A.rd (vwb lo hi H) cs l[i]) := by
  obtain ⟨h0, a, rfl, h1⟩ := h
  rcases h1 with rfl | ⟨b, o, rfl, h1⟩
  · exact ⟨0, 0, ⟨h0, a, rfl, .inl rfl⟩, fun h => absurd rfl h⟩
  · refine ⟨b, o, ⟨h0, _, rfl, ?_⟩, fun _ => ⟨_, rfl, hw ▸ h1⟩⟩
    rcases Nat.eq_zero_or_pos l.length with hl | hl
    · exact .inl hl
    refine .inr ⟨rfl, ?_⟩
    obtain ⟨cs, h2, h3⟩ := h1 (l.length - 1) (by omega)
    unfold rng at h2
    split at h2
    · rename_i k hk
      obtain ⟨g1, g2, es, et, ap, g3⟩ := vwb_some hk
      split at h2
      · rename_i hl2
        refine ⟨g1, g2, k, es, et, ap, g3, ?_⟩
        rw [hw] at hl2
        have : l.length * w = (l.length - 1) * w + w := by
          obtain ⟨n, hn⟩ : ∃ n, l.length = n + 1 := ⟨l.length - 1, by omega⟩
          rw [hn, Nat.succ_mul]; rfl
        omega
      · cases h2
    · cases h2
theorem frI_mark {α : Type} {A : Co α} {w : Nat} (hA : AllI A) (hw : A.w = w) (h0 : 0 < w) {lo hi : Nat} {H : Heap} {v : Value} {l : List α} {b o : Nat} (hf : FlatB lo hi H w v l.length b o) (hl : l ≠ []) (h : ∀ i (h : i < l.length), ∃ cs, rng (vwb lo hi H) b (o + i * w) w = some cs ∧ A.rd (vwb lo hi H) cs l[i])
    {k : Int} (hk : 0 ≤ k) (hkn : k + (l.length * w : Nat) ≤ 9223372036854775807) : FrI lo hi H (markB H b o k (l.length * w)) := by
  refine ⟨Nat.le_of_eq (markB_len _ _ _ _ _).symm, fun b' hb' => ?_⟩
  by_cases e : b' = b
  · subst e
    obtain ⟨_, a, _, h3⟩ := hf
    obtain ⟨_, g1, g2, cs, es, et, ap, g3, g4⟩ := h3.resolve_left (by cases l with | nil => exact absurd rfl hl | cons => simp)
    refine .inr ⟨g1, g2, _, _, g3, markB_get g3 _ _ _, rfl, setL_length _ _ _, fun i c hc => ?_⟩
    simp only at hc ⊢
    rw [setL_get _ _ _ _ (by rw [seqI_length]; exact g4), seqI_length]
    by_cases hi2 : o ≤ i ∧ i < o + l.length * w
    · rw [if_pos hi2, seqI_at _ _ _ (by omega)]
      refine ⟨_, rfl, .inr ⟨?_, _, rfl, by omega, by omega⟩⟩
      have hq : (i - o) / w < l.length := Nat.div_lt_of_lt_mul (by rw [Nat.mul_comm]; omega)
      obtain ⟨es', h5, h6⟩ := h _ hq
      unfold rng at h5
      rw [vwb_mk g1 g2 g3] at h5
      simp only at h5
      split at h5
      · simp only [Option.some.injEq] at h5
        subst h5
        have hm : (i - o) % w < w := Nat.mod_lt _ h0
        have hd : (i - o) / w * w + (i - o) % w = i - o := Nat.div_add_mod' _ _
        refine hA _ _ _ h6 c (List.mem_iff_getElem?.2 ⟨(i - o) % w, ?_⟩)
        rw [List.getElem?_take_of_lt hm, List.getElem?_drop, ← hc]
        congr 1
        omega
      · cases h5
    · rw [if_neg hi2]
      exact ⟨c, hc, .inl rfl⟩
  · exact .inl (markB_ne _ _ _ _ e)
theorem MkOk.flat {F : Nat → Option IFn} {α : Type} {A : Co α} {w f : Nat} (hA : AllI A) (hw : A.w = w) (h0 : 0 < w) (hm : MarkFlat F w f) : MkOk F (Co.sl A) false f (fun l => l.length * w) := by
  rintro H v l lo hi lo0 k ⟨cs, hc, u, rfl, hr⟩ hhi hlo hk hkn
  simp only [valOf_one, Option.some.injEq] at hc
  subst hc
  obtain ⟨b, o, hf, hl⟩ := flat_of hw hr
  refine ⟨_, hm H _ _ b o lo hi lo0 k hf hlo hk hkn, ?_⟩
  split
  · exact FrI.refl _ _ _
  · rename_i hn
    have hne : l ≠ [] := fun h => hn (by rw [h]; rfl)
    obtain ⟨a, _, h2⟩ := hl hne
    exact frI_mark hA hw h0 hf hne h2 hk hkn

/-! ### A slice of what is marked by a call -/
def markC (w g : Nat) (agg : Bool) : ICode := .reg none [
        ⟨(some 12), none, .mov (.t 0)⟩,
        ⟨(some 13), none, .mov (.t 5)⟩,
        ⟨(some 14), none, .iad w (.t 12) (.t 13)⟩,
        ⟨(some 15), none, .load agg w (.t 14)⟩,
        ⟨(some 16), none, .mov (.t 1)⟩,
        ⟨(some 17), none, .call .n (.f g) [(.t 15), (.t 16)]⟩,
        ⟨(some 1), none, .mov (.t 17)⟩]
theorem sum_take (f : Nat → Nat) : ∀ (l : List Nat) (i : Nat) (h : i < l.length), (l.take (i + 1)).sum = (l.take i).sum + l[i]
  | a :: l, 0, _ => by simp
  | a :: l, i + 1, h => by
    rw [List.take_succ_cons, List.sum_cons, sum_take f l i (by simpa using h), List.take_succ_cons, List.sum_cons, List.getElem_cons_succ]
    omega
theorem sum_take_le : ∀ (l : List Nat) (i : Nat), (l.take i).sum ≤ l.sum
  | [], i => by simp
  | a :: l, 0 => by simp
  | a :: l, i + 1 => by rw [List.take_succ_cons, List.sum_cons, List.sum_cons]; have := sum_take_le l i; omega
theorem MkOk.sl {F : Nat → Option IFn} {α : Type} {A : Co α} {w f g nt : Nat} {agg : Bool} {c : α → Nat} (hf : F f = some (markH 18 w (markC w g agg) nt)) (hs : CoSim A c) (hw : A.w = w) (hva : ∀ V cs a, A.rd V cs a → ∃ v, valOf agg cs = some v) (hg : MkOk F A agg g c) :
    MkOk F (Co.sl A) false f (fun l => (l.map c).sum) := by
  rintro H v l lo hi lo0 k ⟨cs, hc, u, rfl, hr⟩ hhi hlo hk hkn
  simp only [valOf_one, Option.some.injEq] at hc hkn
  subst hc
  have hr0 := hr
  obtain ⟨hn, a, rfl, ha⟩ := hr
  suffices h : ∃ v H', NC F lo0 f [.slice a l.length l.length, .int .i64 k] H v H' ∧ v = .int .i64 (k + ((l.map c).sum : Nat)) ∧ FrI lo hi H H' by
    obtain ⟨v, H', h1, rfl, h2⟩ := h
    exact ⟨H', h1, h2⟩
  refine NC.mk hf rfl ?_
  refine seq_reg ?_
  simp only [go_sem, binI_lss, binI_leq, binI_gtr, binI_geq, binI_eql, binI_neq, Nat.reduceEqDiff, Nat.reduceAdd, Nat.reduceMul, Nat.reduceSub, Nat.reduceLeDiff, Nat.reduceLT, reduceIte, reduceCtorEq]
  refine seq_assoc (seq_reg ?_)
  simp only [go_sem, binI_lss, binI_leq, binI_gtr, binI_geq, binI_eql, binI_neq, Nat.reduceEqDiff, Nat.reduceAdd, Nat.reduceMul, Nat.reduceSub, Nat.reduceLeDiff, Nat.reduceLT, reduceIte, reduceCtorEq]
  refine seq_block (wpc_loop ?_)
  suffices h : ∀ (j i : Nat) (e : Env) (H' : Heap), i + j = l.length → FrI lo hi H H' → e 0 = .slice a l.length l.length → e 5 = .int .i64 i → e 1 = .int .i64 (k + (((l.map c).take i).sum : Nat)) → W F lo0 _ e H' _ from
    h l.length 0 _ _ (by omega) (FrI.refl _ _ _) (by simp only [go_sem, binI_lss, binI_leq, binI_gtr, binI_geq, binI_eql, binI_neq, Nat.reduceEqDiff, Nat.reduceAdd, Nat.reduceMul, Nat.reduceSub, Nat.reduceLeDiff, Nat.reduceLT, reduceIte, reduceCtorEq]) (by simp only [go_sem, binI_lss, binI_leq, binI_gtr, binI_geq, binI_eql, binI_neq, Nat.reduceEqDiff, Nat.reduceAdd, Nat.reduceMul, Nat.reduceSub, Nat.reduceLeDiff, Nat.reduceLT, reduceIte, reduceCtorEq]; rfl) (by simp only [go_sem, binI_lss, binI_leq, binI_gtr, binI_geq, binI_eql, binI_neq, Nat.reduceEqDiff, Nat.reduceAdd, Nat.reduceMul, Nat.reduceSub, Nat.reduceLeDiff, Nat.reduceLT, reduceIte, reduceCtorEq]; simp)
  intro j
  induction j with
  | zero =>
    intro i e H' hi2 hfr e0 e5 e1
    refine lp_step ?_
    refine seq_assoc (seq_reg ?_)
    simp only [go_sem, binI_lss, binI_leq, binI_gtr, binI_geq, binI_eql, binI_neq, Nat.reduceEqDiff, Nat.reduceAdd, Nat.reduceMul, Nat.reduceSub, Nat.reduceLeDiff, Nat.reduceLT, reduceIte, reduceCtorEq, e0, e5]
    refine seq_cond (t := false) (by simp only [go_sem, binI_lss, binI_leq, binI_gtr, binI_geq, binI_eql, binI_neq, Nat.reduceEqDiff, Nat.reduceAdd, Nat.reduceMul, Nat.reduceSub, Nat.reduceLeDiff, Nat.reduceLT, reduceIte, reduceCtorEq]; rw [decide_eq_false (by omega)]) ?_
    simp only [go_sem, binI_lss, binI_leq, binI_gtr, binI_geq, binI_eql, binI_neq, Nat.reduceEqDiff, Nat.reduceAdd, Nat.reduceMul, Nat.reduceSub, Nat.reduceLeDiff, Nat.reduceLT, reduceIte, reduceCtorEq]
    refine seq_exit ?_
    simp only [go_sem, binI_lss, binI_leq, binI_gtr, binI_geq, binI_eql, binI_neq, Nat.reduceEqDiff, Nat.reduceAdd, Nat.reduceMul, Nat.reduceSub, Nat.reduceLeDiff, Nat.reduceLT, reduceIte, reduceCtorEq, thenX_e, out_e, thenX_n]
    refine seq_reg ?_
    simp only [go_sem, binI_lss, binI_leq, binI_gtr, binI_geq, binI_eql, binI_neq, Nat.reduceEqDiff, Nat.reduceAdd, Nat.reduceMul, Nat.reduceSub, Nat.reduceLeDiff, Nat.reduceLT, reduceIte, reduceCtorEq, e1]
    obtain rfl : i = l.length := by omega
    refine wpc_ret ⟨Or.inr rfl, _, (by simp only [go_sem, binI_lss, binI_leq, binI_gtr, binI_geq, binI_eql, binI_neq, Nat.reduceEqDiff, Nat.reduceAdd, Nat.reduceMul, Nat.reduceSub, Nat.reduceLeDiff, Nat.reduceLT, reduceIte, reduceCtorEq]; rfl), ?_, hfr⟩
    rw [List.take_of_length_le (by rw [List.length_map]; omega)]
  | succ j ih =>
    intro i e H' hi2 hfr e0 e5 e1
    refine lp_step ?_
    refine seq_assoc (seq_reg ?_)
    simp only [go_sem, binI_lss, binI_leq, binI_gtr, binI_geq, binI_eql, binI_neq, Nat.reduceEqDiff, Nat.reduceAdd, Nat.reduceMul, Nat.reduceSub, Nat.reduceLeDiff, Nat.reduceLT, reduceIte, reduceCtorEq, e0, e5]
    refine seq_cond (t := true) (by simp only [go_sem, binI_lss, binI_leq, binI_gtr, binI_geq, binI_eql, binI_neq, Nat.reduceEqDiff, Nat.reduceAdd, Nat.reduceMul, Nat.reduceSub, Nat.reduceLeDiff, Nat.reduceLT, reduceIte, reduceCtorEq]; rw [decide_eq_true (by omega)]) ?_
    simp only [go_sem, binI_lss, binI_leq, binI_gtr, binI_geq, binI_eql, binI_neq, Nat.reduceEqDiff, Nat.reduceAdd, Nat.reduceMul, Nat.reduceSub, Nat.reduceLeDiff, Nat.reduceLT, reduceIte, reduceCtorEq]
    refine seq_skip (seq_block ?_)
    unfold markC
    refine wpc_reg ?_
    have hil : i < l.length := by omega
    obtain ⟨l', hl', hm⟩ := hs.sl _ _ _ _ _ hfr.vsim (CsSim.refl _) (Co.rd_sl.2 hr0)
    obtain ⟨_, a', e6, h7⟩ := Co.rd_sl.1 hl'
    have hll : l'.length = l.length := by have := congrArg List.length hm; simpa using this
    rcases h7 with rfl | ⟨b, o, rfl, h7⟩
    · simp only [List.length_nil] at hll; omega
    obtain ⟨cs, h8, h9⟩ := h7 i (by omega)
    obtain ⟨x, hx⟩ := hva _ _ _ h9
    rw [hll] at e6
    simp only [Value.slice.injEq] at e6
    obtain ⟨rfl, _⟩ := e6
    have hgc : getCells H' b (o + i * w) w = some cs := hw ▸ rng_gc (rng_sub (vwb_vw (fun _ _ _ => rfl)) h8)
    simp only [go_sem, binI_lss, binI_leq, binI_gtr, binI_geq, binI_eql, binI_neq, Nat.reduceEqDiff, Nat.reduceAdd, Nat.reduceMul, Nat.reduceSub, Nat.reduceLeDiff, Nat.reduceLT, reduceIte, reduceCtorEq, e0, e5, e1, hgc, hx]
    refine ⟨⟨by omega, by omega⟩, ?_⟩
    have hci : c l'[i] = c l[i] := by
      have := congrArg (fun q => q[i]?) hm
      simp only [List.getElem?_map, List.getElem?_eq_getElem hil, List.getElem?_eq_getElem (show i < l'.length by omega), Option.map_some, Option.some.injEq] at this
      exact this
    have hsum := sum_take (fun x => x) (l.map c) i (by rw [List.length_map]; exact hil)
    rw [List.getElem_map] at hsum
    have hle := sum_take_le (l.map c) (i + 1)
    obtain ⟨H2, h10, h11⟩ := hg H' x l'[i] lo hi lo0 (k + (((l.map c).take i).sum : Nat)) ⟨cs, hx, h9⟩ (Nat.le_trans hhi hfr.1) hlo (by omega) (by rw [hci]; omega)
    refine op_callN (by simp only [go_sem, binI_lss, binI_leq, binI_gtr, binI_geq, binI_eql, binI_neq, Nat.reduceEqDiff, Nat.reduceAdd, Nat.reduceMul, Nat.reduceSub, Nat.reduceLeDiff, Nat.reduceLT, reduceIte, reduceCtorEq]; exact h10) ?_
    simp only [go_sem, binI_lss, binI_leq, binI_gtr, binI_geq, binI_eql, binI_neq, Nat.reduceEqDiff, Nat.reduceAdd, Nat.reduceMul, Nat.reduceSub, Nat.reduceLeDiff, Nat.reduceLT, reduceIte, reduceCtorEq, out_n, thenX_n]
    refine wpc_reg ?_
    simp only [go_sem, binI_lss, binI_leq, binI_gtr, binI_geq, binI_eql, binI_neq, Nat.reduceEqDiff, Nat.reduceAdd, Nat.reduceMul, Nat.reduceSub, Nat.reduceLeDiff, Nat.reduceLT, reduceIte, reduceCtorEq, e5]
    have hw1 : IntKind.i64.wrap ((i : Int) + 1) = ((i + 1 : Nat) : Int) := by rw [wrap_id (by omega) (by omega)]; omega
    rw [hw1]
    simp only [go_sem, binI_lss, binI_leq, binI_gtr, binI_geq, binI_eql, binI_neq, Nat.reduceEqDiff, Nat.reduceAdd, Nat.reduceMul, Nat.reduceSub, Nat.reduceLeDiff, Nat.reduceLT, reduceIte, reduceCtorEq, thenX_n]
    refine ih (i + 1) _ H2 (by omega) (hfr.trans h11) (by simp only [go_sem, binI_lss, binI_leq, binI_gtr, binI_geq, binI_eql, binI_neq, Nat.reduceEqDiff, Nat.reduceAdd, Nat.reduceMul, Nat.reduceSub, Nat.reduceLeDiff, Nat.reduceLT, reduceIte, reduceCtorEq, e0]) (by simp only [go_sem, binI_lss, binI_leq, binI_gtr, binI_geq, binI_eql, binI_neq, Nat.reduceEqDiff, Nat.reduceAdd, Nat.reduceMul, Nat.reduceSub, Nat.reduceLeDiff, Nat.reduceLT, reduceIte, reduceCtorEq]) (by simp only [go_sem, binI_lss, binI_leq, binI_gtr, binI_geq, binI_eql, binI_neq, Nat.reduceEqDiff, Nat.reduceAdd, Nat.reduceMul, Nat.reduceSub, Nat.reduceLeDiff, Nat.reduceLT, reduceIte, reduceCtorEq]; rw [hci]; congr 1; omega)
end Go.Proofs.YtkdhdklggdbgdaaI
