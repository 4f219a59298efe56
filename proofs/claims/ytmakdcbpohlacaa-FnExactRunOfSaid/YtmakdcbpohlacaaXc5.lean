/- Texts of this proof, merged: M5. -/
import Derived.Test.YtmakdcbpohlacaaXc4
import Derived.ProofKit
import Derived.ChangeOld
import Derived.ChangeSlices
import Derived.Deep.Strs
import Derived.Below
section
/- Texts of this proof, merged: I23, I24, I14, I15, I16, I18, I25, D1, D2, D3, D4, D5. -/
section
/- Marks of nested slices and structs: what they leave alone, and that the shape stays. -/
set_option linter.unusedVariables false
set_option linter.unusedSimpArgs false
namespace Go.Proofs.YtmakdcbpohlacaaI
open Go Go.RowKit

/-- A cell that is the same, or a number for a number. -/
def SimI (c c' : Value) : Prop := c' = c ∨ (∃ n, c = .int .i64 n) ∧ ∃ n', c' = .int .i64 n' ∧ -9223372036854775808 ≤ n' ∧ n' ≤ 9223372036854775807
theorem SimI.trans {a b c : Value} (h : SimI a b) (h' : SimI b c) : SimI a c := by
  rcases h' with rfl | ⟨⟨m, rfl⟩, h2⟩
  · exact h
  · rcases h with h | ⟨h1, _⟩
    · exact .inr ⟨⟨m, h.symm⟩, h2⟩
    · exact .inr ⟨h1, h2⟩
def CsSim (cs cs' : List Value) : Prop := cs'.length = cs.length ∧ ∀ (i : Nat) (c : Value), cs[i]? = some c → ∃ c' : Value, cs'[i]? = some c' ∧ SimI c c'
theorem CsSim.refl (cs : List Value) : CsSim cs cs := ⟨rfl, fun _ c h => ⟨c, h, .inl rfl⟩⟩
theorem CsSim.trans {a b c : List Value} (h : CsSim a b) (h' : CsSim b c) : CsSim a c := ⟨h'.1.trans h.1, fun i x hx => let ⟨y, hy, h1⟩ := h.2 i x hx; let ⟨z, hz, h2⟩ := h'.2 i y hy; ⟨z, hz, h1.trans h2⟩⟩
theorem CsSim.cut {a b : List Value} (h : CsSim a b) (o n : Nat) : CsSim ((a.drop o).take n) ((b.drop o).take n) := by
  refine ⟨by simp only [List.length_take, List.length_drop, h.1], fun i c hc => ?_⟩
  by_cases hi : i < n
  · rw [List.getElem?_take_of_lt hi, List.getElem?_drop] at hc ⊢
    exact h.2 _ _ hc
  · rw [List.getElem?_take_eq_none (by omega)] at hc; cases hc
theorem CsSim.split {x y cs : List Value} (h : CsSim (x ++ y) cs) : ∃ x' y', cs = x' ++ y' ∧ CsSim x x' ∧ CsSim y y' := by
  refine ⟨cs.take x.length, cs.drop x.length, (List.take_append_drop _ _).symm, ?_, ?_⟩
  · have := h.cut 0 x.length
    simpa using this
  · have := h.cut x.length y.length
    have e : (cs.drop x.length).take y.length = cs.drop x.length := List.take_of_length_le (by rw [List.length_drop, h.1, List.length_append]; omega)
    rw [e] at this
    simpa using this
/-- What is seen of an interval of blocks that may be written. -/
def vwb (lo hi : Nat) (H : Heap) : Vw := fun b => if lo ≤ b ∧ b < hi then (H[b]?).bind (fun k => if k.solo = true then some k.cells else none) else none
theorem vwb_some {lo hi : Nat} {H : Heap} {b : Nat} {cs : List Value} (h : vwb lo hi H b = some cs) : lo ≤ b ∧ b < hi ∧ ∃ es et ap, H[b]? = some ⟨cs, es, et, ap, true⟩ := by
  unfold vwb at h
  split at h
  · rename_i h1
    cases hk : H[b]? with
    | none => simp [hk] at h
    | some k =>
      simp only [hk, Option.bind_some] at h
      split at h
      · rename_i hs
        simp only [Option.some.injEq] at h
        subst h
        obtain ⟨cs, es, et, ap, so⟩ := k
        simp only at hs
        subst hs
        exact ⟨h1.1, h1.2, _, _, _, rfl⟩
      · cases h
  · cases h
theorem vwb_mk {lo hi : Nat} {H : Heap} {b : Nat} {cs : List Value} {es et : Nat} {ap : Bool} (h1 : lo ≤ b) (h2 : b < hi) (h : H[b]? = some ⟨cs, es, et, ap, true⟩) : vwb lo hi H b = some cs := by
  unfold vwb
  rw [if_pos ⟨h1, h2⟩, h]
  rfl
theorem vwb_same {lo hi : Nat} {H H' : Heap} (h : ∀ b, lo ≤ b → b < hi → H'[b]? = H[b]?) : Sub (vwb lo hi H) (vwb lo hi H') := by
  intro b cs hb
  obtain ⟨h1, h2, es, et, ap, h3⟩ := vwb_some hb
  exact vwb_mk h1 h2 ((h b h1 h2).trans h3)
theorem vws_vwb {lo : Nat} {H : Heap} {hi : Nat} (h : H.length ≤ hi) : Sub (vws lo H) (vwb lo hi H) := by
  intro b cs hb
  unfold vws at hb
  unfold vwb
  split at hb
  · rename_i h1
    have hb2 : b < hi := by
      cases hk : H[b]? with
      | none => simp [hk] at hb
      | some k => have := (List.getElem?_eq_some_iff.1 hk).1; omega
    rw [if_pos ⟨h1, hb2⟩]
    exact hb
  · cases hb

/-- Only numbers of an interval's blocks were changed. -/
def FrI (lo hi : Nat) (H H' : Heap) : Prop := H.length ≤ H'.length ∧ ∀ b, b < H.length → H'[b]? = H[b]? ∨ (lo ≤ b ∧ b < hi ∧ ∃ k k', H[b]? = some k ∧ H'[b]? = some k' ∧ k'.solo = k.solo ∧ CsSim k.cells k'.cells)
theorem FrI.refl (lo hi : Nat) (H : Heap) : FrI lo hi H H := ⟨Nat.le_refl _, fun _ _ => .inl rfl⟩
theorem FrI.grow {lo hi : Nat} (H L : Heap) : FrI lo hi H (H ++ L) := ⟨by rw [List.length_append]; omega, fun b hb => .inl (List.getElem?_append_left hb)⟩
theorem FrI.trans {lo hi : Nat} {H H1 H2 : Heap} (h : FrI lo hi H H1) (h' : FrI lo hi H1 H2) : FrI lo hi H H2 := by
  refine ⟨Nat.le_trans h.1 h'.1, fun b hb => ?_⟩
  have := h.1
  rcases h.2 b hb with e1 | ⟨l1, l2, k, k', e1, e2, e3, e4⟩
  · rcases h'.2 b (by omega) with f1 | ⟨l1, l2, k, k', f1, f2, f3, f4⟩
    · exact .inl (f1.trans e1)
    · exact .inr ⟨l1, l2, k, k', e1 ▸ f1, f2, f3, f4⟩
  · rcases h'.2 b (by omega) with f1 | ⟨_, _, q, q', f1, f2, f3, f4⟩
    · exact .inr ⟨l1, l2, k, k', e1, f1.trans e2, e3, e4⟩
    · rw [e2] at f1
      simp only [Option.some.injEq] at f1
      subst f1
      exact .inr ⟨l1, l2, k, q', e1, f2, f3.trans e3, e4.trans f4⟩
theorem FrI.out {lo hi : Nat} {H H' : Heap} (h : FrI lo hi H H') {b : Nat} (hb : b < H.length) (ho : b < lo ∨ hi ≤ b) : H'[b]? = H[b]? := by
  rcases h.2 b hb with h1 | ⟨h1, h2, _⟩
  · exact h1
  · omega
theorem FrI.gc {lo hi : Nat} {H H' : Heap} (h : FrI lo hi H H') {b : Nat} (hb : b < H.length) (ho : b < lo ∨ hi ≤ b) (o n : Nat) : getCells H' b o n = getCells H b o n := by
  unfold getCells
  rw [h.out hb ho]
def VSim (V V' : Vw) : Prop := ∀ b cs, V b = some cs → ∃ cs', V' b = some cs' ∧ CsSim cs cs'
theorem FrI.vsim {lo hi : Nat} {H H' : Heap} (h : FrI lo hi H H') : VSim (vwb lo hi H) (vwb lo hi H') := by
  intro b cs hb
  obtain ⟨h1, h2, es, et, ap, h3⟩ := vwb_some hb
  rcases h.2 b (List.getElem?_eq_some_iff.1 h3).1 with f1 | ⟨_, _, k, k', f1, f2, f3, f4⟩
  · exact ⟨cs, vwb_mk h1 h2 (f1.trans h3), CsSim.refl _⟩
  · rw [h3] at f1
    simp only [Option.some.injEq] at f1
    subst f1
    obtain ⟨cs', es', et', ap', so'⟩ := k'
    simp only at f3
    subst f3
    exact ⟨cs', vwb_mk h1 h2 f2, f4⟩
theorem VSim.rng {V V' : Vw} (h : VSim V V') {b o n : Nat} {cs : List Value} (k : rng V b o n = some cs) : ∃ cs', rng V' b o n = some cs' ∧ CsSim cs cs' := by
  unfold Go.Proofs.YtmakdcbpohlacaaI.rng at k ⊢
  cases hv : V b with
  | none => simp [hv] at k
  | some c =>
    obtain ⟨c', hc, hs⟩ := h b c hv
    rw [hv] at k
    rw [hc]
    simp only at k ⊢
    split at k
    · rename_i hl
      simp only [Option.some.injEq] at k
      subst k
      rw [hs.1, if_pos hl]
      exact ⟨_, rfl, hs.cut _ _⟩
    · cases k

/-- Numbers may be changed: what stays is told by s. -/
def CoSim {α β : Type} (A : Co α) (s : α → β) : Prop := ∀ (V V' : Vw) (cs cs' : List Value) (a : α), VSim V V' → CsSim cs cs' → A.rd V cs a → ∃ a', A.rd V' cs' a' ∧ s a' = s a
theorem CoSim.comp {α β γ : Type} {A : Co α} {s : α → β} (h : CoSim A s) (g : β → γ) : CoSim A (fun a => g (s a)) := fun V V' cs cs' a h1 h2 h3 => let ⟨a', h4, h5⟩ := h V V' cs cs' a h1 h2 h3; ⟨a', h4, congrArg g h5⟩
theorem CoSim.int : CoSim Co.int (fun _ => ()) := by
  rintro V V' cs cs' a _ ⟨h1, h2⟩ ⟨rfl, h3⟩
  obtain ⟨c', h4, h5⟩ := h2 0 _ rfl
  obtain ⟨x, rfl⟩ : ∃ x, cs' = [x] := List.length_eq_one_iff.1 h1
  simp only [List.getElem?_cons_zero, Option.some.injEq] at h4
  subst h4
  rcases h5 with rfl | ⟨_, n', rfl, h6⟩
  · exact ⟨a, ⟨rfl, h3⟩, rfl⟩
  · exact ⟨n', ⟨rfl, h6⟩, rfl⟩
theorem CoSim.pair {α β γ δ : Type} {A : Co α} {B : Co β} {s : α → γ} {t : β → δ} (hA : CoSim A s) (hB : CoSim B t) : CoSim (Co.pair A B) (fun p => (s p.1, t p.2)) := by
  rintro V V' cs cs' p hV hc ⟨x, y, rfl, h1, h2⟩
  obtain ⟨x', y', rfl, hx, hy⟩ := hc.split
  obtain ⟨a', h3, h4⟩ := hA V V' x x' p.1 hV hx h1
  obtain ⟨b', h5, h6⟩ := hB V V' y y' p.2 hV hy h2
  exact ⟨(a', b'), ⟨x', y', rfl, h3, h5⟩, by simp only [h4, h6]⟩
theorem mk_list {α : Type} (P : Nat → α → Prop) : ∀ (n : Nat), (∀ i, i < n → ∃ a, P i a) → ∃ l : List α, l.length = n ∧ ∀ i (h : i < l.length), P i l[i]
  | 0, _ => ⟨[], rfl, fun i h => by simp at h⟩
  | n + 1, h => by
    obtain ⟨l, h1, h2⟩ := mk_list P n fun i hi => h i (by omega)
    obtain ⟨a, ha⟩ := h n (by omega)
    refine ⟨l ++ [a], by simp [h1], fun i hi => ?_⟩
    by_cases hin : i < l.length
    · rw [List.getElem_append_left hin]; exact h2 i hin
    · simp only [List.length_append, List.length_cons, List.length_nil] at hi
      obtain rfl : i = l.length := by omega
      simpa [h1] using ha
theorem CoSim.sl {α β : Type} {A : Co α} {s : α → β} (hA : CoSim A s) : CoSim (Co.sl A) (fun l => l.map s) := by
  rintro V V' cs cs' l hV ⟨hc1, hc2⟩ ⟨v, rfl, h0, a, rfl, h1⟩
  obtain ⟨c', h4, h5⟩ := hc2 0 _ rfl
  obtain ⟨x, rfl⟩ : ∃ x, cs' = [x] := List.length_eq_one_iff.1 hc1
  simp only [List.getElem?_cons_zero, Option.some.injEq] at h4
  subst h4
  rcases h5 with rfl | ⟨⟨_, h⟩, _⟩
  · rcases h1 with rfl | ⟨b, o, rfl, h1⟩
    · exact ⟨[], ⟨_, rfl, h0, a, rfl, .inl rfl⟩, rfl⟩
    · obtain ⟨l', hl, h2⟩ := mk_list (fun i a' => ∀ h : i < l.length, (∃ cs, rng V' b (o + i * A.w) A.w = some cs ∧ A.rd V' cs a') ∧ s a' = s l[i]) l.length fun i hi => by
        obtain ⟨cs, h3, h4⟩ := h1 i hi
        obtain ⟨cs', h5, h6⟩ := hV.rng h3
        obtain ⟨a', h7, h8⟩ := hA V V' cs cs' _ hV h6 h4
        exact ⟨a', fun _ => ⟨⟨cs', h5, h7⟩, h8⟩⟩
      refine ⟨l', ⟨_, rfl, by omega, some ⟨b, o, none⟩, by rw [hl], .inr ⟨b, o, rfl, fun i hi => (h2 i hi (by omega)).1⟩⟩, ?_⟩
      refine List.ext_getElem (by simp [hl]) fun i h3 h4 => ?_
      rw [List.length_map] at h3
      rw [List.getElem_map, List.getElem_map]
      exact (h2 i h3 (by omega)).2
  · cases h

/-- A mark: numbers are written, as many as c says. -/
def MkOk (F : Nat → Option IFn) {α : Type} (A : Co α) (agg : Bool) (f : Nat) (c : α → Nat) : Prop := ∀ (H : Heap) (v : Value) (a : α) (lo hi lo0 : Nat) (k : Int), Rd A agg (vwb lo hi H) v a → hi ≤ H.length → lo0 ≤ lo → 0 ≤ k → k + (c a : Nat) ≤ 9223372036854775807 →
  ∃ H', NC F lo0 f [v, .int .i64 k] H (.int .i64 (k + (c a : Nat))) H' ∧ FrI lo hi H H'
def AllI {α : Type} (A : Co α) : Prop := ∀ V cs a, A.rd V cs a → ∀ c, c ∈ cs → ∃ n, c = .int .i64 n
theorem AllI.int : AllI Co.int := fun V cs a h c hc => by rw [h.1] at hc; simp only [List.mem_singleton] at hc; exact ⟨_, hc⟩
theorem AllI.pair {α β : Type} {A : Co α} {B : Co β} (hA : AllI A) (hB : AllI B) : AllI (Co.pair A B) := fun V cs p ⟨x, y, h1, h2, h3⟩ c hc => by
  rw [h1, List.mem_append] at hc
  exact hc.elim (hA _ _ _ h2 c) (hB _ _ _ h3 c)
theorem flat_of {α : Type} {A : Co α} {w : Nat} (hw : A.w = w) {lo hi : Nat} {H : Heap} {v : Value} {l : List α} (h : SlR A (vwb lo hi H) v l) : ∃ b o, FlatB lo hi H w v l.length b o ∧ (l ≠ [] → ∃ a, v = .slice (some ⟨b, o, none⟩) a a ∧ ∀ i (h : i < l.length), ∃ cs, rng (vwb lo hi H) b (o + i * w) w = some cs ∧ A.rd (vwb lo hi H) cs l[i]) := by
  obtain ⟨h0, a, rfl, h1⟩ := h
  rcases h1 with rfl | ⟨b, o, rfl, h1⟩
  · exact ⟨0, 0, ⟨h0, a, rfl, .inl rfl⟩, fun h => absurd rfl h⟩
  · refine ⟨b, o, ⟨h0, _, rfl, ?_⟩, fun _ => ⟨_, rfl, hw ▸ h1⟩⟩
    rcases Nat.eq_zero_or_pos l.length with hl | hl
    · exact .inl hl
    refine .inr ⟨rfl, ?_⟩
    obtain ⟨cs, h2, h3⟩ := h1 (l.length - 1) (by omega)
    unfold rng at h2
    split at h2
    · rename_i k hk
      obtain ⟨g1, g2, es, et, ap, g3⟩ := vwb_some hk
      split at h2
      · rename_i hl2
        refine ⟨g1, g2, k, es, et, ap, g3, ?_⟩
        rw [hw] at hl2
        have : l.length * w = (l.length - 1) * w + w := by
          obtain ⟨n, hn⟩ : ∃ n, l.length = n + 1 := ⟨l.length - 1, by omega⟩
          rw [hn, Nat.succ_mul]; rfl
        omega
      · cases h2
    · cases h2
theorem frI_mark {α : Type} {A : Co α} {w : Nat} (hA : AllI A) (hw : A.w = w) (h0 : 0 < w) {lo hi : Nat} {H : Heap} {v : Value} {l : List α} {b o : Nat} (hf : FlatB lo hi H w v l.length b o) (hl : l ≠ []) (h : ∀ i (h : i < l.length), ∃ cs, rng (vwb lo hi H) b (o + i * w) w = some cs ∧ A.rd (vwb lo hi H) cs l[i])
    {k : Int} (hk : 0 ≤ k) (hkn : k + (l.length * w : Nat) ≤ 9223372036854775807) : FrI lo hi H (markB H b o k (l.length * w)) := by
  refine ⟨Nat.le_of_eq (markB_len _ _ _ _ _).symm, fun b' hb' => ?_⟩
  by_cases e : b' = b
  · subst e
    obtain ⟨_, a, _, h3⟩ := hf
    obtain ⟨_, g1, g2, cs, es, et, ap, g3, g4⟩ := h3.resolve_left (by cases l with | nil => exact absurd rfl hl | cons => simp)
    refine .inr ⟨g1, g2, _, _, g3, markB_get g3 _ _ _, rfl, setL_length _ _ _, fun i c hc => ?_⟩
    simp only at hc ⊢
    rw [setL_get _ _ _ _ (by rw [seqI_length]; exact g4), seqI_length]
    by_cases hi2 : o ≤ i ∧ i < o + l.length * w
    · rw [if_pos hi2, seqI_at _ _ _ (by omega)]
      refine ⟨_, rfl, .inr ⟨?_, _, rfl, by omega, by omega⟩⟩
      have hq : (i - o) / w < l.length := Nat.div_lt_of_lt_mul (by rw [Nat.mul_comm]; omega)
      obtain ⟨es', h5, h6⟩ := h _ hq
      unfold rng at h5
      rw [vwb_mk g1 g2 g3] at h5
      simp only at h5
      split at h5
      · simp only [Option.some.injEq] at h5
        subst h5
        have hm : (i - o) % w < w := Nat.mod_lt _ h0
        have hd : (i - o) / w * w + (i - o) % w = i - o := Nat.div_add_mod' _ _
        refine hA _ _ _ h6 c (List.mem_iff_getElem?.2 ⟨(i - o) % w, ?_⟩)
        rw [List.getElem?_take_of_lt hm, List.getElem?_drop, ← hc]
        congr 1
        omega
      · cases h5
    · rw [if_neg hi2]
      exact ⟨c, hc, .inl rfl⟩
  · exact .inl (markB_ne _ _ _ _ e)
theorem MkOk.flat {F : Nat → Option IFn} {α : Type} {A : Co α} {w f : Nat} (hA : AllI A) (hw : A.w = w) (h0 : 0 < w) (hm : MarkFlat F w f) : MkOk F (Co.sl A) false f (fun l => l.length * w) := by
  rintro H v l lo hi lo0 k ⟨cs, hc, u, rfl, hr⟩ hhi hlo hk hkn
  simp only [valOf_one, Option.some.injEq] at hc
  subst hc
  obtain ⟨b, o, hf, hl⟩ := flat_of hw hr
  refine ⟨_, hm H _ _ b o lo hi lo0 k hf hlo hk hkn, ?_⟩
  split
  · exact FrI.refl _ _ _
  · rename_i hn
    have hne : l ≠ [] := fun h => hn (by rw [h]; rfl)
    obtain ⟨a, _, h2⟩ := hl hne
    exact frI_mark hA hw h0 hf hne h2 hk hkn

/-! ### A slice of what is marked by a call -/
theorem sum_take (f : Nat → Nat) : ∀ (l : List Nat) (i : Nat) (h : i < l.length), (l.take (i + 1)).sum = (l.take i).sum + l[i]
  | a :: l, 0, _ => by simp
  | a :: l, i + 1, h => by
    rw [List.take_succ_cons, List.sum_cons, sum_take f l i (by simpa using h), List.take_succ_cons, List.sum_cons, List.getElem_cons_succ]
    omega
theorem sum_take_le : ∀ (l : List Nat) (i : Nat), (l.take i).sum ≤ l.sum
  | [], i => by simp
  | a :: l, 0 => by simp
  | a :: l, i + 1 => by rw [List.take_succ_cons, List.sum_cons, List.sum_cons]; have := sum_take_le l i; omega
end Go.Proofs.YtmakdcbpohlacaaI
end
section
/- What agrees between heaps; results copied out of a slice; numbers of marks. -/
set_option linter.unusedVariables false
set_option linter.unusedSimpArgs false
namespace Go.Proofs.YtmakdcbpohlacaaI
open Go Go.RowKit

/-- Two heaps agree on an interval of blocks. -/
def Ag (lo hi : Nat) (H H' : Heap) : Prop := ∀ b, lo ≤ b → b < hi → H'[b]? = H[b]?
theorem ag_app (H L : Heap) : Ag 0 H.length H (H ++ L) := fun b _ h => List.getElem?_append_left h
theorem vws_lt {lo : Nat} {H : Heap} {b : Nat} {cs : List Value} (h : vws lo H b = some cs) : lo ≤ b ∧ b < H.length ∧ ∃ es et ap, H[b]? = some ⟨cs, es, et, ap, true⟩ := by
  have h1 := vws_vwb (Nat.le_refl _) b cs h
  exact vwb_some h1
theorem Ag.vwb {lo hi : Nat} {H H' : Heap} (h : Ag lo H.length H H') (hh : H.length ≤ hi) : Sub (Go.Proofs.YtmakdcbpohlacaaI.vws lo H) (Go.Proofs.YtmakdcbpohlacaaI.vwb lo hi H') := by
  intro b cs hb
  obtain ⟨h1, h2, es, et, ap, h3⟩ := vws_lt hb
  exact vwb_mk h1 (by omega) ((h b h1 h2).trans h3)
theorem mark_len (H : Heap) (n b o : Nat) (k : Int) (m : Nat) : (if n = 0 then H else markB H b o k m).length = H.length := by
  split
  · rfl
  · exact markB_len _ _ _ _ _
/-- All cells of a slice. -/
theorem sl_cells {α : Type} {A : Co α} {w : Nat} (hw : A.w = w) {H : Heap} {v : Value} {l : List α} (h : SlR A (vw 0 H) v l) (hl : l ≠ []) :
    ∃ b o ys, v = .slice (some ⟨b, o, none⟩) l.length l.length ∧ getCells H b o (l.length * w) = some ys ∧ ys.length = l.length * w ∧ ∀ i (h : i < l.length), A.rd (vw 0 H) ((ys.drop (i * w)).take w) l[i] := by
  obtain ⟨h0, a, rfl, h1⟩ := h
  obtain ⟨b, o, rfl, h1'⟩ := h1.resolve_left hl
  clear h1
  have h1 := h1'
  clear h1'
  have hpos : 0 < l.length := List.length_pos_iff.2 hl
  rw [hw] at h1
  obtain ⟨cs, h2, _⟩ := h1 (l.length - 1) (by omega)
  have h3 := rng_gc h2
  unfold getCells at h3
  split at h3
  · rename_i k hk
    split at h3
    · rename_i hl2
      have hm : l.length * w = (l.length - 1) * w + w := by
        obtain ⟨n, hn⟩ : ∃ n, l.length = n + 1 := ⟨l.length - 1, by omega⟩
        rw [hn, Nat.succ_mul]; rfl
      refine ⟨b, o, (k.cells.drop o).take (l.length * w), rfl, ?_, ?_, fun i hi => ?_⟩
      · unfold getCells
        rw [hk]
        simp only
        rw [if_pos (by omega)]
      · rw [List.length_take, List.length_drop]; omega
      · obtain ⟨cs', h5, h6⟩ := h1 i hi
        have h7 := rng_gc h5
        unfold getCells at h7
        rw [hk] at h7
        simp only at h7
        have hi2 : i * w + w ≤ l.length * w := by rw [← Nat.succ_mul]; exact Nat.mul_le_mul_right _ hi
        rw [if_pos (by omega)] at h7
        simp only [Option.some.injEq] at h7
        rw [← h7] at h6
        have e : (((k.cells.drop o).take (l.length * w)).drop (i * w)).take w = (k.cells.drop (o + i * w)).take w := by
          rw [List.drop_take, List.take_take, List.drop_drop, Nat.min_eq_left (by omega)]
        rw [e]
        exact h6
    · cases h3
  · cases h3
theorem CoSim.len {α β : Type} {A : Co α} {s : α → β} (h : CoSim A s) (w : Nat) : CoSim (Co.sl A) (fun l => l.length * w) := by
  intro V V' cs cs' l h1 h2 h3
  obtain ⟨l', h4, h5⟩ := h.sl V V' cs cs' l h1 h2 h3
  have h6 : l'.length = l.length := by simpa using congrArg List.length h5
  exact ⟨l', h4, congrArg (· * w) h6⟩
theorem CoSim.sum {α : Type} {A : Co α} {c : α → Nat} (h : CoSim A c) : CoSim (Co.sl A) (fun l => (l.map c).sum) := h.sl.comp List.sum
theorem wpc_gen {F : Nat → Option IFn} {lo : Nat} {c : ICode} {e : Env} {H L : Heap} {K : X → Env → Heap → Prop} (h : ∀ Hb, Hb = H ++ L → wpc F lo c e Hb K) : wpc F lo c e (H ++ L) K := h _ rfl
end Go.Proofs.YtmakdcbpohlacaaI
end
section
/- What is handed in, seen as ideal memory. -/
set_option linter.unusedVariables false
set_option linter.unusedSimpArgs false
namespace Go.Proofs.YtmakdcbpohlacaaI
open Go Go.RowKit Go.ChangeShapes

structure SL (m : MM) (H : Heap) (h : Array Obj) : Prop where
  dom : ∀ b x, m b = some x → b < H.length
  cell : ∀ b x k, m b = some x → H[b]? = some k → ∃ cs t fr, h[x.blk]? = some (.cells cs t fr) ∧ ∀ (j : Nat) (v : Value), k.cells[j]? = some v → ∃ v', cs[x.off + j]? = some v' ∧ VR1 m v v'
  lt : ∀ b x, m b = some x → x.blk < h.size
  na : ∀ (b : Nat) (k : Blk), H[b]? = some k → k.app = false
theorem SL.sim {m : MM} {H : Heap} {h : Array Obj} (s : SL m H h) : Sim H.length (ltN h.size) m H h := by
  refine ⟨s.dom, s.cell, ?_, ?_, fun b x _ hm => s.lt b x hm, fun _ hk => hk, Nat.le_refl _, fun b x k _ hk ha => by rw [s.na b k hk] at ha; cases ha⟩
  · intro b x k hl hm; exact absurd (s.dom b x hm) (by omega)
  · intro b b' x x' k k' _ hl _ hm; exact absurd (s.dom b x hm) (by omega)
theorem SL.none (h : Array Obj) : SL (fun _ => .none) [] h := by
  refine ⟨?_, ?_, ?_, ?_⟩
  · intro b x h; cases h
  · intro b x k h; cases h
  · intro b x h; cases h
  · intro b k h; simp at h

section
variable {T : Type} {enc : TypeId × Value → T} {P : Program} {w : World} {spare : Nat → Bool} {held : Bool}

def Good {α : Type} (A : Co α) (w : World) (cs : List Value) : Prop := ∀ (H : Heap) (m : MM), SL m H w.heap → ∃ a L m' cs0, SL m' (H ++ L) w.heap ∧ m.sub m' ∧ A.rd (vw 0 (H ++ L)) cs0 a ∧ All2 (VR1 m') cs0 cs
theorem sub_refl (m : MM) : m.sub m := fun _ _ h => h
theorem sub_trans {m m' m'' : MM} (h : m.sub m') (h' : m'.sub m'') : m.sub m'' := fun b x k => h' b x (h b x k)
theorem Good.int {n : Int} (h : (Lit.int .i64 n).wf = true) : Good Co.int w [.int .i64 n] := fun H m s =>
  ⟨n, [], m, [.int .i64 n], by simpa using s, sub_refl m, ⟨rfl, by simpa [Lit.wf, IntKind.min, IntKind.max, IntKind.signed, IntKind.bits] using h⟩, All2.cons (.inl rfl) All2.nil⟩
theorem Good.pair {α β : Type} {A : Co α} {B : Co β} {cs cs' : List Value} (h : Good A w cs) (h' : Good B w cs') : Good (Co.pair A B) w (cs ++ cs') := by
  intro H m s
  obtain ⟨a, L, m1, c1, s1, q1, r1, e1⟩ := h H m s
  obtain ⟨b, L2, m2, c2, s2, q2, r2, e2⟩ := h' (H ++ L) m1 s1
  rw [List.append_assoc] at s2 r2
  exact ⟨(a, b), L ++ L2, m2, c1 ++ c2, s2, sub_trans q1 q2, ⟨c1, c2, rfl, A.mono (by rw [← List.append_assoc]; exact vw_app 0 _ _) r1, r2⟩, (e1.mono fun _ _ _ h => VR1.mono q2 h).append e2⟩
theorem add_add (a : Addr) (x y : Nat) : (a.add x).add y = a.add (x + y) := by
  unfold Addr.add
  by_cases hx : x = 0
  · simp [hx]
  · by_cases hy : y = 0
    · simp [hx, hy]
    · simp [hx, hy, Nat.add_assoc]
theorem cell_at {a : Addr} {j : Nat} {v : Value} (h : w.cell? (a.add j) = some v) : ∃ cs t fr, w.heap[a.block]? = some (.cells cs t fr) ∧ cs[a.off + j]? = some v ∧ (j = 0 → a.spot = none) := by
  unfold World.cell? at h
  rw [block_add] at h
  split at h
  · rename_i c t fr hc
    split at h
    · cases h
    · rename_i hs
      refine ⟨c, t, fr, hc, ?_, fun hj => ?_⟩
      · unfold Addr.add at h
        split at h
        · rename_i hj; subst hj; simpa using h
        · exact h
      · subst hj
        simpa [Addr.add] using hs
  · cases h
theorem Good.sl {α : Type} {A : Co α} {fuel : Nat} {t e : TypeId} {cs : List Value} {x : DataW T × List MemPlace} (ht : P.underlying t = some (.slice e)) (hw : P.cellsOf e = A.w) (h0 : 0 < A.w)
    (h : DataW.trod enc P w 0 spare held fuel t cs = some x) (he : ∀ n cs x, n < fuel → DataW.trod enc P w 0 spare held n e cs = some x → Good A w cs) : Good (Co.sl A) w cs := by
  rcases DataW.trod_slice ht h with ⟨rfl, _⟩ | ⟨a, len, cap, elems, rest, n, rfl, rfl, _, _, hl, hm, hlen, hel, _, _⟩
  · exact fun H m s => ⟨[], [], m, [.slice none 0 0], by simpa using s, sub_refl m, ⟨_, rfl, by simp, none, rfl, .inl rfl⟩, All2.cons (.inl ⟨rfl, rfl⟩) All2.nil⟩
  intro H m s
  rcases Nat.eq_zero_or_pos len with hz | hpos
  · subst hz
    exact ⟨[], [], m, [.slice (some ⟨0, 1, none⟩) 0 0], by simpa using s, sub_refl m, ⟨_, rfl, by simp, _, rfl, .inl rfl⟩, All2.cons (.inl (.inr ⟨rfl, by simp, _, _, rfl⟩)) All2.nil⟩
  have key : ∀ k, k ≤ len → ∃ (l : List α) (L : Heap) (m' : MM) (big : List Value), l.length = k ∧ big.length = k * A.w ∧ SL m' (H ++ L) w.heap ∧ m.sub m' ∧
      (∀ i (h : i < l.length), A.rd (vw 0 (H ++ L)) ((big.drop (i * A.w)).take A.w) l[i]) ∧ (∀ j v, big[j]? = some v → ∃ v', w.cell? (a.add j) = some v' ∧ VR1 m' v v') := by
    intro k
    induction k with
    | zero => exact fun _ => ⟨[], [], m, [], rfl, by simp, by simpa using s, sub_refl m, fun i h => by simp at h, fun j v h => by simp at h⟩
    | succ k ih =>
      intro hk
      obtain ⟨l, L, m1, big, h1, h2, h3, h4, h5, h6⟩ := ih (by omega)
      have hk' := hel k (by omega)
      have hke : k < elems.length := by omega
      rw [List.getElem?_eq_getElem hke, Option.bind_eq_some_iff, hw] at hk'
      obtain ⟨ck, hc, hd⟩ := hk'
      obtain ⟨b, L2, m2, c2, s2, q2, r2, e2⟩ := he n ck _ (by omega) hd (H ++ L) m1 h3
      have hcl := A.len r2
      rw [List.append_assoc] at s2 r2
      refine ⟨l ++ [b], L ++ L2, m2, big ++ c2, by simp [h1], by rw [List.length_append, h2, hcl, Nat.succ_mul], s2, sub_trans h4 q2, ?_, ?_⟩
      · intro i hi
        simp only [List.length_append, List.length_cons, List.length_nil, Nat.zero_add] at hi
        by_cases hik : i < l.length
        · have hb : i * A.w + A.w ≤ big.length := by rw [h2, ← Nat.succ_mul]; exact Nat.mul_le_mul_right _ (by omega)
          rw [List.getElem_append_left hik, List.drop_append_of_le_length (by omega), List.take_append_of_le_length (by rw [List.length_drop]; omega)]
          exact A.mono (by rw [← List.append_assoc]; exact vw_app 0 _ _) (h5 i hik)
        · have hik' : i = k := by omega
          subst hik'
          rw [List.getElem_append_right (by omega)]
          have : big.length = i * A.w := h2
          rw [← this, List.drop_left, List.take_of_length_le (by omega)]
          simpa [h1] using r2
      · intro j v hj
        rcases Nat.lt_or_ge j big.length with hjl | hjl
        · rw [List.getElem?_append_left hjl] at hj
          obtain ⟨v', g1, g2⟩ := h6 j v hj
          exact ⟨v', g1, VR1.mono q2 g2⟩
        · rw [List.getElem?_append_right hjl] at hj
          have hj2 : j - big.length < c2.length := (List.getElem?_eq_some_iff.1 hj).1
          obtain ⟨_, _, hcell⟩ := World.cells?_some hc
          have hj3 := hcell (j - big.length) (by omega)
          rw [add_add, ← h2, show big.length + (j - big.length) = j by omega] at hj3
          have hl2 : c2.length = ck.length := e2.1
          have hj4 : j - big.length < ck.length := by omega
          obtain ⟨y, hy, hr⟩ := e2.2 (j - big.length) v hj
          exact ⟨y, hj3.trans hy, hr⟩
  obtain ⟨l, L, m1, big, h1, h2, h3, h4, h5, h6⟩ := key len (Nat.le_refl _)
  have hbig : 0 < big.length := by rw [h2]; exact Nat.mul_pos hpos h0
  obtain ⟨v0, hv0, _⟩ := h6 0 _ (List.getElem?_eq_getElem hbig)
  obtain ⟨cs0, t0, fr0, g1, _, g3⟩ := cell_at hv0
  have hsp := g3 rfl
  have hblt : a.block < w.heap.size := (Array.getElem?_eq_some_iff.1 g1).1
  have hsub : m1.sub (m1.put (H ++ L).length ⟨a.block, a.off, 0, 0, 0⟩) := by
    intro b x hb
    have := h3.dom b x hb
    simp only [MM.put]
    rw [if_neg (by omega)]
    exact hb
  refine ⟨l, L ++ [⟨big, 0, 0, false, false⟩], m1.put (H ++ L).length ⟨a.block, a.off, 0, 0, 0⟩, [.slice (some ⟨(H ++ L).length, 0, none⟩) l.length l.length], ?_, sub_trans h4 hsub, ?_, ?_⟩
  · rw [← List.append_assoc]
    refine ⟨?_, ?_, ?_, ?_⟩
    · intro b x hb
      rcases MM.put_eq hb with ⟨rfl, _⟩ | ⟨_, hb⟩
      · simp
      · have := h3.dom b x hb
        rw [List.length_append]; omega
    · intro b x k hb hk
      rcases MM.put_eq hb with ⟨rfl, rfl⟩ | ⟨_, hb⟩
      · rw [List.getElem?_append_right (Nat.le_refl _)] at hk
        simp only [Nat.sub_self, List.getElem?_cons_zero, Option.some.injEq] at hk
        subst hk
        refine ⟨cs0, t0, fr0, g1, fun j v hj => ?_⟩
        obtain ⟨v', u1, u2⟩ := h6 j v hj
        obtain ⟨cs1, t1, fr1, y1, y2, _⟩ := cell_at u1
        rw [g1] at y1
        cases y1
        exact ⟨v', y2, VR1.mono hsub u2⟩
      · rw [List.getElem?_append_left (h3.dom b x hb)] at hk
        obtain ⟨c1, t1, f1, y1, y2⟩ := h3.cell b x k hb hk
        exact ⟨c1, t1, f1, y1, fun j v hj => let ⟨v', z1, z2⟩ := y2 j v hj; ⟨v', z1, VR1.mono hsub z2⟩⟩
    · intro b x hb
      rcases MM.put_eq hb with ⟨rfl, rfl⟩ | ⟨_, hb⟩
      · exact hblt
      · exact h3.lt b x hb
    · intro b k hk
      rcases get_snoc hk with ⟨_, hk⟩ | ⟨_, rfl⟩
      · exact h3.na b k hk
      · rfl
  · refine ⟨_, rfl, ?_, _, rfl, .inr ⟨_, _, rfl, fun i hi => ⟨_, ?_, A.mono (by rw [← List.append_assoc]; exact vw_app 0 _ _) (h5 i hi)⟩⟩⟩
    · have : maxLen = 9223372036854775807 := by decide
      omega
    · have hb : i * A.w + A.w ≤ big.length := by rw [h2, ← Nat.succ_mul]; exact Nat.mul_le_mul_right _ (by omega)
      unfold rng vw
      rw [if_pos (Nat.zero_le _), ← List.append_assoc, get_new0]
      simp only [List.getElem?_cons_zero, Option.map_some, Nat.zero_add]
      rw [if_pos hb]
  · refine All2.cons (.inl (.inl ⟨_, MM.put_self _ _ _, rfl, cap, ?_, by omega, fun _ => by simp⟩)) All2.nil
    obtain ⟨ab, ao, asp⟩ := a
    simp only at hsp
    subst hsp
    rw [h1]
    rfl
theorem cut {cs : List Value} {o s : Nat} : cs.drop o = (cs.drop o).take s ++ cs.drop (o + s) := by rw [← List.drop_drop, List.take_append_drop]
theorem cut_end {cs : List Value} {o s : Nat} (h : cs.length = o + s) : cs.drop o = (cs.drop o).take s := by rw [List.take_of_length_le (by rw [List.length_drop]; omega)]
theorem agg_of_len {v : Value} {n : Nat} (h : v.cells.toList.length = n) (hn : n ≠ 1) : ∃ cs, v = .agg cs := by
  cases v with
  | agg cs => exact ⟨cs, rfl⟩
  | _ => exact absurd h.symm (by simpa [Value.cells] using hn)
end
end Go.Proofs.YtmakdcbpohlacaaI
end
section
/- A law of the ideal machine is a law of the program. -/
set_option linter.unusedVariables false
set_option linter.unusedSimpArgs false
namespace Go.Proofs.YtmakdcbpohlacaaI
open Go Go.RowKit
end Go.Proofs.YtmakdcbpohlacaaI
end
section
/- Steps and programs as plain values; the rules that a walk by itself takes. -/
set_option linter.unusedVariables false
set_option linter.unusedSimpArgs false
namespace Go.Proofs.YtmakdcbpohlacaaI
open Go Go.RowKit

def Co.val : Co (Int × Int × Int) := Co.pair Co.int (Co.pair Co.int Co.int)
def TStep : Nat → Type
  | 0 => Empty
  | n + 1 => Int × Int × (Int × Int × Int) × Int × List (TStep n) × List (TStep n)
def Co.step : (n : Nat) → Co (TStep n)
  | 0 => ⟨8, fun _ _ _ => False, fun _ => True, fun _ h => h, fun h => h.elim, fun h => h.elim⟩
  | n + 1 => Co.pair Co.int (Co.pair Co.int (Co.pair Co.val (Co.pair Co.int (Co.pair (Co.sl (Co.step n)) (Co.sl (Co.step n))))))
theorem step_w : ∀ n, (Co.step n).w = 8
  | 0 => rfl
  | n + 1 => rfl
def TProg (n : Nat) := List (Int × Int) × List (TStep n)
def Co.prog (n : Nat) : Co (TProg n) := Co.pair (Co.sl Co.p2) (Co.sl (Co.step n))

section
variable {F : Nat → Option IFn} {lo : Nat} {e : Env} {H : Heap} {K : Value → Prop} {k : IntKind} {x y : Int}
theorem cmp_lss (h1 : x < y → K (.bool true)) (h2 : ¬ x < y → K (.bool false)) : optP (binI .lss k x y) K := by
  show K (.bool (decide (x < y)))
  by_cases h : x < y
  · rw [decide_eq_true h]; exact h1 h
  · rw [decide_eq_false h]; exact h2 h
theorem cmp_leq (h1 : x ≤ y → K (.bool true)) (h2 : ¬ x ≤ y → K (.bool false)) : optP (binI .leq k x y) K := by
  show K (.bool (decide (x ≤ y)))
  by_cases h : x ≤ y
  · rw [decide_eq_true h]; exact h1 h
  · rw [decide_eq_false h]; exact h2 h
theorem cmp_gtr (h1 : y < x → K (.bool true)) (h2 : ¬ y < x → K (.bool false)) : optP (binI .gtr k x y) K := by
  show K (.bool (decide (y < x)))
  by_cases h : y < x
  · rw [decide_eq_true h]; exact h1 h
  · rw [decide_eq_false h]; exact h2 h
theorem cmp_geq (h1 : y ≤ x → K (.bool true)) (h2 : ¬ y ≤ x → K (.bool false)) : optP (binI .geq k x y) K := by
  show K (.bool (decide (y ≤ x)))
  by_cases h : y ≤ x
  · rw [decide_eq_true h]; exact h1 h
  · rw [decide_eq_false h]; exact h2 h
theorem cmp_eql (h1 : x = y → K (.bool true)) (h2 : ¬ x = y → K (.bool false)) : optP (binI .eql k x y) K := by
  show K (.bool (x == y))
  by_cases h : x = y
  · rw [beq_iff_eq.2 h]; exact h1 h
  · rw [beq_eq_false_iff_ne.2 h]; exact h2 h
theorem cmp_neq (h1 : x = y → K (.bool false)) (h2 : ¬ x = y → K (.bool true)) : optP (binI .neq k x y) K := by
  show K (.bool (x != y))
  by_cases h : x = y
  · have : (x != y) = false := by simp [h]
    rw [this]; exact h1 h
  · have : (x != y) = true := by simp [h]
    rw [this]; exact h2 h
theorem op_callB {g : Nat} {args : List Opd} {b : Bool} {K : Value → Heap → Prop} (h : QC F g (args.map (·.ev e)) H (.bool b)) (k1 : b = true → K (.bool true) H) (k2 : b = false → K (.bool false) H) : wpOp F lo (.call .q (.f g) args) e H K :=
  op_callQ h (by cases b; exact k2 rfl; exact k1 rfl)
theorem fin_t {n : Nat} {K : Value → Heap → Prop} {X : X} (hx : X = .r) (h : K (e n) H) : fin [.t n] K X e H := ⟨.inr hx, _, rfl, h⟩
end
end Go.Proofs.YtmakdcbpohlacaaI
end
section
/- A law of several arguments; programs opened. -/
set_option linter.unusedVariables false
set_option linter.unusedSimpArgs false
namespace Go.Proofs.YtmakdcbpohlacaaI
open Go Go.RowKit
theorem law_core {P : Program} {F : Nat → Option IFn} {cm : Nat → CM} {n : Nat} (hF : ∀ g fn, F g = some fn → cFn P cm g = some fn) (hm : P.follows .mixedOrders = true) {W : World} {L : Heap} {m : MM} (s : SL m L W.heap) {vals : List Value} {args : Array Value}
    (hv : All2 (VR m) vals args.toList) (hq : QC F n vals L (.bool true)) : Calls P n args W fun e w' => e = .returned (.bool true) ∧ Below W.heap.size W w' := by
  obtain ⟨fn, x, e1, H1, h1, h2, h3, h4, h5, h6⟩ := hq
  refine call_core (hF _ _ h1) h2 (sound hF hm h3) h4 h5 s.sim hv _ ?_
  intro v' w' m' _ _ q3 q4
  exact ⟨by rw [q3.bool], q4.below⟩
theorem VR.agg_mk {m : MM} {cs0 : List Value} {cs : Array Value} (h : All2 (VR1 m) cs0 cs.toList) : VR m (.agg cs0.toArray) (.agg cs) := .inl (.inr ⟨_, _, rfl, rfl, h⟩)
theorem VR.one_mk {m : MM} {v v' : Value} (h : All2 (VR1 m) [v] [v']) : VR m v v' := by
  obtain ⟨y, hy, hr⟩ := h.2 0 v rfl
  simp only [List.getElem?_cons_zero, Option.some.injEq] at hy
  subst hy
  exact .inl (.inl hr)
end Go.Proofs.YtmakdcbpohlacaaI
end
section
/- The rules for regions in which some calls write; heaps that agree but for some blocks; codes that are drawn from. -/
set_option linter.unusedVariables false
set_option linter.unusedSimpArgs false
namespace Go.Proofs.YtmakdcbpohlacaaI
open Go Go.RowKit

section
variable (F : Nat → Option IFn) (lo : Nat) (Z : List Nat)
/-- Ahead of operations of which some write into the blocks Z of B only; L are the blocks made since. -/
def wpx (p : Nat) (l : List IOper) (e : Env) (B L : Heap) (K : Env → Heap → Prop) : Prop :=
  (∀ b, b ∈ Z → b < B.length) → ∃ e1 H1, BS F lo (.prx Z p l) e (B ++ L) .n e1 H1 ∧ K e1 H1
def Kx (p : Nat) (r : List IOper) (d : Option Nat) (e : Env) (B L : Heap) (K : Env → Heap → Prop) (v : Value) (H1 : Heap) : Prop := ∃ L', H1 = hide Z B ++ L' ∧ wpx F lo Z p r (putE e d v) B L' K
variable {F lo Z}
@[go_sem] theorem Kx_app (p : Nat) (r : List IOper) (d : Option Nat) (e : Env) (B L L' : Heap) (K : Env → Heap → Prop) (v : Value) : Kx F lo Z p r d e B L K v (hide Z B ++ L') = wpx F lo Z p r (putE e d v) B L' K :=
  propext ⟨fun ⟨L2, h1, h2⟩ => by rw [List.append_cancel_left_eq] at h1; subst h1; exact h2, fun h => ⟨L', rfl, h⟩⟩
@[go_sem] theorem Kx_nil (p : Nat) (r : List IOper) (d : Option Nat) (e : Env) (B L : Heap) (K : Env → Heap → Prop) (v : Value) : Kx F lo Z p r d e B L K v (hide Z B) = wpx F lo Z p r (putE e d v) B [] K := by
  have := Kx_app p r d e B L [] K v (F := F) (lo := lo) (Z := Z)
  rwa [List.append_nil] at this

end

@[go_sem] theorem cells_sliM (b o n : Nat) : Array.toList (Value.cells.match_1 (fun _ => Array Value) (sli b o n) (fun cs => cs) (fun v => #[v])) = [sli b o n] := rfl
@[go_sem] theorem cells_nilM : Array.toList (Value.cells.match_1 (fun _ => Array Value) nilS (fun cs => cs) (fun v => #[v])) = [nilS] := rfl
@[go_sem] theorem cells_ptrM (b o : Nat) : Array.toList (Value.cells.match_1 (fun _ => Array Value) (ptr b o) (fun cs => cs) (fun v => #[v])) = [ptr b o] := rfl

/-- Two heaps agree but for some blocks. -/
def AgX (xs : List Nat) (H H' : Heap) : Prop := H.length ≤ H'.length ∧ ∀ b, b < H.length → b ∉ xs → H'[b]? = H[b]?
theorem AgX.refl (xs : List Nat) (H : Heap) : AgX xs H H := ⟨Nat.le_refl _, fun _ _ _ => rfl⟩
theorem AgX.app (xs : List Nat) (H L : Heap) : AgX xs H (H ++ L) := ⟨by rw [List.length_append]; omega, fun b hb _ => List.getElem?_append_left hb⟩
theorem AgX.set (H : Heap) (b : Nat) (k : Blk) : AgX [b] H (H.set b k) := ⟨by rw [List.length_set]; exact Nat.le_refl _, fun b' _ hn => List.getElem?_set_ne (by simpa using fun h => hn (by simp [h]))⟩
theorem AgX.trans {xs ys zs : List Nat} {H H1 H2 : Heap} (h : AgX xs H H1) (h' : AgX ys H1 H2) (hx : ∀ b, b ∈ xs → b < H.length → b ∈ zs) (hy : ∀ b, b ∈ ys → b < H.length → b ∈ zs) : AgX zs H H2 :=
  ⟨Nat.le_trans h.1 h'.1, fun b hb hn => (h'.2 b (Nat.lt_of_lt_of_le hb h.1) fun hm => hn (hy b hm hb)).trans (h.2 b hb fun hm => hn (hx b hm hb))⟩
theorem AgX.get {xs : List Nat} {H H' : Heap} (h : AgX xs H H') {b : Nat} {k : Blk} (hk : H[b]? = some k) (hn : b ∉ xs) : H'[b]? = some k := (h.2 b (List.getElem?_eq_some_iff.1 hk).1 hn).trans hk
/-- What is seen from a block on, but for some blocks. -/
def vwl (lo : Nat) (xs : List Nat) (H : Heap) : Vw := fun b => if lo ≤ b ∧ b ∉ xs then (H[b]?).map (·.cells) else none
theorem vwl_sub {lo lo' : Nat} {xs xs' ys : List Nat} {H H' : Heap} (h : AgX ys H H') (h1 : lo' ≤ lo) (h2 : ∀ b, b < H.length → lo ≤ b → b ∉ xs → b ∉ ys ∧ b ∉ xs') : Sub (vwl lo xs H) (vwl lo' xs' H') := by
  intro b cs hb
  unfold vwl at hb ⊢
  split at hb
  · rename_i h3
    cases hk : H[b]? with
    | none => simp [hk] at hb
    | some k =>
      have hl := (List.getElem?_eq_some_iff.1 hk).1
      obtain ⟨h4, h5⟩ := h2 b hl h3.1 h3.2
      rw [if_pos ⟨by omega, h5⟩, h.2 b hl h4]
      exact hb
  · cases hb
theorem vwl_vw (lo : Nat) (xs : List Nat) (H : Heap) : Sub (vwl lo xs H) (vw lo H) := by
  intro b cs hb
  unfold vwl at hb
  unfold vw
  split at hb
  · rename_i h; rw [if_pos h.1]; exact hb
  · cases hb
theorem op_app_lit {F : Nat → Option IFn} {lo : Nat} {e : Env} {H : Heap} {K : Value → Heap → Prop} {es et bytes : Nat} {kill so : Bool} {x y : Opd} {b c m c' : Nat} {a : Addr} {ys : List Value} (hx : x.ev e = .slice (some ⟨b, 0, none⟩) 0 c) (hy : y.ev e = .slice (some a) m c') (hm : m ≠ 0) (hg : getCells H a.block a.off (m * es) = some ys)
    (hk : H[b]? = some ⟨[], es, et, true, so⟩) (hlt : b < lo) (h1 : m * bytes ≤ 140737488355328) (h2 : m ≤ 9223372036854775807) (k : K (sli H.length 0 m) (H ++ [⟨ys, es, et, true, true⟩])) : wpOp F lo (.app es et bytes kill x y) e H K :=
  ⟨_, _, by
    simp only [iop, hx, hy]
    rw [if_neg hm]
    simp only [hg, hk]
    rw [if_neg (fun h => by have := h.1; omega), if_pos ⟨trivial, trivial, trivial, trivial, trivial, trivial, h1, h2⟩], k⟩
/-! ### Lists that are made by appending -/
/-! ### Codes that are drawn from -/
theorem gc_set {H : Heap} {b : Nat} (hb : b < H.length) (k : Blk) (o n : Nat) : getCells (H.set b k) b o n = inBlk (some k) o n := by unfold getCells; rw [List.getElem?_set_self hb]; rfl
theorem gc_of {H : Heap} {b : Nat} {k : Blk} (h : H[b]? = some k) (o n : Nat) : getCells H b o n = inBlk (some k) o n := by unfold getCells; rw [h]; rfl
theorem AgX.setN {xs : List Nat} {H H' : Heap} (h : AgX xs H H') {b : Nat} (hb : H.length ≤ b) (k : Blk) : AgX xs H (H'.set b k) := h.trans (AgX.set H' b k) (fun _ h _ => h) (fun b' h1 h2 => by simp only [List.mem_singleton] at h1; omega)
theorem AgX.tr {xs : List Nat} {H H1 H2 : Heap} (h : AgX xs H H1) (h' : AgX xs H1 H2) : AgX xs H H2 := h.trans h' (fun _ h _ => h) (fun _ h _ => h)
end Go.Proofs.YtmakdcbpohlacaaI
end
section
/- Codes that are drawn from: what is picked. -/
set_option linter.unusedVariables false
set_option linter.unusedSimpArgs false
namespace Go.Proofs.YtmakdcbpohlacaaI
open Go Go.RowKit
@[go_sem] theorem nilckV_ptr (b o : Nat) : nilckV (ptr b o) = some (ptr b o) := rfl
theorem beq_t {a b : Int} (h : a = b) : (a == b) = true := beq_iff_eq.2 h
theorem beq_f {a b : Int} (h : ¬ a = b) : (a == b) = false := beq_eq_false_iff_ne.2 h
end Go.Proofs.YtmakdcbpohlacaaI
end
section
/- Labels and values that are drawn. -/
set_option linter.unusedVariables false
set_option linter.unusedSimpArgs false
namespace Go.Proofs.YtmakdcbpohlacaaI
open Go Go.RowKit
section
variable {F : Nat → Option IFn} {H0 H B L : Heap} {rb lo : Nat} {bv : Value} {code : List Int} {p n : Int} {e : Env} {x y : Opd}
end
end Go.Proofs.YtmakdcbpohlacaaI
end
section
/- Values that are drawn. -/
set_option linter.unusedVariables false
set_option linter.unusedSimpArgs false
namespace Go.Proofs.YtmakdcbpohlacaaI
open Go Go.RowKit
end Go.Proofs.YtmakdcbpohlacaaI
end
section
/- Steps that are drawn: one turn. -/
set_option linter.unusedVariables false
set_option linter.unusedSimpArgs false
namespace Go.Proofs.YtmakdcbpohlacaaI
open Go Go.RowKit
section
variable {H0 : Heap} {rb : Nat} {bv : Value} {code : List Int} {H : Heap} {d b : Nat} {so : Bool} {l : List (TStep (d + 1))} {bs : Nat} {cells cells' : List Value} {p p' : Int} {Hc Hc' : Heap}
end
end Go.Proofs.YtmakdcbpohlacaaI
end
section
/- Steps that are drawn. -/
set_option linter.unusedVariables false
set_option linter.unusedSimpArgs false
namespace Go.Proofs.YtmakdcbpohlacaaI
open Go Go.RowKit
end Go.Proofs.YtmakdcbpohlacaaI
end
end
